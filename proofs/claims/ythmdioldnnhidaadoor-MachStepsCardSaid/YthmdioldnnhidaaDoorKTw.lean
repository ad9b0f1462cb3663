/- The program's and the reference's machine side by side in memory; comparisons of a flat program and of inputs with themselves; the law's reg. Conditions: where they lie, how they read. -/
import Derived.Test.YthmdioldnnhidaaDoorKOl
import Derived.Test.YthmdioldnnhidaaDoorRNd
set_option linter.unnecessarySimpa false
set_option linter.unusedVariables false
set_option linter.unusedSimpArgs false
namespace Go.Proofs.YthmdioldnnhidaaDoor
open Go.ChangeShapes Go.WideShapes Go.ChangeAt Go.RowKit
theorem eqStr_self (l : List ByteArray) : eqL eqStr l l = true := eqL_refl (fun x => by simp [eqStr]) l
theorem eqInt_self (l : List Int) : eqL eqInt l l = true := eqL_refl (fun x => by simp [eqInt]) l
theorem eqNum_self (l : List Int) : eqL eqNum l l = true := eqL_refl (fun x => by simp [eqNum]) l
theorem eqCode_self (l : List CodeD) : eqL eqCode l l = true := eqL_refl (fun x => by simp [eqCode]) l
set_option maxRecDepth 100000 in
set_option maxHeartbeats 1600000 in
theorem equalFlatSelf (f : FlatD) (cv sv av kv cv' sv' av' kv' : Value) (w : World) (h : RdFlat none w f cv sv av kv) (g : RdFlat none w f cv' sv' av' kv') :
    Calls Tryd.prog 15 #[flatV f cv sv av kv, flatV f cv' sv' av' kv'] w fun e w' => e = .returned (.bool true) ∧ Below w.heap.size w w' := by
  obtain ⟨ca, cc, rfl⟩ := h.1.is
  obtain ⟨sa, sc, rfl⟩ := h.2.1.is
  obtain ⟨aa, ac, rfl⟩ := h.2.2.1.is
  obtain ⟨ka, kc, rfl⟩ := h.2.2.2.1.is
  obtain ⟨caS, ccS, rfl⟩ := g.1.is
  obtain ⟨saS, scS, rfl⟩ := g.2.1.is
  obtain ⟨aaS, acS, rfl⟩ := g.2.2.1.is
  obtain ⟨kaS, kcS, rfl⟩ := g.2.2.2.1.is
  have hal := ((Below.refl w.heap.size w).alloc (Nat.le_refl _) (.cells #[.int .i64 f.width, .int .i64 f.regs, .slice ca f.chans.length cc, .slice sa f.sites.length sc, .slice aa f.arrays.length ac, .slice ka f.code.length kc] 26)).alloc (by simp) (.cells #[.int .i64 f.width, .int .i64 f.regs, .slice caS f.chans.length ccS, .slice saS f.sites.length scS, .slice aaS f.arrays.length acS, .slice kaS f.code.length kcS] 26)
  have hbb := heap2_of (w := w) (A := (.cells #[.int .i64 f.width, .int .i64 f.regs, .slice ca f.chans.length cc, .slice sa f.sites.length sc, .slice aa f.arrays.length ac, .slice ka f.code.length kc] 26)) (B := (.cells #[.int .i64 f.width, .int .i64 f.regs, .slice caS f.chans.length ccS, .slice saS f.sites.length scS, .slice aaS f.arrays.length acS, .slice kaS f.code.length kcS] 26)) (Below.refl _ _)
  have HX := Lib.hid (h.keep hal)
  have HY := Lib.hid (g.keep hal)
  have G0 := Lib.hid hbb.1
  have G1 := Lib.hid hbb.2.1
  have HB := Lib.hid hal
  clear hal hbb h g
  go_enter Tryd.func15, Tryd.ntmps15
  go_upto_region 1 with fail
  generalize ((w.alloc (.cells #[.int .i64 f.width, .int .i64 f.regs, .slice ca f.chans.length cc, .slice sa f.sites.length sc, .slice aa f.arrays.length ac, .slice ka f.code.length kc] 26)).alloc (.cells #[.int .i64 f.width, .int .i64 f.regs, .slice caS f.chans.length ccS, .slice saS f.sites.length scS, .slice aaS f.arrays.length acS, .slice kaS f.code.length kcS] 26)) = W at *
  have hsW : w.heap.size + 1 < W.heap.size := (Array.getElem?_eq_some_iff.1 G1.out).1
  have HK : Hid (∀ w' : World, Below W.heap.size W w' → w'.heap[w.heap.size]? = W.heap[w.heap.size]? ∧ w'.heap[w.heap.size + 1]? = W.heap[w.heap.size + 1]?) := fun w' hb => ⟨hb.block _ (by omega), hb.block _ (by omega)⟩
  have hc0 := fun (w' : World) (hb : Below W.heap.size W w') => equalStr _ _ _ _ w' (HX.out.1.keep hb) (HY.out.1.keep hb)
  have hc1 := fun (w' : World) (hb : Below W.heap.size W w') => equalStr _ _ _ _ w' (HX.out.2.1.keep hb) (HY.out.2.1.keep hb)
  have hc2 := fun (w' : World) (hb : Below W.heap.size W w') => equalInt _ _ _ _ w' (HX.out.2.2.1.keep hb) (HY.out.2.2.1.keep hb)
  have hc3 := fun (w' : World) (hb : Below W.heap.size W w') => equalCode _ _ _ _ w' (HX.out.2.2.2.1.keep hb) (HY.out.2.2.2.1.keep hb)
  rw [eqStr_self] at hc0 hc1
  rw [eqInt_self] at hc2
  rw [eqCode_self] at hc3
  have HC0 := Lib.hid hc0
  have HC1 := Lib.hid hc1
  have HC2 := Lib.hid hc2
  have HC3 := Lib.hid hc3
  clear hc0 hc1 hc2 hc3
  have i0 := row_of G0.out 0 (.int .i64 f.width) rfl
  have j0 := row_of G1.out 0 (.int .i64 f.width) rfl
  have i1 := row_of G0.out 1 (.int .i64 f.regs) rfl
  have j1 := row_of G1.out 1 (.int .i64 f.regs) rfl
  have i2 := row_of G0.out 2 (.slice ca f.chans.length cc) rfl
  have j2 := row_of G1.out 2 (.slice caS f.chans.length ccS) rfl
  have e0 : (f.width == f.width) = true := by simp
  have e1 : (f.regs == f.regs) = true := by simp
  go_wp2_with (first | (go_at_call 38; with_reducible refine (HC0.out _ (Below.refl _ _)).mono ?_; rintro e w1 ⟨rfl, hw⟩; have B1 := Lib.hid (hw); clear hw; have i3 := row_of ((HK.out _ B1.out).1.trans G0.out) 3 (.slice sa f.sites.length sc) rfl; have j3 := row_of ((HK.out _ B1.out).2.trans G1.out) 3 (.slice saS f.sites.length scS) rfl) | (go_at_call 38; with_reducible refine (HC1.out _ B1.out).mono ?_; rintro e w2 ⟨rfl, hw⟩; have B2 := Lib.hid (bcomp B1.out hw); clear hw; have i4 := row_of ((HK.out _ B2.out).1.trans G0.out) 4 (.slice aa f.arrays.length ac) rfl; have j4 := row_of ((HK.out _ B2.out).2.trans G1.out) 4 (.slice aaS f.arrays.length acS) rfl) | (go_at_call 39; with_reducible refine (HC2.out _ B2.out).mono ?_; rintro e w3 ⟨rfl, hw⟩; have B3 := Lib.hid (bcomp B2.out hw); clear hw; have i5 := row_of ((HK.out _ B3.out).1.trans G0.out) 5 (.slice ka f.code.length kc) rfl; have j5 := row_of ((HK.out _ B3.out).2.trans G1.out) 5 (.slice kaS f.code.length kcS) rfl) | (go_at_call 40; with_reducible refine (HC3.out _ B3.out).mono ?_; rintro e w4 ⟨rfl, hw⟩; have B4 := Lib.hid (bcomp B3.out hw); clear hw))
  go_ret
  exact ⟨rfl, bcomp HB.out B4.out⟩
set_option maxRecDepth 100000 in
set_option maxHeartbeats 1600000 in
theorem equalListsSelf (L : List (List Int)) (av bv : Value) (w : World) (h : RdLists none w av L) (g : RdLists none w bv L) :
    Calls Tryd.prog 16 #[av, bv] w fun e w' => e = .returned (.bool true) ∧ Below w.heap.size w w' := by
  obtain ⟨a, c, rfl⟩ := h.is
  obtain ⟨a', c', rfl⟩ := g.is
  have HX := Lib.hid h
  have HY := Lib.hid g
  have hl : L.length * 24 ≤ 140737488351232 := h.size
  have e0 : ((L.length : Int) != (L.length : Int)) = false := by simp
  clear h g
  go_enter Tryd.func16, Tryd.ntmps16
  go_wp2_with fail
  go_loopw [5] (fun i wr => ∃ k : Nat, k ≤ L.length ∧ i = .int .i64 k ∧ Below w.heap.size w wr) (fun i _ => L.length - (intOf i).toNat)
  case atStart => exact ⟨0, Nat.zero_le _, rfl, Below.refl _ _⟩
  case round =>
    obtain ⟨k, hk, rfl, hb⟩ := hrel
    by_cases hlt : k < L.length
    · obtain ⟨x, hx⟩ : ∃ x, L[k]? = some x := ⟨_, List.getElem?_eq_getElem hlt⟩
      obtain ⟨b, o, xa, xc, rfl, _, c0, hx0⟩ := RdLists.at (HX.out.keep hb) hx
      obtain ⟨b', o', xa', xc', rfl, _, c0', hx0'⟩ := RdLists.at (HY.out.keep hb) hx
      have HCE := Lib.hid (fun (z : World) => by have := equalNum _ _ _ _ (ext wr z) (hx0.forget.keep (ext_below wr z)) (hx0'.forget.keep (ext_below wr z)); rw [eqNum_self] at this; exact this)
      have hk1 : (k : Int) < (L.length : Int) := by omega
      have e1 := ext_cell c0
      have e2 := ext_cell c0'
      clear hx c0 c0' hx0 hx0'
      go_upto_region 6 with fail
      (refine wp_region_calm (by kernel_rfl) (by kernel_rfl) ?_; (repeat (go_big_quiet_step ((go_at_call 41; exact calls_calm (HCE.out _))))); refine wpQuiet_nil ?_; intro wc hwc)
      have HBN := Lib.hid (hb.trans (hwc.mono (by have := hb.size; omega)))
      clear e1 e2 hwc
      go_wp2_with fail
      go_roundw
      case rel => exact ⟨k + 1, by omega, by go_num, HBN.out⟩
      case measure => simp [intOf]; omega
    · have hk1 : ¬ (k : Int) < (L.length : Int) := by omega
      go_wp2_with fail
      go_ret
      exact ⟨rfl, hb⟩
/-- Both machines, apart from one another, from n1 on. -/
def Two (n1 : Nat) (w : World) (bm br : Nat) (f : FlatD) (L : List (List Int)) (m1 m2 : MachD) : Prop :=
  ∃ G1 G2 : Nat → Prop, MachIn G1 w bm f (insM f L) m1 ∧ RefIn0 G2 w br f L m2 ∧ (∀ b, G1 b → n1 ≤ b ∧ b < w.heap.size ∧ ¬ G2 b) ∧ (∀ b, G2 b → n1 ≤ b ∧ b < w.heap.size)
theorem MachIn.same {G : Nat → Prop} {w w' : World} {bm : Nat} {f : FlatD} {ins : List (List Int)} {m : MachD} (h : MachIn G w bm f ins m) (k : ∀ b, G b → b < w.heap.size → w'.heap[b]? = w.heap[b]?) : MachIn G w' bm f ins m := by
  obtain ⟨I, c8, c9, c10, kv, iv, av, ov, rv, bv, gb, db, bs, h⟩ := h
  exact ⟨I, c8, c9, c10, kv, iv, av, ov, rv, bv, gb, db, bs, h.same k⟩
theorem Two.keep {n1 : Nat} {w w' : World} {bm br : Nat} {f : FlatD} {L : List (List Int)} {m1 m2 : MachD} (h : Two n1 w bm br f L m1 m2) (k : Below w.heap.size w w') : Two n1 w' bm br f L m1 m2 := by
  obtain ⟨G1, G2, h1, h2, h3, h4⟩ := h
  exact ⟨G1, G2, h1.same fun b _ hl => k.block b hl, h2.same fun b _ hl => k.block b hl, fun b hb => ⟨(h3 b hb).1, Nat.lt_of_lt_of_le (h3 b hb).2.1 k.size, (h3 b hb).2.2⟩, fun b hb => ⟨(h4 b hb).1, Nat.lt_of_lt_of_le (h4 b hb).2 k.size⟩⟩
/-- Where only blocks below n1, and new ones, turn. -/
theorem Two.keepUp {n1 : Nat} {w w' : World} {bm br : Nat} {f : FlatD} {L : List (List Int)} {m1 m2 : MachD} (h : Two n1 w bm br f L m1 m2) (hs : w.heap.size ≤ w'.heap.size) (k : ∀ b, n1 ≤ b → b < w.heap.size → w'.heap[b]? = w.heap[b]?) : Two n1 w' bm br f L m1 m2 := by
  obtain ⟨G1, G2, h1, h2, h3, h4⟩ := h
  exact ⟨G1, G2, h1.same fun b hb hl => k b (h3 b hb).1 hl, h2.same fun b hb hl => k b (h4 b hb).1 hl, fun b hb => ⟨(h3 b hb).1, Nat.lt_of_lt_of_le (h3 b hb).2.1 hs, (h3 b hb).2.2⟩, fun b hb => ⟨(h4 b hb).1, Nat.lt_of_lt_of_le (h4 b hb).2 hs⟩⟩
theorem pair_new {w0 w1 w2 : World} {bm br : Nat} {f : FlatD} {L : List (List Int)} (h1 : MachIn (fun b => w0.heap.size ≤ b ∧ b < w1.heap.size) w1 bm f (insM f L) (newM f)) (hb : Below w1.heap.size w1 w2) (hs : w0.heap.size ≤ w1.heap.size)
    (h2 : RefIn0 (fun b => w1.heap.size ≤ b ∧ b < w2.heap.size) w2 br f L (newM f)) : Two w0.heap.size w2 bm br f L (newM f) (newM f) :=
  ⟨_, _, h1.same fun b _ hl => hb.block b hl, h2, fun b h => ⟨h.1, Nat.lt_of_lt_of_le h.2 hb.size, fun h' => by have := h.2; have := h'.1; omega⟩, fun b h => ⟨by have := h.1; omega, h.2⟩⟩
theorem two_step1 {n1 : Nat} {w : World} {bm br : Nat} {f : FlatD} {L : List (List Int)} {m1 m2 : MachD} (h : Two n1 w bm br f L m1 m2) (hn : n1 ≤ w.heap.size) (hL : Laid w) (hh : HeadP f) {k : Nat} (g : Going f m1 k) (hk : k < 1000000) (hins : (insM f L).length = f.chans.length) :
    Calls Tryd.prog 23 #[.pointer (some ⟨bm, 0, none⟩)] w fun e w' => e = .returned (.bool (m1.t.status == 2)) ∧ Two n1 w' bm br f L (stepM f (insM f L) m1) m2 ∧ Turn (fun b => n1 ≤ b) w w' := by
  obtain ⟨G1, G2, ⟨I, c8, c9, c10, kv, iv, av, ov, rv, bv, gb, db, bs, h1⟩, h2, h3, h4⟩ := h
  refine (machStep h1 hL hh g.good hins (by have := g.steps; omega) g.pc0 g.pc1).mono fun e w' ⟨he, hp⟩ => ⟨he, ⟨Grow G1 w w', G2, hp.1, h2.same (fun b hb' hl => hp.2.block b hl fun h => (h3 b h).2.2 hb'), fun b hb' => ?_, fun b hb' => ⟨(h4 b hb').1, Nat.lt_of_lt_of_le (h4 b hb').2 hp.2.size⟩⟩, hp.2.mono fun b _ h => (h3 b h).1⟩
  rcases hb' with h | h
  · exact ⟨(h3 b h).1, Nat.lt_of_lt_of_le (h3 b h).2.1 hp.2.size, (h3 b h).2.2⟩
  · exact ⟨Nat.le_trans hn h.1, h.2, fun h' => by have := (h4 b h').2; have := h.1; omega⟩
theorem two_step2 {n1 : Nat} {w : World} {bm br : Nat} {f : FlatD} {L : List (List Int)} {m1 m2 : MachD} (h : Two n1 w bm br f L m1 m2) (hn : n1 ≤ w.heap.size) (hh : HeadP f) {k : Nat} (g : Going f m2 k) (hk : k < 1000000) (hins : L.length ≤ 1000) :
    Calls Tryd.prog 24 #[.pointer (some ⟨br, 0, none⟩)] w fun e w' => e = .returned (.bool (m2.t.status == 2)) ∧ Two n1 w' bm br f L m1 (stepM f L m2) ∧ Turn (fun b => n1 ≤ b) w w' := by
  obtain ⟨G1, G2, h1, ⟨I, c2, c3, c4, kv, iv, av, ov, rv, bv, gb, db, bs, h2⟩, h3, h4⟩ := h
  refine (refStep h2 hh g.good hins (fun b hb => (h4 b hb).2) (by have := g.steps; omega) g.pc0 g.pc1).mono fun e w' ⟨he, hp⟩ => ⟨he, ⟨G1, Grow G2 w w', h1.same (fun b hb' hl => hp.2.block b hl fun h => (h3 b hb').2.2 h), hp.1, fun b hb' => ⟨(h3 b hb').1, Nat.lt_of_lt_of_le (h3 b hb').2.1 hp.2.size, ?_⟩, fun b hb' => ?_⟩, hp.2.mono fun b _ h => (h4 b h).1⟩
  · rintro (h | h)
    · exact (h3 b hb').2.2 h
    · have := (h3 b hb').2.1; have := h.1; omega
  · rcases hb' with h | h
    · exact ⟨(h4 b h).1, Nat.lt_of_lt_of_le (h4 b h).2 hp.2.size⟩
    · exact ⟨Nat.le_trans hn h.1, h.2⟩
/-- Trace's contract, its slices in the open. -/
def TraceIt (t : TraceD) (w : World) (e : Ending) (w' : World) : Prop :=
  ∃ a1 a2 a3 a4 a5 a6 a7 a8, e = .returned (.agg #[.int .u8 t.status, .int .i64 t.steps, .slice a1 t.outs.length a2, .slice a3 t.rels.length a4, .slice a5 t.brs.length a6, .slice a7 t.reads.length a8]) ∧ RdTrace (some (upFrom w.heap.size)) w' t (.slice a1 t.outs.length a2) (.slice a3 t.rels.length a4) (.slice a5 t.brs.length a6) (.slice a7 t.reads.length a8) ∧ Below w.heap.size w w'
theorem two_trace {n1 : Nat} {w : World} {bm br : Nat} {f : FlatD} {L : List (List Int)} {m1 m2 : MachD} (h : Two n1 w bm br f L m1 m2) (hh : HeadP f) {k : Nat} (g : Going f m1 k) (hk : k ≤ 1000000) :
    Calls Tryd.prog 18 #[.pointer (some ⟨bm, 0, none⟩)] w (TraceIt m1.t w) := by
  obtain ⟨G1, G2, ⟨I, c8, c9, c10, kv, iv, av, ov, rv, bv, gb, db, bs, h1⟩, h2, h3, h4⟩ := h
  refine (machTrace h1 hh g.good (by have := g.steps; omega)).mono ?_
  rintro e w' ⟨v1, v2, v3, v4, rfl, hr, hb⟩
  obtain ⟨a1, a2, rfl⟩ := hr.1.is; obtain ⟨a3, a4, rfl⟩ := hr.2.1.is; obtain ⟨a5, a6, rfl⟩ := hr.2.2.1.is; obtain ⟨a7, a8, rfl⟩ := hr.2.2.2.1.is
  exact ⟨a1, a2, a3, a4, a5, a6, a7, a8, rfl, hr, hb⟩
theorem two_reg {n1 : Nat} {w : World} {bm br : Nat} {f : FlatD} {L : List (List Int)} {m1 m2 : MachD} (h : Two n1 w bm br f L m1 m2) (i : Int) (hi : InI64 i) (hl : m1.regs.length ≤ 2097152) :
    Calls Tryd.prog 21 #[.pointer (some ⟨bm, 0, none⟩), .int .i64 i] w fun e w' => e = .returned (.int .u64 (regM m1 i)) ∧ w = w' := by
  obtain ⟨G1, G2, ⟨I, c8, c9, c10, kv, iv, av, ov, rv, bv, gb, db, bs, h1⟩, h2, h3, h4⟩ := h
  exact machReg h1 i hi hl
theorem two_at {n1 : Nat} {w : World} {bm br : Nat} {f : FlatD} {L : List (List Int)} {m1 m2 : MachD} (h : Two n1 w bm br f L m1 m2) :
    Calls Tryd.prog 20 #[.pointer (some ⟨bm, 0, none⟩)] w fun e w' => e = .returned (.int .i64 m1.pc) ∧ w = w' := by
  obtain ⟨G1, G2, ⟨I, c8, c9, c10, kv, iv, av, ov, rv, bv, gb, db, bs, h1⟩, h2, h3, h4⟩ := h
  exact machAtOf h1
/-- The reference's trace, where it lies in the box, and the next instruction. -/
theorem two_ref {n1 : Nat} {w : World} {bm br : Nat} {f : FlatD} {L : List (List Int)} {m1 m2 : MachD} (h : Two n1 w bm br f L m1 m2) (hh : HeadP f) {k : Nat} (g : Going f m2 k) (hk : k ≤ 1000000) :
    ∃ xa1 xc1 xa2 xc2 xa3 xc3 db, w.rangeAt br 10 [.int .u8 m2.t.status, .int .i64 m2.t.steps, .slice xa1 m2.t.outs.length xc1, .slice xa2 m2.t.rels.length xc2, .slice xa3 m2.t.brs.length xc3, .slice (some ⟨db, 0, none⟩) m2.t.reads.length m2.t.reads.length] ∧ br < w.heap.size ∧ w.cell? ⟨br, 9, none⟩ = some (.int .i64 m2.pc) ∧
      RdTrace (some (upFrom n1)) w m2.t (.slice xa1 m2.t.outs.length xc1) (.slice xa2 m2.t.rels.length xc2) (.slice xa3 m2.t.brs.length xc3) (.slice (some ⟨db, 0, none⟩) m2.t.reads.length m2.t.reads.length) := by
  obtain ⟨G1, G2, h1, ⟨I, c2, c3, c4, kv, iv, av, ov, rv, bv, gb, db, bs, h2⟩, h3, h4⟩ := h
  have ht := h2.trace hh g.good (by have := g.steps; omega) (n0 := n1) (fun b hb => (h4 b hb).1)
  obtain ⟨xa1, xc1, rfl⟩ := ht.1.is
  obtain ⟨xa2, xc2, rfl⟩ := ht.2.1.is
  obtain ⟨xa3, xc3, rfl⟩ := ht.2.2.1.is
  exact ⟨xa1, xc1, xa2, xc2, xa3, xc3, db, range_of h2.box 10 _ rfl, (Array.getElem?_eq_some_iff.1 h2.box).1, row_of h2.box 9 _ rfl, ht⟩
set_option maxRecDepth 100000 in
set_option maxHeartbeats 1600000 in
theorem two_refreg {n1 : Nat} {w : World} {bm br : Nat} {f : FlatD} {L : List (List Int)} {m1 m2 : MachD} (h : Two n1 w bm br f L m1 m2) (i : Int) (hi : InI64 i) (hl : m2.regs.length ≤ 2097152) :
    Calls Tryd.prog 22 #[.pointer (some ⟨br, 0, none⟩), .int .i64 i] w fun e w' => e = .returned (.int .u64 (regM m2 i)) ∧ w = w' := by
  obtain ⟨G1, G2, h1, ⟨I, c2, c3, c4, kv, iv, av, ov, rv, bv, gb, db, bs, h⟩, h3, h4⟩ := h
  have c7 := row_of h.box 7 _ rfl
  have hm := h.mem.regs
  clear h h1 h3 h4
  by_cases h0 : i < 0
  · have hres : Hid (regM m2 i = 0) := by show _ = _; rw [regM, if_pos h0]
    clear hm
    go_enter Tryd.func22, Tryd.ntmps22
    go_wp2
    go_ret
    exact ⟨by rw [hres.out]; rfl, rfl⟩
  · obtain ⟨k, rfl⟩ : ∃ k : Nat, i = k := ⟨i.toNat, by omega⟩
    by_cases h1 : k < m2.regs.length
    · obtain ⟨x, hx⟩ : ∃ x, m2.regs[k]? = some x := ⟨_, List.getElem?_eq_getElem h1⟩
      have hres : Hid (regM m2 k = x) := by show _ = _; rw [regM, if_neg (by omega), Int.toNat_natCast, List.getD_eq_getElem?_getD, hx]; rfl
      have cg := row_of hm k _ (u64s_get _ _ _ hx)
      have h2 : (k : Int) < (m2.regs.length : Int) := by omega
      clear hm hx
      go_enter Tryd.func22, Tryd.ntmps22
      go_wp2
      go_ret
      exact ⟨by rw [hres.out]; rfl, rfl⟩
    · have hres : Hid (regM m2 k = 0) := by show _ = _; rw [regM, if_neg (by omega), Int.toNat_natCast, List.getD_eq_getElem?_getD, List.getElem?_eq_none (by omega)]; rfl
      have h2 : (m2.regs.length : Int) ≤ (k : Int) := by omega
      clear hm
      go_enter Tryd.func22, Tryd.ntmps22
      go_wp2
      go_ret
      exact ⟨by rw [hres.out]; rfl, rfl⟩
/-- A number, an event's value, a bool in a row is written. -/
theorem row_turn {α : Type} {K : Kind α} {g : Nat → Prop} {w : World} {v : Value} {l : List α} (h : RdRow K (some g) w v l) {b o : Nat} {u : Value} {T0 : TypeId} {cs : Array Value} (hb : w.heap[b]? = some (.cells cs T0 (0, 0))) (hT : K.T ≠ T0) : RdRow K (some g) (w.setCell ⟨b, o, none⟩ u) v l :=
  RdRow.map (fun b' hlt hf => set_hF hb _ b' trivial hlt hf) (fun b' o' v hf hc => set_hC hb _ b' o' v hT hf hc) h
theorem row_set {α : Type} {K : Kind α} {g : Nat → Prop} {w : World} {b o c k j : Nat} {l : List α} {x y : α} {u : Value} (h : RdRow K (some g) w (.slice (some ⟨b, o, none⟩) l.length c) l) (hk : l[k]? = some x) (hj : j < K.sz) (hy : K.cells y = (K.cells x).set j u) (hok : K.ok y) :
    RdRow K (some g) (w.setCell ⟨b, o + k * K.sz + j, none⟩ u) (.slice (some ⟨b, o, none⟩) l.length c) (l.set k y) := by
  obtain ⟨a', c', e, hl, hr⟩ := h
  simp only [Value.slice.injEq] at e
  obtain ⟨rfl, _, rfl⟩ := e
  obtain ⟨b0, o0, e0, hf0, hc0, hz0⟩ := hr k x hk
  simp only [Option.some.injEq, Addr.mk.injEq, and_true] at e0
  obtain ⟨rfl, rfl⟩ := e0
  obtain ⟨hg, cs, hb⟩ := hf0 g rfl
  have hjl : j < (K.cells x).length := by rw [K.len]; exact hj
  have hold := hc0 j _ (List.getElem?_eq_getElem hjl)
  refine ⟨some ⟨b, o, none⟩, c, by rw [List.length_set], by rw [List.length_set]; exact hl, fun i z hz => ⟨b, o, rfl, Free.of hg (heap_setCell_same _ _ _ _ _ _ hb), fun q v hq => ?_, ?_⟩⟩
  · rcases set_at hz with ⟨rfl, rfl, _⟩ | ⟨hne, hz⟩
    · rw [hy, List.getElem?_set] at hq
      split at hq
      · rename_i ej
        subst ej
        first | cases hq | (rw [if_pos hjl] at hq; cases hq)
        exact World.cell?_setCell_same _ _ _ hold
      · rename_i ej
        exact cell_set_off (by omega) (hc0 q v hq)
    · obtain ⟨b1, o1, e1, _, hc1, _⟩ := hr i z hz
      simp only [Option.some.injEq, Addr.mk.injEq, and_true] at e1
      obtain ⟨rfl, rfl⟩ := e1
      have hql : q < K.sz := by rw [← K.len z]; exact (List.getElem?_eq_some_iff.1 hq).1
      refine cell_set_off (fun e => hne ?_) (hc1 q v hq)
      have h1 : (k * K.sz + j) / K.sz = (i * K.sz + q) / K.sz := by congr 1; omega
      have hpos : 0 < K.sz := by omega
      rw [Nat.add_comm, Nat.add_mul_div_right _ _ hpos, Nat.div_eq_of_lt hj, Nat.add_comm (i * K.sz), Nat.add_mul_div_right _ _ hpos, Nat.div_eq_of_lt hql] at h1
      omega
  · rcases set_at hz with ⟨rfl, rfl, _⟩ | ⟨hne, hz⟩
    · exact hok
    · obtain ⟨b1, o1, e1, _, _, hz1⟩ := hr i z hz; exact hz1
/-- A trace's copy whose lists are written: the lists stay as long as they are. -/
def XR (zb : Nat) (cs : Array Value) (t : TraceD) (a1 : Option Addr) (a2 : Nat) (a5 : Option Addr) (a6 : Nat) (a7 : Option Addr) (a8 : Nat) (w0 w : World) : Prop :=
  ∃ (lr : List Int) (lo : List EvD) (lb : List Bool), lr.length = t.reads.length ∧ lo.length = t.outs.length ∧ lb.length = t.brs.length ∧
    RdRow kInt (some (upFrom w0.heap.size)) w (.slice a7 lr.length a8) lr ∧ RdRow kEv (some (upFrom w0.heap.size)) w (.slice a1 lo.length a2) lo ∧ RdRow kBool (some (upFrom w0.heap.size)) w (.slice a5 lb.length a6) lb ∧
    w.heap[zb]? = some (.cells cs 49 (0, 0)) ∧ Below w0.heap.size w0 w
theorem XR.keep {zb : Nat} {cs : Array Value} {t : TraceD} {a1 a5 a7 : Option Addr} {a2 a6 a8 : Nat} {w0 w w' : World} (h : XR zb cs t a1 a2 a5 a6 a7 a8 w0 w) (k : Below w.heap.size w w') : XR zb cs t a1 a2 a5 a6 a7 a8 w0 w' := by
  obtain ⟨lr, lo, lb, h1, h2, h3, h4, h5, h6, h7, h8⟩ := h
  exact ⟨lr, lo, lb, h1, h2, h3, h4.keep k, h5.keep k, h6.keep k, (k.block _ (Array.getElem?_eq_some_iff.1 h7).1).trans h7, bcomp h8 k⟩
theorem XR.read {zb : Nat} {cs : Array Value} {t : TraceD} {a1 a5 a7 : Option Addr} {a2 a6 a8 : Nat} {w0 w : World} (h : XR zb cs t a1 a2 a5 a6 a7 a8 w0 w) {i : Nat} (hi : i < t.reads.length) :
    ∃ b o v, a7 = some ⟨b, o, none⟩ ∧ w.cell? ⟨b, o + i, none⟩ = some (.int .i64 v) ∧ InI64 v ∧ w.frozen? ⟨b, o + i, none⟩ = false ∧ ∀ v', InI64 v' → XR zb cs t a1 a2 a5 a6 (some ⟨b, o, none⟩) a8 w0 (w.setCell ⟨b, o + i, none⟩ (.int .i64 v')) := by
  obtain ⟨lr, lo, lb, h1, h2, h3, h4, h5, h6, h7, h8⟩ := h
  have hx := List.getElem?_eq_getElem (l := lr) (i := i) (by omega)
  obtain ⟨b, o, rfl, hf, hc, hv⟩ := atInt h4 hx
  obtain ⟨hg, cs0, hb⟩ := hf _ rfl
  refine ⟨b, o, lr[i], rfl, hc, hv, hf.frozen _, fun v' hv' => ⟨lr.set i v', lo, lb, by rw [List.length_set]; exact h1, h2, h3, ?_, row_turn h5 hb (by decide), row_turn h6 hb (by decide), (heap_setCell_other _ _ _ _ (by simpa using row_ne h7 hb (by decide))).trans h7, h8.setCell (show w0.heap.size ≤ b from hg) _⟩⟩
  have := row_set (K := kInt) (j := 0) (y := v') (u := .int .i64 v') h4 hx (by decide) rfl hv'
  rw [List.length_set]
  simpa using this
theorem XR.out {zb : Nat} {cs : Array Value} {t : TraceD} {a1 a5 a7 : Option Addr} {a2 a6 a8 : Nat} {w0 w : World} (h : XR zb cs t a1 a2 a5 a6 a7 a8 w0 w) {i : Nat} (hi : i < t.outs.length) :
    ∃ b o v, a1 = some ⟨b, o, none⟩ ∧ w.cell? ⟨b, o + i * 2 + 1, none⟩ = some (.int .u64 v) ∧ InU64 v ∧ w.frozen? ⟨b, o + i * 2 + 1, none⟩ = false ∧ ∀ v', InU64 v' → XR zb cs t (some ⟨b, o, none⟩) a2 a5 a6 a7 a8 w0 (w.setCell ⟨b, o + i * 2 + 1, none⟩ (.int .u64 v')) := by
  obtain ⟨lr, lo, lb, h1, h2, h3, h4, h5, h6, h7, h8⟩ := h
  have hx := List.getElem?_eq_getElem (l := lo) (i := i) (by omega)
  obtain ⟨b, o, rfl, hf, hc0, hc1, hv⟩ := atEv h5 hx
  obtain ⟨hg, cs0, hb⟩ := hf _ rfl
  refine ⟨b, o, lo[i].val, rfl, hc1, hv.2, hf.frozen _, fun v' hv' => ⟨lr, lo.set i ⟨lo[i].n, v'⟩, lb, h1, by rw [List.length_set]; exact h2, h3, row_turn h4 hb (by decide), ?_, row_turn h6 hb (by decide), (heap_setCell_other _ _ _ _ (by simpa using row_ne h7 hb (by decide))).trans h7, h8.setCell (show w0.heap.size ≤ b from hg) _⟩⟩
  have := row_set (K := kEv) (j := 1) (y := ⟨lo[i].n, v'⟩) (u := .int .u64 v') h5 hx (by decide) rfl ⟨hv.1, hv'⟩
  rw [List.length_set]
  simpa using this
theorem XR.br {zb : Nat} {cs : Array Value} {t : TraceD} {a1 a5 a7 : Option Addr} {a2 a6 a8 : Nat} {w0 w : World} (h : XR zb cs t a1 a2 a5 a6 a7 a8 w0 w) {i : Nat} (hi : i < t.brs.length) :
    ∃ b o v, a5 = some ⟨b, o, none⟩ ∧ w.cell? ⟨b, o + i, none⟩ = some (.bool v) ∧ b < w.heap.size ∧ (∃ cs0, w.heap[b]? = some (.cells cs0 4 (0, 0))) ∧ ∀ v', XR zb cs t a1 a2 (some ⟨b, o, none⟩) a6 a7 a8 w0 (w.setCell ⟨b, o + i, none⟩ (.bool v')) := by
  obtain ⟨lr, lo, lb, h1, h2, h3, h4, h5, h6, h7, h8⟩ := h
  have hx := List.getElem?_eq_getElem (l := lb) (i := i) (by omega)
  obtain ⟨b, o, rfl, hf, hc, _⟩ := atBool h6 hx
  obtain ⟨hg, cs0, hb⟩ := hf _ rfl
  refine ⟨b, o, lb[i], rfl, hc, (Array.getElem?_eq_some_iff.1 hb).1, ⟨cs0, hb⟩, fun v' => ⟨lr, lo, lb.set i v', h1, h2, by rw [List.length_set]; exact h3, row_turn h4 hb (by decide), row_turn h5 hb (by decide), ?_, (heap_setCell_other _ _ _ _ (by simpa using row_ne h7 hb (by decide))).trans h7, h8.setCell (show w0.heap.size ≤ b from hg) _⟩⟩
  have := row_set (K := kBool) (j := 0) (y := v') (u := .bool v') h6 hx (by decide) rfl trivial
  rw [List.length_set]
  simpa using this
theorem XR.box {zb : Nat} {cs : Array Value} {t : TraceD} {a1 a5 a7 : Option Addr} {a2 a6 a8 : Nat} {w0 w : World} (h : XR zb cs t a1 a2 a5 a6 a7 a8 w0 w) : w.heap[zb]? = some (.cells cs 49 (0, 0)) := by
  obtain ⟨lr, lo, lb, h1, h2, h3, h4, h5, h6, h7, h8⟩ := h; exact h7
theorem XR.below {zb : Nat} {cs : Array Value} {t : TraceD} {a1 a5 a7 : Option Addr} {a2 a6 a8 : Nat} {w0 w : World} (h : XR zb cs t a1 a2 a5 a6 a7 a8 w0 w) : Below w0.heap.size w0 w := by
  obtain ⟨lr, lo, lb, h1, h2, h3, h4, h5, h6, h7, h8⟩ := h; exact h8
theorem wrap64_ok (x : Int) : InI64 (wrap64 x) := by unfold wrap64 InI64; omega
theorem turn_setCells (b : Nat) : ∀ (l : List Value) (o : Nat) (w : World), Turn (fun y => y = b) w (w.setCells b o l)
  | [], _, w => Turn.refl _ w
  | v :: r, o, w => ((Turn.refl (fun y => y = b) w).setCell (a := ⟨b, o, none⟩) rfl v).trans (turn_setCells b r (o + 1) _)
/-- The cells of a row of instructions may be written. -/
theorem there_code {g : Nat → Prop} {w : World} {a : Option Addr} {n c : Nat} {l : List CodeD} (h : RdRow kCode (some g) w (.slice a n c) l) (hp : 0 < l.length) : ∃ b o, a = some ⟨b, o, none⟩ ∧ g b ∧ b < w.heap.size ∧ (∃ cs, w.heap[b]? = some (.cells cs 44 (0, 0))) ∧ w.there b o (l.length * 8) := by
  obtain ⟨a', c', e, hl, hr⟩ := h
  simp only [Value.slice.injEq] at e
  obtain ⟨rfl, _, rfl⟩ := e
  obtain ⟨b, o, e0, hf, _, _⟩ := hr 0 _ (List.getElem?_eq_getElem hp)
  subst e0
  obtain ⟨hg, cs, hb⟩ := hf _ rfl
  refine ⟨b, o, rfl, hg, (Array.getElem?_eq_some_iff.1 hb).1, ⟨cs, hb⟩, fun j hj => ⟨?_, frozen_of_row w b (o + j) _ _ hb⟩⟩
  have hi : j / 8 < l.length := by omega
  obtain ⟨b1, o1, e1, _, hc, _⟩ := hr (j / 8) _ (List.getElem?_eq_getElem hi)
  simp only [Option.some.injEq, Addr.mk.injEq, and_true] at e1
  obtain ⟨rfl, rfl⟩ := e1
  have hlen : (kCode.cells l[j / 8]).length = 8 := kCode.len _
  have := hc (j % 8) _ (List.getElem?_eq_getElem (by rw [hlen]; omega))
  have e2 : o + j / 8 * 8 + j % 8 = o + j := by omega
  have e3 : o + j / 8 * kCode.sz + j % 8 = o + j := e2
  rw [e3] at this
  rw [this]; rfl
end Go.Proofs.YthmdioldnnhidaaDoor
