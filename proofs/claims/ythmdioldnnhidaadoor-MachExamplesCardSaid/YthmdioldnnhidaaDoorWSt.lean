/- The program's and the reference's machine side by side in memory; comparisons of a flat program and of inputs with themselves; the law's reg. Conditions: where they lie, how they read. The walk of MachSteps: called in whatever memory it returns true. Condition: what comes in reads as the arguments; the tables hold what they are laid with. -/
import Derived.Test.YthmdioldnnhidaaDoorKOl
import Derived.Test.YthmdioldnnhidaaDoorRNd
import Derived.Test.YthmdioldnnhidaaDoorWLb
set_option linter.unnecessarySimpa false
set_option linter.unusedVariables false
set_option linter.unusedSimpArgs false
namespace Go.Proofs.YthmdioldnnhidaaDoor
open Go.ChangeShapes Go.WideShapes Go.ChangeAt Go.RowKit
theorem eqStr_self (l : List ByteArray) : eqL eqStr l l = true := eqL_refl (fun x => by simp [eqStr]) l
theorem eqInt_self (l : List Int) : eqL eqInt l l = true := eqL_refl (fun x => by simp [eqInt]) l
theorem eqNum_self (l : List Int) : eqL eqNum l l = true := eqL_refl (fun x => by simp [eqNum]) l
theorem eqCode_self (l : List CodeD) : eqL eqCode l l = true := eqL_refl (fun x => by simp [eqCode]) l
set_option maxRecDepth 100000 in
set_option maxHeartbeats 1600000 in
theorem equalFlatSelf (f : FlatD) (cv sv av kv cv' sv' av' kv' : Value) (w : World) (h : RdFlat none w f cv sv av kv) (g : RdFlat none w f cv' sv' av' kv') :
    Calls Tryd.prog 15 #[flatV f cv sv av kv, flatV f cv' sv' av' kv'] w fun e w' => e = .returned (.bool true) ∧ Below w.heap.size w w' := by
  obtain ⟨ca, cc, rfl⟩ := h.1.is
  obtain ⟨sa, sc, rfl⟩ := h.2.1.is
  obtain ⟨aa, ac, rfl⟩ := h.2.2.1.is
  obtain ⟨ka, kc, rfl⟩ := h.2.2.2.1.is
  obtain ⟨caS, ccS, rfl⟩ := g.1.is
  obtain ⟨saS, scS, rfl⟩ := g.2.1.is
  obtain ⟨aaS, acS, rfl⟩ := g.2.2.1.is
  obtain ⟨kaS, kcS, rfl⟩ := g.2.2.2.1.is
  have hal := ((Below.refl w.heap.size w).alloc (Nat.le_refl _) (.cells #[.int .i64 f.width, .int .i64 f.regs, .slice ca f.chans.length cc, .slice sa f.sites.length sc, .slice aa f.arrays.length ac, .slice ka f.code.length kc] 26)).alloc (by simp) (.cells #[.int .i64 f.width, .int .i64 f.regs, .slice caS f.chans.length ccS, .slice saS f.sites.length scS, .slice aaS f.arrays.length acS, .slice kaS f.code.length kcS] 26)
  have hbb := heap2_of (w := w) (A := (.cells #[.int .i64 f.width, .int .i64 f.regs, .slice ca f.chans.length cc, .slice sa f.sites.length sc, .slice aa f.arrays.length ac, .slice ka f.code.length kc] 26)) (B := (.cells #[.int .i64 f.width, .int .i64 f.regs, .slice caS f.chans.length ccS, .slice saS f.sites.length scS, .slice aaS f.arrays.length acS, .slice kaS f.code.length kcS] 26)) (Below.refl _ _)
  have HX := Lib.hid (h.keep hal)
  have HY := Lib.hid (g.keep hal)
  have G0 := Lib.hid hbb.1
  have G1 := Lib.hid hbb.2.1
  have HB := Lib.hid hal
  clear hal hbb h g
  go_enter Tryd.func15, Tryd.ntmps15
  go_upto_region 1 with fail
  generalize ((w.alloc (.cells #[.int .i64 f.width, .int .i64 f.regs, .slice ca f.chans.length cc, .slice sa f.sites.length sc, .slice aa f.arrays.length ac, .slice ka f.code.length kc] 26)).alloc (.cells #[.int .i64 f.width, .int .i64 f.regs, .slice caS f.chans.length ccS, .slice saS f.sites.length scS, .slice aaS f.arrays.length acS, .slice kaS f.code.length kcS] 26)) = W at *
  have hsW : w.heap.size + 1 < W.heap.size := (Array.getElem?_eq_some_iff.1 G1.out).1
  have HK : Hid (∀ w' : World, Below W.heap.size W w' → w'.heap[w.heap.size]? = W.heap[w.heap.size]? ∧ w'.heap[w.heap.size + 1]? = W.heap[w.heap.size + 1]?) := fun w' hb => ⟨hb.block _ (by omega), hb.block _ (by omega)⟩
  have hc0 := fun (w' : World) (hb : Below W.heap.size W w') => equalStr _ _ _ _ w' (HX.out.1.keep hb) (HY.out.1.keep hb)
  have hc1 := fun (w' : World) (hb : Below W.heap.size W w') => equalStr _ _ _ _ w' (HX.out.2.1.keep hb) (HY.out.2.1.keep hb)
  have hc2 := fun (w' : World) (hb : Below W.heap.size W w') => equalInt _ _ _ _ w' (HX.out.2.2.1.keep hb) (HY.out.2.2.1.keep hb)
  have hc3 := fun (w' : World) (hb : Below W.heap.size W w') => equalCode _ _ _ _ w' (HX.out.2.2.2.1.keep hb) (HY.out.2.2.2.1.keep hb)
  rw [eqStr_self] at hc0 hc1
  rw [eqInt_self] at hc2
  rw [eqCode_self] at hc3
  have HC0 := Lib.hid hc0
  have HC1 := Lib.hid hc1
  have HC2 := Lib.hid hc2
  have HC3 := Lib.hid hc3
  clear hc0 hc1 hc2 hc3
  have i0 := row_of G0.out 0 (.int .i64 f.width) rfl
  have j0 := row_of G1.out 0 (.int .i64 f.width) rfl
  have i1 := row_of G0.out 1 (.int .i64 f.regs) rfl
  have j1 := row_of G1.out 1 (.int .i64 f.regs) rfl
  have i2 := row_of G0.out 2 (.slice ca f.chans.length cc) rfl
  have j2 := row_of G1.out 2 (.slice caS f.chans.length ccS) rfl
  have e0 : (f.width == f.width) = true := by simp
  have e1 : (f.regs == f.regs) = true := by simp
  go_wp2_with (first | (go_at_call 38; with_reducible refine (HC0.out _ (Below.refl _ _)).mono ?_; rintro e w1 ⟨rfl, hw⟩; have B1 := Lib.hid (hw); clear hw; have i3 := row_of ((HK.out _ B1.out).1.trans G0.out) 3 (.slice sa f.sites.length sc) rfl; have j3 := row_of ((HK.out _ B1.out).2.trans G1.out) 3 (.slice saS f.sites.length scS) rfl) | (go_at_call 38; with_reducible refine (HC1.out _ B1.out).mono ?_; rintro e w2 ⟨rfl, hw⟩; have B2 := Lib.hid (bcomp B1.out hw); clear hw; have i4 := row_of ((HK.out _ B2.out).1.trans G0.out) 4 (.slice aa f.arrays.length ac) rfl; have j4 := row_of ((HK.out _ B2.out).2.trans G1.out) 4 (.slice aaS f.arrays.length acS) rfl) | (go_at_call 39; with_reducible refine (HC2.out _ B2.out).mono ?_; rintro e w3 ⟨rfl, hw⟩; have B3 := Lib.hid (bcomp B2.out hw); clear hw; have i5 := row_of ((HK.out _ B3.out).1.trans G0.out) 5 (.slice ka f.code.length kc) rfl; have j5 := row_of ((HK.out _ B3.out).2.trans G1.out) 5 (.slice kaS f.code.length kcS) rfl) | (go_at_call 40; with_reducible refine (HC3.out _ B3.out).mono ?_; rintro e w4 ⟨rfl, hw⟩; have B4 := Lib.hid (bcomp B3.out hw); clear hw))
  go_ret
  exact ⟨rfl, bcomp HB.out B4.out⟩
set_option maxRecDepth 100000 in
set_option maxHeartbeats 1600000 in
theorem equalListsSelf (L : List (List Int)) (av bv : Value) (w : World) (h : RdLists none w av L) (g : RdLists none w bv L) :
    Calls Tryd.prog 16 #[av, bv] w fun e w' => e = .returned (.bool true) ∧ Below w.heap.size w w' := by
  obtain ⟨a, c, rfl⟩ := h.is
  obtain ⟨a', c', rfl⟩ := g.is
  have HX := Lib.hid h
  have HY := Lib.hid g
  have hl : L.length * 24 ≤ 140737488351232 := h.size
  have e0 : ((L.length : Int) != (L.length : Int)) = false := by simp
  clear h g
  go_enter Tryd.func16, Tryd.ntmps16
  go_wp2_with fail
  go_loopw [5] (fun i wr => ∃ k : Nat, k ≤ L.length ∧ i = .int .i64 k ∧ Below w.heap.size w wr) (fun i _ => L.length - (intOf i).toNat)
  case atStart => exact ⟨0, Nat.zero_le _, rfl, Below.refl _ _⟩
  case round =>
    obtain ⟨k, hk, rfl, hb⟩ := hrel
    by_cases hlt : k < L.length
    · obtain ⟨x, hx⟩ : ∃ x, L[k]? = some x := ⟨_, List.getElem?_eq_getElem hlt⟩
      obtain ⟨b, o, xa, xc, rfl, _, c0, hx0⟩ := RdLists.at (HX.out.keep hb) hx
      obtain ⟨b', o', xa', xc', rfl, _, c0', hx0'⟩ := RdLists.at (HY.out.keep hb) hx
      have HCE := Lib.hid (fun (z : World) => by have := equalNum _ _ _ _ (ext wr z) (hx0.forget.keep (ext_below wr z)) (hx0'.forget.keep (ext_below wr z)); rw [eqNum_self] at this; exact this)
      have hk1 : (k : Int) < (L.length : Int) := by omega
      have e1 := ext_cell c0
      have e2 := ext_cell c0'
      clear hx c0 c0' hx0 hx0'
      go_upto_region 6 with fail
      (refine wp_region_calm (by kernel_rfl) (by kernel_rfl) ?_; (repeat (go_big_quiet_step ((go_at_call 41; exact calls_calm (HCE.out _))))); refine wpQuiet_nil ?_; intro wc hwc)
      have HBN := Lib.hid (hb.trans (hwc.mono (by have := hb.size; omega)))
      clear e1 e2 hwc
      go_wp2_with fail
      go_roundw
      case rel => exact ⟨k + 1, by omega, by go_num, HBN.out⟩
      case measure => simp [intOf]; omega
    · have hk1 : ¬ (k : Int) < (L.length : Int) := by omega
      go_wp2_with fail
      go_ret
      exact ⟨rfl, hb⟩
/-- Both machines, apart from one another, from n1 on. -/
def Two (n1 : Nat) (w : World) (bm br : Nat) (f : FlatD) (L : List (List Int)) (m1 m2 : MachD) : Prop :=
  ∃ G1 G2 : Nat → Prop, MachIn G1 w bm f (insM f L) m1 ∧ RefIn0 G2 w br f L m2 ∧ (∀ b, G1 b → n1 ≤ b ∧ b < w.heap.size ∧ ¬ G2 b) ∧ (∀ b, G2 b → n1 ≤ b ∧ b < w.heap.size)
theorem MachIn.same {G : Nat → Prop} {w w' : World} {bm : Nat} {f : FlatD} {ins : List (List Int)} {m : MachD} (h : MachIn G w bm f ins m) (k : ∀ b, G b → b < w.heap.size → w'.heap[b]? = w.heap[b]?) : MachIn G w' bm f ins m := by
  obtain ⟨I, c8, c9, c10, kv, iv, av, ov, rv, bv, gb, db, bs, h⟩ := h
  exact ⟨I, c8, c9, c10, kv, iv, av, ov, rv, bv, gb, db, bs, h.same k⟩
theorem Two.keep {n1 : Nat} {w w' : World} {bm br : Nat} {f : FlatD} {L : List (List Int)} {m1 m2 : MachD} (h : Two n1 w bm br f L m1 m2) (k : Below w.heap.size w w') : Two n1 w' bm br f L m1 m2 := by
  obtain ⟨G1, G2, h1, h2, h3, h4⟩ := h
  exact ⟨G1, G2, h1.same fun b _ hl => k.block b hl, h2.same fun b _ hl => k.block b hl, fun b hb => ⟨(h3 b hb).1, Nat.lt_of_lt_of_le (h3 b hb).2.1 k.size, (h3 b hb).2.2⟩, fun b hb => ⟨(h4 b hb).1, Nat.lt_of_lt_of_le (h4 b hb).2 k.size⟩⟩
/-- Where only blocks below n1, and new ones, turn. -/
theorem Two.keepUp {n1 : Nat} {w w' : World} {bm br : Nat} {f : FlatD} {L : List (List Int)} {m1 m2 : MachD} (h : Two n1 w bm br f L m1 m2) (hs : w.heap.size ≤ w'.heap.size) (k : ∀ b, n1 ≤ b → b < w.heap.size → w'.heap[b]? = w.heap[b]?) : Two n1 w' bm br f L m1 m2 := by
  obtain ⟨G1, G2, h1, h2, h3, h4⟩ := h
  exact ⟨G1, G2, h1.same fun b hb hl => k b (h3 b hb).1 hl, h2.same fun b hb hl => k b (h4 b hb).1 hl, fun b hb => ⟨(h3 b hb).1, Nat.lt_of_lt_of_le (h3 b hb).2.1 hs, (h3 b hb).2.2⟩, fun b hb => ⟨(h4 b hb).1, Nat.lt_of_lt_of_le (h4 b hb).2 hs⟩⟩
theorem pair_new {w0 w1 w2 : World} {bm br : Nat} {f : FlatD} {L : List (List Int)} (h1 : MachIn (fun b => w0.heap.size ≤ b ∧ b < w1.heap.size) w1 bm f (insM f L) (newM f)) (hb : Below w1.heap.size w1 w2) (hs : w0.heap.size ≤ w1.heap.size)
    (h2 : RefIn0 (fun b => w1.heap.size ≤ b ∧ b < w2.heap.size) w2 br f L (newM f)) : Two w0.heap.size w2 bm br f L (newM f) (newM f) :=
  ⟨_, _, h1.same fun b _ hl => hb.block b hl, h2, fun b h => ⟨h.1, Nat.lt_of_lt_of_le h.2 hb.size, fun h' => by have := h.2; have := h'.1; omega⟩, fun b h => ⟨by have := h.1; omega, h.2⟩⟩
theorem two_step1 {n1 : Nat} {w : World} {bm br : Nat} {f : FlatD} {L : List (List Int)} {m1 m2 : MachD} (h : Two n1 w bm br f L m1 m2) (hn : n1 ≤ w.heap.size) (hL : Laid w) (hh : HeadP f) {k : Nat} (g : Going f m1 k) (hk : k < 1000000) (hins : (insM f L).length = f.chans.length) :
    Calls Tryd.prog 23 #[.pointer (some ⟨bm, 0, none⟩)] w fun e w' => e = .returned (.bool (m1.t.status == 2)) ∧ Two n1 w' bm br f L (stepM f (insM f L) m1) m2 ∧ Turn (fun b => n1 ≤ b) w w' := by
  obtain ⟨G1, G2, ⟨I, c8, c9, c10, kv, iv, av, ov, rv, bv, gb, db, bs, h1⟩, h2, h3, h4⟩ := h
  refine (machStep h1 hL hh g.good hins (by have := g.steps; omega) g.pc0 g.pc1).mono fun e w' ⟨he, hp⟩ => ⟨he, ⟨Grow G1 w w', G2, hp.1, h2.same (fun b hb' hl => hp.2.block b hl fun h => (h3 b h).2.2 hb'), fun b hb' => ?_, fun b hb' => ⟨(h4 b hb').1, Nat.lt_of_lt_of_le (h4 b hb').2 hp.2.size⟩⟩, hp.2.mono fun b _ h => (h3 b h).1⟩
  rcases hb' with h | h
  · exact ⟨(h3 b h).1, Nat.lt_of_lt_of_le (h3 b h).2.1 hp.2.size, (h3 b h).2.2⟩
  · exact ⟨Nat.le_trans hn h.1, h.2, fun h' => by have := (h4 b h').2; have := h.1; omega⟩
theorem two_step2 {n1 : Nat} {w : World} {bm br : Nat} {f : FlatD} {L : List (List Int)} {m1 m2 : MachD} (h : Two n1 w bm br f L m1 m2) (hn : n1 ≤ w.heap.size) (hh : HeadP f) {k : Nat} (g : Going f m2 k) (hk : k < 1000000) (hins : L.length ≤ 1000) :
    Calls Tryd.prog 24 #[.pointer (some ⟨br, 0, none⟩)] w fun e w' => e = .returned (.bool (m2.t.status == 2)) ∧ Two n1 w' bm br f L m1 (stepM f L m2) ∧ Turn (fun b => n1 ≤ b) w w' := by
  obtain ⟨G1, G2, h1, ⟨I, c2, c3, c4, kv, iv, av, ov, rv, bv, gb, db, bs, h2⟩, h3, h4⟩ := h
  refine (refStep h2 hh g.good hins (fun b hb => (h4 b hb).2) (by have := g.steps; omega) g.pc0 g.pc1).mono fun e w' ⟨he, hp⟩ => ⟨he, ⟨G1, Grow G2 w w', h1.same (fun b hb' hl => hp.2.block b hl fun h => (h3 b hb').2.2 h), hp.1, fun b hb' => ⟨(h3 b hb').1, Nat.lt_of_lt_of_le (h3 b hb').2.1 hp.2.size, ?_⟩, fun b hb' => ?_⟩, hp.2.mono fun b _ h => (h4 b h).1⟩
  · rintro (h | h)
    · exact (h3 b hb').2.2 h
    · have := (h3 b hb').2.1; have := h.1; omega
  · rcases hb' with h | h
    · exact ⟨(h4 b h).1, Nat.lt_of_lt_of_le (h4 b h).2 hp.2.size⟩
    · exact ⟨Nat.le_trans hn h.1, h.2⟩
/-- Trace's contract, its slices in the open. -/
def TraceIt (t : TraceD) (w : World) (e : Ending) (w' : World) : Prop :=
  ∃ a1 a2 a3 a4 a5 a6 a7 a8, e = .returned (.agg #[.int .u8 t.status, .int .i64 t.steps, .slice a1 t.outs.length a2, .slice a3 t.rels.length a4, .slice a5 t.brs.length a6, .slice a7 t.reads.length a8]) ∧ RdTrace (some (upFrom w.heap.size)) w' t (.slice a1 t.outs.length a2) (.slice a3 t.rels.length a4) (.slice a5 t.brs.length a6) (.slice a7 t.reads.length a8) ∧ Below w.heap.size w w'
theorem two_trace {n1 : Nat} {w : World} {bm br : Nat} {f : FlatD} {L : List (List Int)} {m1 m2 : MachD} (h : Two n1 w bm br f L m1 m2) (hh : HeadP f) {k : Nat} (g : Going f m1 k) (hk : k ≤ 1000000) :
    Calls Tryd.prog 18 #[.pointer (some ⟨bm, 0, none⟩)] w (TraceIt m1.t w) := by
  obtain ⟨G1, G2, ⟨I, c8, c9, c10, kv, iv, av, ov, rv, bv, gb, db, bs, h1⟩, h2, h3, h4⟩ := h
  refine (machTrace h1 hh g.good (by have := g.steps; omega)).mono ?_
  rintro e w' ⟨v1, v2, v3, v4, rfl, hr, hb⟩
  obtain ⟨a1, a2, rfl⟩ := hr.1.is; obtain ⟨a3, a4, rfl⟩ := hr.2.1.is; obtain ⟨a5, a6, rfl⟩ := hr.2.2.1.is; obtain ⟨a7, a8, rfl⟩ := hr.2.2.2.1.is
  exact ⟨a1, a2, a3, a4, a5, a6, a7, a8, rfl, hr, hb⟩
theorem two_reg {n1 : Nat} {w : World} {bm br : Nat} {f : FlatD} {L : List (List Int)} {m1 m2 : MachD} (h : Two n1 w bm br f L m1 m2) (i : Int) (hi : InI64 i) (hl : m1.regs.length ≤ 2097152) :
    Calls Tryd.prog 21 #[.pointer (some ⟨bm, 0, none⟩), .int .i64 i] w fun e w' => e = .returned (.int .u64 (regM m1 i)) ∧ w = w' := by
  obtain ⟨G1, G2, ⟨I, c8, c9, c10, kv, iv, av, ov, rv, bv, gb, db, bs, h1⟩, h2, h3, h4⟩ := h
  exact machReg h1 i hi hl
theorem two_at {n1 : Nat} {w : World} {bm br : Nat} {f : FlatD} {L : List (List Int)} {m1 m2 : MachD} (h : Two n1 w bm br f L m1 m2) :
    Calls Tryd.prog 20 #[.pointer (some ⟨bm, 0, none⟩)] w fun e w' => e = .returned (.int .i64 m1.pc) ∧ w = w' := by
  obtain ⟨G1, G2, ⟨I, c8, c9, c10, kv, iv, av, ov, rv, bv, gb, db, bs, h1⟩, h2, h3, h4⟩ := h
  exact machAtOf h1
/-- The reference's trace, where it lies in the box, and the next instruction. -/
theorem two_ref {n1 : Nat} {w : World} {bm br : Nat} {f : FlatD} {L : List (List Int)} {m1 m2 : MachD} (h : Two n1 w bm br f L m1 m2) (hh : HeadP f) {k : Nat} (g : Going f m2 k) (hk : k ≤ 1000000) :
    ∃ xa1 xc1 xa2 xc2 xa3 xc3 db, w.rangeAt br 10 [.int .u8 m2.t.status, .int .i64 m2.t.steps, .slice xa1 m2.t.outs.length xc1, .slice xa2 m2.t.rels.length xc2, .slice xa3 m2.t.brs.length xc3, .slice (some ⟨db, 0, none⟩) m2.t.reads.length m2.t.reads.length] ∧ br < w.heap.size ∧ w.cell? ⟨br, 9, none⟩ = some (.int .i64 m2.pc) ∧
      RdTrace (some (upFrom n1)) w m2.t (.slice xa1 m2.t.outs.length xc1) (.slice xa2 m2.t.rels.length xc2) (.slice xa3 m2.t.brs.length xc3) (.slice (some ⟨db, 0, none⟩) m2.t.reads.length m2.t.reads.length) := by
  obtain ⟨G1, G2, h1, ⟨I, c2, c3, c4, kv, iv, av, ov, rv, bv, gb, db, bs, h2⟩, h3, h4⟩ := h
  have ht := h2.trace hh g.good (by have := g.steps; omega) (n0 := n1) (fun b hb => (h4 b hb).1)
  obtain ⟨xa1, xc1, rfl⟩ := ht.1.is
  obtain ⟨xa2, xc2, rfl⟩ := ht.2.1.is
  obtain ⟨xa3, xc3, rfl⟩ := ht.2.2.1.is
  exact ⟨xa1, xc1, xa2, xc2, xa3, xc3, db, range_of h2.box 10 _ rfl, (Array.getElem?_eq_some_iff.1 h2.box).1, row_of h2.box 9 _ rfl, ht⟩
set_option maxRecDepth 100000 in
set_option maxHeartbeats 1600000 in
theorem two_refreg {n1 : Nat} {w : World} {bm br : Nat} {f : FlatD} {L : List (List Int)} {m1 m2 : MachD} (h : Two n1 w bm br f L m1 m2) (i : Int) (hi : InI64 i) (hl : m2.regs.length ≤ 2097152) :
    Calls Tryd.prog 22 #[.pointer (some ⟨br, 0, none⟩), .int .i64 i] w fun e w' => e = .returned (.int .u64 (regM m2 i)) ∧ w = w' := by
  obtain ⟨G1, G2, h1, ⟨I, c2, c3, c4, kv, iv, av, ov, rv, bv, gb, db, bs, h⟩, h3, h4⟩ := h
  have c7 := row_of h.box 7 _ rfl
  have hm := h.mem.regs
  clear h h1 h3 h4
  by_cases h0 : i < 0
  · have hres : Hid (regM m2 i = 0) := by show _ = _; rw [regM, if_pos h0]
    clear hm
    go_enter Tryd.func22, Tryd.ntmps22
    go_wp2
    go_ret
    exact ⟨by rw [hres.out]; rfl, rfl⟩
  · obtain ⟨k, rfl⟩ : ∃ k : Nat, i = k := ⟨i.toNat, by omega⟩
    by_cases h1 : k < m2.regs.length
    · obtain ⟨x, hx⟩ : ∃ x, m2.regs[k]? = some x := ⟨_, List.getElem?_eq_getElem h1⟩
      have hres : Hid (regM m2 k = x) := by show _ = _; rw [regM, if_neg (by omega), Int.toNat_natCast, List.getD_eq_getElem?_getD, hx]; rfl
      have cg := row_of hm k _ (u64s_get _ _ _ hx)
      have h2 : (k : Int) < (m2.regs.length : Int) := by omega
      clear hm hx
      go_enter Tryd.func22, Tryd.ntmps22
      go_wp2
      go_ret
      exact ⟨by rw [hres.out]; rfl, rfl⟩
    · have hres : Hid (regM m2 k = 0) := by show _ = _; rw [regM, if_neg (by omega), Int.toNat_natCast, List.getD_eq_getElem?_getD, List.getElem?_eq_none (by omega)]; rfl
      have h2 : (m2.regs.length : Int) ≤ (k : Int) := by omega
      clear hm
      go_enter Tryd.func22, Tryd.ntmps22
      go_wp2
      go_ret
      exact ⟨by rw [hres.out]; rfl, rfl⟩
/-- A number, an event's value, a bool in a row is written. -/
theorem row_turn {α : Type} {K : Kind α} {g : Nat → Prop} {w : World} {v : Value} {l : List α} (h : RdRow K (some g) w v l) {b o : Nat} {u : Value} {T0 : TypeId} {cs : Array Value} (hb : w.heap[b]? = some (.cells cs T0 (0, 0))) (hT : K.T ≠ T0) : RdRow K (some g) (w.setCell ⟨b, o, none⟩ u) v l :=
  RdRow.map (fun b' hlt hf => set_hF hb _ b' trivial hlt hf) (fun b' o' v hf hc => set_hC hb _ b' o' v hT hf hc) h
theorem row_set {α : Type} {K : Kind α} {g : Nat → Prop} {w : World} {b o c k j : Nat} {l : List α} {x y : α} {u : Value} (h : RdRow K (some g) w (.slice (some ⟨b, o, none⟩) l.length c) l) (hk : l[k]? = some x) (hj : j < K.sz) (hy : K.cells y = (K.cells x).set j u) (hok : K.ok y) :
    RdRow K (some g) (w.setCell ⟨b, o + k * K.sz + j, none⟩ u) (.slice (some ⟨b, o, none⟩) l.length c) (l.set k y) := by
  obtain ⟨a', c', e, hl, hr⟩ := h
  simp only [Value.slice.injEq] at e
  obtain ⟨rfl, _, rfl⟩ := e
  obtain ⟨b0, o0, e0, hf0, hc0, hz0⟩ := hr k x hk
  simp only [Option.some.injEq, Addr.mk.injEq, and_true] at e0
  obtain ⟨rfl, rfl⟩ := e0
  obtain ⟨hg, cs, hb⟩ := hf0 g rfl
  have hjl : j < (K.cells x).length := by rw [K.len]; exact hj
  have hold := hc0 j _ (List.getElem?_eq_getElem hjl)
  refine ⟨some ⟨b, o, none⟩, c, by rw [List.length_set], by rw [List.length_set]; exact hl, fun i z hz => ⟨b, o, rfl, Free.of hg (heap_setCell_same _ _ _ _ _ _ hb), fun q v hq => ?_, ?_⟩⟩
  · rcases set_at hz with ⟨rfl, rfl, _⟩ | ⟨hne, hz⟩
    · rw [hy, List.getElem?_set] at hq
      split at hq
      · rename_i ej
        subst ej
        first | cases hq | (rw [if_pos hjl] at hq; cases hq)
        exact World.cell?_setCell_same _ _ _ hold
      · rename_i ej
        exact cell_set_off (by omega) (hc0 q v hq)
    · obtain ⟨b1, o1, e1, _, hc1, _⟩ := hr i z hz
      simp only [Option.some.injEq, Addr.mk.injEq, and_true] at e1
      obtain ⟨rfl, rfl⟩ := e1
      have hql : q < K.sz := by rw [← K.len z]; exact (List.getElem?_eq_some_iff.1 hq).1
      refine cell_set_off (fun e => hne ?_) (hc1 q v hq)
      have h1 : (k * K.sz + j) / K.sz = (i * K.sz + q) / K.sz := by congr 1; omega
      have hpos : 0 < K.sz := by omega
      rw [Nat.add_comm, Nat.add_mul_div_right _ _ hpos, Nat.div_eq_of_lt hj, Nat.add_comm (i * K.sz), Nat.add_mul_div_right _ _ hpos, Nat.div_eq_of_lt hql] at h1
      omega
  · rcases set_at hz with ⟨rfl, rfl, _⟩ | ⟨hne, hz⟩
    · exact hok
    · obtain ⟨b1, o1, e1, _, _, hz1⟩ := hr i z hz; exact hz1
/-- A trace's copy whose lists are written: the lists stay as long as they are. -/
def XR (zb : Nat) (cs : Array Value) (t : TraceD) (a1 : Option Addr) (a2 : Nat) (a5 : Option Addr) (a6 : Nat) (a7 : Option Addr) (a8 : Nat) (w0 w : World) : Prop :=
  ∃ (lr : List Int) (lo : List EvD) (lb : List Bool), lr.length = t.reads.length ∧ lo.length = t.outs.length ∧ lb.length = t.brs.length ∧
    RdRow kInt (some (upFrom w0.heap.size)) w (.slice a7 lr.length a8) lr ∧ RdRow kEv (some (upFrom w0.heap.size)) w (.slice a1 lo.length a2) lo ∧ RdRow kBool (some (upFrom w0.heap.size)) w (.slice a5 lb.length a6) lb ∧
    w.heap[zb]? = some (.cells cs 49 (0, 0)) ∧ Below w0.heap.size w0 w
theorem XR.keep {zb : Nat} {cs : Array Value} {t : TraceD} {a1 a5 a7 : Option Addr} {a2 a6 a8 : Nat} {w0 w w' : World} (h : XR zb cs t a1 a2 a5 a6 a7 a8 w0 w) (k : Below w.heap.size w w') : XR zb cs t a1 a2 a5 a6 a7 a8 w0 w' := by
  obtain ⟨lr, lo, lb, h1, h2, h3, h4, h5, h6, h7, h8⟩ := h
  exact ⟨lr, lo, lb, h1, h2, h3, h4.keep k, h5.keep k, h6.keep k, (k.block _ (Array.getElem?_eq_some_iff.1 h7).1).trans h7, bcomp h8 k⟩
theorem XR.read {zb : Nat} {cs : Array Value} {t : TraceD} {a1 a5 a7 : Option Addr} {a2 a6 a8 : Nat} {w0 w : World} (h : XR zb cs t a1 a2 a5 a6 a7 a8 w0 w) {i : Nat} (hi : i < t.reads.length) :
    ∃ b o v, a7 = some ⟨b, o, none⟩ ∧ w.cell? ⟨b, o + i, none⟩ = some (.int .i64 v) ∧ InI64 v ∧ w.frozen? ⟨b, o + i, none⟩ = false ∧ ∀ v', InI64 v' → XR zb cs t a1 a2 a5 a6 (some ⟨b, o, none⟩) a8 w0 (w.setCell ⟨b, o + i, none⟩ (.int .i64 v')) := by
  obtain ⟨lr, lo, lb, h1, h2, h3, h4, h5, h6, h7, h8⟩ := h
  have hx := List.getElem?_eq_getElem (l := lr) (i := i) (by omega)
  obtain ⟨b, o, rfl, hf, hc, hv⟩ := atInt h4 hx
  obtain ⟨hg, cs0, hb⟩ := hf _ rfl
  refine ⟨b, o, lr[i], rfl, hc, hv, hf.frozen _, fun v' hv' => ⟨lr.set i v', lo, lb, by rw [List.length_set]; exact h1, h2, h3, ?_, row_turn h5 hb (by decide), row_turn h6 hb (by decide), (heap_setCell_other _ _ _ _ (by simpa using row_ne h7 hb (by decide))).trans h7, h8.setCell (show w0.heap.size ≤ b from hg) _⟩⟩
  have := row_set (K := kInt) (j := 0) (y := v') (u := .int .i64 v') h4 hx (by decide) rfl hv'
  rw [List.length_set]
  simpa using this
theorem XR.out {zb : Nat} {cs : Array Value} {t : TraceD} {a1 a5 a7 : Option Addr} {a2 a6 a8 : Nat} {w0 w : World} (h : XR zb cs t a1 a2 a5 a6 a7 a8 w0 w) {i : Nat} (hi : i < t.outs.length) :
    ∃ b o v, a1 = some ⟨b, o, none⟩ ∧ w.cell? ⟨b, o + i * 2 + 1, none⟩ = some (.int .u64 v) ∧ InU64 v ∧ w.frozen? ⟨b, o + i * 2 + 1, none⟩ = false ∧ ∀ v', InU64 v' → XR zb cs t (some ⟨b, o, none⟩) a2 a5 a6 a7 a8 w0 (w.setCell ⟨b, o + i * 2 + 1, none⟩ (.int .u64 v')) := by
  obtain ⟨lr, lo, lb, h1, h2, h3, h4, h5, h6, h7, h8⟩ := h
  have hx := List.getElem?_eq_getElem (l := lo) (i := i) (by omega)
  obtain ⟨b, o, rfl, hf, hc0, hc1, hv⟩ := atEv h5 hx
  obtain ⟨hg, cs0, hb⟩ := hf _ rfl
  refine ⟨b, o, lo[i].val, rfl, hc1, hv.2, hf.frozen _, fun v' hv' => ⟨lr, lo.set i ⟨lo[i].n, v'⟩, lb, h1, by rw [List.length_set]; exact h2, h3, row_turn h4 hb (by decide), ?_, row_turn h6 hb (by decide), (heap_setCell_other _ _ _ _ (by simpa using row_ne h7 hb (by decide))).trans h7, h8.setCell (show w0.heap.size ≤ b from hg) _⟩⟩
  have := row_set (K := kEv) (j := 1) (y := ⟨lo[i].n, v'⟩) (u := .int .u64 v') h5 hx (by decide) rfl ⟨hv.1, hv'⟩
  rw [List.length_set]
  simpa using this
theorem XR.br {zb : Nat} {cs : Array Value} {t : TraceD} {a1 a5 a7 : Option Addr} {a2 a6 a8 : Nat} {w0 w : World} (h : XR zb cs t a1 a2 a5 a6 a7 a8 w0 w) {i : Nat} (hi : i < t.brs.length) :
    ∃ b o v, a5 = some ⟨b, o, none⟩ ∧ w.cell? ⟨b, o + i, none⟩ = some (.bool v) ∧ b < w.heap.size ∧ (∃ cs0, w.heap[b]? = some (.cells cs0 4 (0, 0))) ∧ ∀ v', XR zb cs t a1 a2 (some ⟨b, o, none⟩) a6 a7 a8 w0 (w.setCell ⟨b, o + i, none⟩ (.bool v')) := by
  obtain ⟨lr, lo, lb, h1, h2, h3, h4, h5, h6, h7, h8⟩ := h
  have hx := List.getElem?_eq_getElem (l := lb) (i := i) (by omega)
  obtain ⟨b, o, rfl, hf, hc, _⟩ := atBool h6 hx
  obtain ⟨hg, cs0, hb⟩ := hf _ rfl
  refine ⟨b, o, lb[i], rfl, hc, (Array.getElem?_eq_some_iff.1 hb).1, ⟨cs0, hb⟩, fun v' => ⟨lr, lo, lb.set i v', h1, h2, by rw [List.length_set]; exact h3, row_turn h4 hb (by decide), row_turn h5 hb (by decide), ?_, (heap_setCell_other _ _ _ _ (by simpa using row_ne h7 hb (by decide))).trans h7, h8.setCell (show w0.heap.size ≤ b from hg) _⟩⟩
  have := row_set (K := kBool) (j := 0) (y := v') (u := .bool v') h6 hx (by decide) rfl trivial
  rw [List.length_set]
  simpa using this
theorem XR.box {zb : Nat} {cs : Array Value} {t : TraceD} {a1 a5 a7 : Option Addr} {a2 a6 a8 : Nat} {w0 w : World} (h : XR zb cs t a1 a2 a5 a6 a7 a8 w0 w) : w.heap[zb]? = some (.cells cs 49 (0, 0)) := by
  obtain ⟨lr, lo, lb, h1, h2, h3, h4, h5, h6, h7, h8⟩ := h; exact h7
theorem XR.below {zb : Nat} {cs : Array Value} {t : TraceD} {a1 a5 a7 : Option Addr} {a2 a6 a8 : Nat} {w0 w : World} (h : XR zb cs t a1 a2 a5 a6 a7 a8 w0 w) : Below w0.heap.size w0 w := by
  obtain ⟨lr, lo, lb, h1, h2, h3, h4, h5, h6, h7, h8⟩ := h; exact h8
theorem wrap64_ok (x : Int) : InI64 (wrap64 x) := by unfold wrap64 InI64; omega
theorem turn_setCells (b : Nat) : ∀ (l : List Value) (o : Nat) (w : World), Turn (fun y => y = b) w (w.setCells b o l)
  | [], _, w => Turn.refl _ w
  | v :: r, o, w => ((Turn.refl (fun y => y = b) w).setCell (a := ⟨b, o, none⟩) rfl v).trans (turn_setCells b r (o + 1) _)
/-- The cells of a row of instructions may be written. -/
theorem there_code {g : Nat → Prop} {w : World} {a : Option Addr} {n c : Nat} {l : List CodeD} (h : RdRow kCode (some g) w (.slice a n c) l) (hp : 0 < l.length) : ∃ b o, a = some ⟨b, o, none⟩ ∧ g b ∧ b < w.heap.size ∧ (∃ cs, w.heap[b]? = some (.cells cs 44 (0, 0))) ∧ w.there b o (l.length * 8) := by
  obtain ⟨a', c', e, hl, hr⟩ := h
  simp only [Value.slice.injEq] at e
  obtain ⟨rfl, _, rfl⟩ := e
  obtain ⟨b, o, e0, hf, _, _⟩ := hr 0 _ (List.getElem?_eq_getElem hp)
  subst e0
  obtain ⟨hg, cs, hb⟩ := hf _ rfl
  refine ⟨b, o, rfl, hg, (Array.getElem?_eq_some_iff.1 hb).1, ⟨cs, hb⟩, fun j hj => ⟨?_, frozen_of_row w b (o + j) _ _ hb⟩⟩
  have hi : j / 8 < l.length := by omega
  obtain ⟨b1, o1, e1, _, hc, _⟩ := hr (j / 8) _ (List.getElem?_eq_getElem hi)
  simp only [Option.some.injEq, Addr.mk.injEq, and_true] at e1
  obtain ⟨rfl, rfl⟩ := e1
  have hlen : (kCode.cells l[j / 8]).length = 8 := kCode.len _
  have := hc (j % 8) _ (List.getElem?_eq_getElem (by rw [hlen]; omega))
  have e2 : o + j / 8 * 8 + j % 8 = o + j := by omega
  have e3 : o + j / 8 * kCode.sz + j % 8 = o + j := e2
  rw [e3] at this
  rw [this]; rfl
open Go.ChangeShapes Go.WideShapes Go.ChangeAt Go.RowKit
theorem set_back {α : Type} {l : List α} {n : Nat} {a : α} (h : l[n]? = some a) : l.set n a = l := by
  obtain ⟨hn, rfl⟩ := List.getElem?_eq_some_iff.1 h
  simp
set_option maxRecDepth 100000 in
set_option maxHeartbeats 6400000 in
theorem steps_walk (f : FlatD) (cv sv av kv iv : Value) (L : List (List Int)) (qv : Value) (R : List Int) (w : World) (hF : RdFlat none w f cv sv av kv) (hI : RdLists none w iv L) (hQ : RdRow kInt none w qv R) (hL : Laid w) :
    Calls Tryd.prog 3 #[flatV f cv sv av kv, iv, qv] w fun e w' => e = .returned (.bool true) ∧ Below w.heap.size w w' := by
  obtain ⟨ca, cc, rfl⟩ := hF.1.is
  obtain ⟨sa, sc, rfl⟩ := hF.2.1.is
  obtain ⟨aa, ac, rfl⟩ := hF.2.2.1.is
  obtain ⟨ka, kc, rfl⟩ := hF.2.2.2.1.is
  obtain ⟨ia, ic, rfl⟩ := hI.is
  obtain ⟨qa, qc, rfl, ⟨_, hqc⟩, _⟩ := id hQ
  have hal := (Below.refl w.heap.size w).alloc (Nat.le_refl _) (.cells #[.int .i64 f.width, .int .i64 f.regs, .slice ca f.chans.length cc, .slice sa f.sites.length sc, .slice aa f.arrays.length ac, .slice ka f.code.length kc] 26)
  have hg := Lib.hid (heap_alloc_new w (.cells #[.int .i64 f.width, .int .i64 f.regs, .slice ca f.chans.length cc, .slice sa f.sites.length sc, .slice aa f.arrays.length ac, .slice ka f.code.length kc] 26))
  obtain ⟨nq, hnq⟩ : ∃ nq : Nat, min R.length 6 = nq := ⟨_, rfl⟩
  have hmin := min_run R.length nq 6 (by omega)
  have hnq6 : nq ≤ 6 := by omega
  have hnqc : nq ≤ qc := by omega
  have HQ := Lib.hid (hQ.take nq (by omega))
  have HNQ : Hid ((R.take nq).length = nq) := by show _ = _; rw [List.length_take]; omega
  have HF := Lib.hid (hF.keep hal)
  have HI := Lib.hid (hI.keep hal)
  have HL := Lib.hid (hL.keep hal)
  have HLw := Lib.hid hL
  have HB := Lib.hid hal
  clear hF hI hL hal hQ hqc hnq
  go_enter Tryd.func3, Tryd.ntmps3
  go_upto_region 1 with fail
  generalize w.alloc (.cells #[.int .i64 f.width, .int .i64 f.regs, .slice ca f.chans.length cc, .slice sa f.sites.length sc, .slice aa f.arrays.length ac, .slice ka f.code.length kc] 26) = W at *
  have hsW : w.heap.size < W.heap.size := (Array.getElem?_eq_some_iff.1 hg.out).1
  have HWd : Hid (Below W.heap.size W W.drew) := (Below.refl _ _).drew
  have hs0 : Hid (W.drew.heap.size = W.heap.size) := rfl
  have HS := Lib.hid (fun w' (hb : Below W.heap.size W w') => (short25 f _ _ _ _ w' (HF.out.keep hb)).mono fun _ _ h => flatIs h)
  have HW := Lib.hid (fun w' (hb : Below W.heap.size W w') => few26 _ L w' (HI.out.keep hb))
  have hM : (fewI L).length ≤ 34 := by simp [fewI]; omega
  have HMl : Hid (∀ l ∈ fewI L, l.length ≤ 40) := by
    show ∀ l ∈ fewI L, _
    intro l hl
    simp only [fewI, List.mem_map] at hl
    obtain ⟨l0, _, rfl⟩ := hl
    simp; omega
  generalize shortF f = S at *
  generalize fewI L = M at *
  have l0 := keepS_cell (S := [w.heap.size]) (by simp) (row_of hg.out 0 (.int .i64 f.width) rfl)
  have l1 := keepS_cell (S := [w.heap.size]) (by simp) (row_of hg.out 1 (.int .i64 f.regs) rfl)
  have l2 := keepS_cell (S := [w.heap.size]) (by simp) (row_of hg.out 2 (.slice ca f.chans.length cc) rfl)
  have l3 := keepS_cell (S := [w.heap.size]) (by simp) (row_of hg.out 3 (.slice sa f.sites.length sc) rfl)
  have l4 := keepS_cell (S := [w.heap.size]) (by simp) (row_of hg.out 4 (.slice aa f.arrays.length ac) rfl)
  have l5 := keepS_cell (S := [w.heap.size]) (by simp) (row_of hg.out 5 (.slice ka f.code.length kc) rfl)
  refine wp_region_pure [w.heap.size] [0, 2] [4, 5, 6, 7, 8] (.one [] 1 (.one [] 3 (tailOf [9, 10, 11]))) (fun j => decide (9 ≤ j)) (by kernel_rfl) (by kernel_rfl) rfl (by kernel_rfl) (fun _ d _ _ _ h => by cases d <;> exact h) ?_
  refine pure_walk (by simp only [opsOf, List.filterMap_cons, List.filterMap_nil, List.getElem?_toArray, List.getElem?_cons_succ, List.getElem?_cons_zero]; rfl) (by simp only [opsOf, List.filterMap_cons, List.filterMap_nil, List.getElem?_toArray, List.getElem?_cons_succ, List.getElem?_cons_zero]; rfl) ?_
  change wpQuiet _ _ _ _ [_, _] _
  generalize W.drew = Wd at *
  (repeat (go_big_quiet_step (fail)))
  refine wpQuiet_nil ?_
  clear l0 l1 l2 l3 l4 l5
  change wpQuiet _ _ _ _ [_, _, _, _, _] _
  (repeat (go_big_quiet_step (fail)))
  refine wpQuiet_nil ?_
  clear hmin
  refine mix_now ?_
  refine mix_step rfl ?_
  go_wp2_with (go_at_call 9; refine (HS.out _ HWd.out).mono ?_; rintro e w1 ⟨caS, ccS, saS, scS, aaS, acS, kaS, kcS, rfl, hr1, hb1⟩; have HR1 := Lib.hid hr1; have HB1 := Lib.hid (bcomp HWd.out hb1); have HB1d := Lib.hid hb1; clear hr1 hb1)
  refine ⟨fun _ => ⟨_, keepS_of (by intro b hb; simp only [List.mem_singleton] at hb; subst hb; exact HB1.out.block _ hsW)⟩, ?_⟩
  refine mix_now ?_
  refine mix_step rfl ?_
  go_wp2_with (go_at_call 10; refine (HW.out _ HB1.out).mono ?_; rintro e w2 ⟨v, rfl, hr2, hb2⟩; obtain ⟨ma, mc, rfl⟩ := hr2.is; have HR2 := Lib.hid hr2; have HB2 := Lib.hid (bcomp HB1.out hb2); have HS2 := Lib.hid (HR1.out.keep hb2); have hg2 := Lib.hid ((HB2.out.block _ hsW).trans hg.out); clear hr2 hb2)
  refine ⟨fun _ => ⟨_, keepS_of (by intro b hb; simp only [List.mem_singleton] at hb; subst hb; exact HB2.out.block _ hsW)⟩, ?_⟩
  refine mix_tail [9, 10, 11] [_, _, _] _ _ rfl rfl ?_
  simp only [Act.put, List.setIfInBounds_toArray, List.set_cons_succ, List.set_cons_zero, List.getElem_toArray, List.getElem_cons_succ, List.getElem_cons_zero]
  go_upto_region 2 with (refine wpList_store_row rfl 26 (.tmp 3) (.tmp 24) rfl w.heap.size #[.int .i64 S.width, .int .i64 S.regs, .slice caS S.chans.length ccS, .slice saS S.sites.length scS, .slice aaS S.arrays.length acS, .slice kaS S.code.length kcS] rfl rfl 26 #[.int .i64 f.width, .int .i64 f.regs, .slice ca f.chans.length cc, .slice sa f.sites.length sc, .slice aa f.arrays.length ac, .slice ka f.code.length kc] ?hs1 (by as_aux_lemma => kernel_rfl) (by as_aux_lemma => kernel_rfl) (by as_aux_lemma => kernel_rfl) ?_; exact hg2.out)
  try simp only [Act.put]
  have hsd : w.heap.size < Wd.heap.size := by have := hs0.out; omega
  have hs1 : w.heap.size < w1.heap.size := by have := HB1.out.size; omega
  have HR3 := Lib.hid (HS2.out.setRow (m := 0) hsd (Nat.zero_le _) #[.int .i64 S.width, .int .i64 S.regs, .slice caS S.chans.length ccS, .slice saS S.sites.length scS, .slice aaS S.arrays.length acS, .slice kaS S.code.length kcS]).forget
  have HI3 := Lib.hid (HR2.out.setRow (m := 0) hs1 (Nat.zero_le _) #[.int .i64 S.width, .int .i64 S.regs, .slice caS S.chans.length ccS, .slice saS S.sites.length scS, .slice aaS S.arrays.length acS, .slice kaS S.code.length kcS]).forget
  have HB3 : Hid (Below w.heap.size w (w2.setRow w.heap.size #[.int .i64 S.width, .int .i64 S.regs, .slice caS S.chans.length ccS, .slice saS S.sites.length scS, .slice aaS S.arrays.length acS, .slice kaS S.code.length kcS])) := below_row (bcomp HB.out HB2.out) (Nat.le_refl _) _
  have hg3 : Hid ((w2.setRow w.heap.size #[.int .i64 S.width, .int .i64 S.regs, .slice caS S.chans.length ccS, .slice saS S.sites.length scS, .slice aaS S.arrays.length acS, .slice kaS S.code.length kcS]).heap[w.heap.size]? = some (.cells #[.int .i64 S.width, .int .i64 S.regs, .slice caS S.chans.length ccS, .slice saS S.sites.length scS, .slice aaS S.arrays.length acS, .slice kaS S.code.length kcS] 26 (0, 0))) := setRow_heap _ _ _ _ _ _ hg2.out
  have HL0 : Hid (Laid (w2.setRow w.heap.size #[.int .i64 S.width, .int .i64 S.regs, .slice caS S.chans.length ccS, .slice saS S.sites.length scS, .slice aaS S.arrays.length acS, .slice kaS S.code.length kcS])) := HLw.out.keep HB3.out
  clear HB1 HB1d HB2 HR1 HR2 HS2 hg2 HS HW HF HI HL hg HB hs1 hsW hsd HWd hs0
  generalize (w2.setRow w.heap.size #[.int .i64 S.width, .int .i64 S.regs, .slice caS S.chans.length ccS, .slice saS S.sites.length scS, .slice aaS S.arrays.length acS, .slice kaS S.code.length kcS]) = W3 at *
  have HCF := Lib.hid (copyFlat S _ _ _ _ W3 HR3.out)
  have HCI := Lib.hid (fun (w' : World) (hb : Below W3.heap.size W3 w') => copyListsOwn _ M w' (HI3.out.keep hb))
  have hs3 : w.heap.size < W3.heap.size := (Array.getElem?_eq_some_iff.1 hg3.out).1
  have y0 := row_of hg3.out 0 (.int .i64 S.width) rfl
  have y1 := row_of hg3.out 1 (.int .i64 S.regs) rfl
  have y2 := row_of hg3.out 2 (.slice caS S.chans.length ccS) rfl
  have y3 := row_of hg3.out 3 (.slice saS S.sites.length scS) rfl
  have y4 := row_of hg3.out 4 (.slice aaS S.arrays.length acS) rfl
  have y5 := row_of hg3.out 5 (.slice kaS S.code.length kcS) rfl
  go_upto_region 3 with (first | (go_at_call 11; refine HCF.out.mono ?_; rintro e w4 ⟨c2, c3, c4, c5, rfl, hc4, hb4⟩; obtain ⟨caG, ccG, rfl⟩ := hc4.1.is; obtain ⟨saG, scG, rfl⟩ := hc4.2.1.is; obtain ⟨aaG, acG, rfl⟩ := hc4.2.2.1.is; obtain ⟨kaG, kcG, rfl⟩ := hc4.2.2.2.1.is; have HC4 := Lib.hid hc4; have HB4 := Lib.hid hb4; clear hc4 hb4 y0 y1 y2 y3 y4 y5) | (go_at_call 12; refine (HCI.out _ HB4.out).mono ?_; rintro e w5 ⟨lv, vs, rfl, ho5, hb5⟩; obtain ⟨la, lc, rfl, -⟩ := own_read ho5.own; have HO5 := Lib.hid ho5; have HB5 := Lib.hid hb5; have HN := Lib.hid (heap_alloc_new w5 (.cells #[.int .i64 0, .int .i64 0, .slice none 0 0, .slice none 0 0, .slice none 0 0, .slice none 0 0] 26)); clear ho5 hb5) | (refine wpList_store_row rfl 26 (.tmp 7) (.tmp 33) rfl w5.heap.size #[.int .i64 S.width, .int .i64 S.regs, .slice caG S.chans.length ccG, .slice saG S.sites.length scG, .slice aaG S.arrays.length acG, .slice kaG S.code.length kcG] rfl rfl 26 #[.int .i64 0, .int .i64 0, .slice none 0 0, .slice none 0 0, .slice none 0 0, .slice none 0 0] ?hs2 (by as_aux_lemma => kernel_rfl) (by as_aux_lemma => kernel_rfl) (by as_aux_lemma => kernel_rfl) ?_; exact HN.out))
  try simp only [Act.put]
  have hbn : Below w5.heap.size w5 ((w5.alloc (.cells #[.int .i64 0, .int .i64 0, .slice none 0 0, .slice none 0 0, .slice none 0 0, .slice none 0 0] 26)).setRow w5.heap.size #[.int .i64 S.width, .int .i64 S.regs, .slice caG S.chans.length ccG, .slice saG S.sites.length scG, .slice aaG S.arrays.length acG, .slice kaG S.code.length kcG]) := below_row ((Below.refl w5.heap.size w5).alloc (Nat.le_refl _) _) (Nat.le_refl _) _
  have HG6 : Hid (((w5.alloc (.cells #[.int .i64 0, .int .i64 0, .slice none 0 0, .slice none 0 0, .slice none 0 0, .slice none 0 0] 26)).setRow w5.heap.size #[.int .i64 S.width, .int .i64 S.regs, .slice caG S.chans.length ccG, .slice saG S.sites.length scG, .slice aaG S.arrays.length acG, .slice kaG S.code.length kcG]).heap[w5.heap.size]? = some (.cells #[.int .i64 S.width, .int .i64 S.regs, .slice caG S.chans.length ccG, .slice saG S.sites.length scG, .slice aaG S.arrays.length acG, .slice kaG S.code.length kcG] 26 (0, 0))) := setRow_heap _ _ _ _ _ _ HN.out
  have HC6 := Lib.hid ((HC4.out.keep HB5.out).keep hbn)
  have HO6 := Lib.hid (HO5.out.keep hbn)
  have HB36 := Lib.hid (bcomp HB4.out (bcomp HB5.out hbn))
  have hs34 : W3.heap.size ≤ w4.heap.size := HB4.out.size
  have hs45 : w4.heap.size ≤ w5.heap.size := HB5.out.size
  have HC4k := HC4
  clear hbn HN HC4 HO5 HB4 HB5 HCF HCI
  generalize ((w5.alloc (.cells #[.int .i64 0, .int .i64 0, .slice none 0 0, .slice none 0 0, .slice none 0 0, .slice none 0 0] 26)).setRow w5.heap.size #[.int .i64 S.width, .int .i64 S.regs, .slice caG S.chans.length ccG, .slice saG S.sites.length scG, .slice aaG S.arrays.length acG, .slice kaG S.code.length kcG]) = W6 at *
  have hs56 : w5.heap.size < W6.heap.size := (Array.getElem?_eq_some_iff.1 HG6.out).1
  have HF6 := Lib.hid ((HB36.out.block _ hs3).trans hg3.out)
  have HB06 := Lib.hid (bcomp HB3.out HB36.out)
  have HR6 := Lib.hid (HR3.out.keep HB36.out)
  have HI6 := Lib.hid (HI3.out.keep HB36.out)
  have HL6 := Lib.hid (HL0.out.keep HB36.out)
  have HOR := Lib.hid ((HO6.out.rd (by omega) (fun l hl => by have := HMl.out l hl; omega)).forget)
  clear HR3 HI3 HL0 HB3 hg3 HB36
  have hvl := HO6.out.len
  rw [hvl] at HOR HO6 ⊢
  have HVL := Lib.hid hvl
  clear hvl
  have hM2 : M.length ≤ 1000000 := by omega
  have HEF := Lib.hid (fun (w' : World) (hb : Below W6.heap.size W6 w') => equalFlatSelf S _ _ _ _ _ _ _ _ w' (HC6.out.forget.keep hb) (HR6.out.keep hb))
  have HEI := Lib.hid (fun (w' : World) (hb : Below W6.heap.size W6 w') => equalListsSelf M _ _ w' (HOR.out.keep hb) (HI6.out.keep hb))
  have HAW := Lib.hid (fun (w' : World) (hb : Below W6.heap.size W6 w') => awake_any w' (HL6.out.keep hb))
  have hlt5 : w5.heap.size < W6.heap.size := hs56
  have hlt0 : w.heap.size < W6.heap.size := by omega
  by_cases hb : flatOk S = false ∨ S.chans.length < M.length
  · have HCM0 := machNewBad S _ _ _ _ la M.length lc W6 HC6.out.forget HL6.out hM2 hb
    have HCR0 := fun (w' : World) (hb' : Below W6.heap.size W6 w') => refNewBad S _ _ _ _ ma M.length mc w' (HR6.out.keep hb') hM2 hb
    obtain ⟨r, hr⟩ : ∃ r : Int, (if flatOk S then (5 : Int) else 2) = r := ⟨_, rfl⟩
    rw [hr] at HCM0 HCR0
    have HCM := Lib.hid HCM0
    have HCR := Lib.hid HCR0
    have hrr : (r != r) = false := by simp
    clear HCM0 HCR0 hr hb
    have y0 := row_of HG6.out 0 (.int .i64 S.width) rfl
    have y1 := row_of HG6.out 1 (.int .i64 S.regs) rfl
    have y2 := row_of HG6.out 2 (.slice caG S.chans.length ccG) rfl
    have y3 := row_of HG6.out 3 (.slice saG S.sites.length scG) rfl
    have y4 := row_of HG6.out 4 (.slice aaG S.arrays.length acG) rfl
    have y5 := row_of HG6.out 5 (.slice kaG S.code.length kcG) rfl
    go_wp2_with (first | (go_at_call 13; refine HCM.out.mono ?_; rintro e w7 ⟨rfl, hb7⟩; have HB7 := Lib.hid hb7; clear y0 y1 y2 y3 y4 y5; have x0 := row_of ((hb7.block _ hlt0).trans HF6.out) 0 (.int .i64 S.width) rfl; have x1 := row_of ((hb7.block _ hlt0).trans HF6.out) 1 (.int .i64 S.regs) rfl; have x2 := row_of ((hb7.block _ hlt0).trans HF6.out) 2 (.slice caS S.chans.length ccS) rfl; have x3 := row_of ((hb7.block _ hlt0).trans HF6.out) 3 (.slice saS S.sites.length scS) rfl; have x4 := row_of ((hb7.block _ hlt0).trans HF6.out) 4 (.slice aaS S.arrays.length acS) rfl; have x5 := row_of ((hb7.block _ hlt0).trans HF6.out) 5 (.slice kaS S.code.length kcS) rfl; clear hb7) | (go_at_call 14; refine (HCR.out w7 HB7.out).mono ?_; rintro e w8 ⟨rfl, hb8⟩; have HB8 := Lib.hid (bcomp HB7.out hb8); have HB8d := Lib.hid hb8; clear x0 x1 x2 x3 x4 x5; have x0 := row_of ((HB8.out.block _ hlt0).trans HF6.out) 0 (.int .i64 S.width) rfl; have x1 := row_of ((HB8.out.block _ hlt0).trans HF6.out) 1 (.int .i64 S.regs) rfl; have x2 := row_of ((HB8.out.block _ hlt0).trans HF6.out) 2 (.slice caS S.chans.length ccS) rfl; have x3 := row_of ((HB8.out.block _ hlt0).trans HF6.out) 3 (.slice saS S.sites.length scS) rfl; have x4 := row_of ((HB8.out.block _ hlt0).trans HF6.out) 4 (.slice aaS S.arrays.length acS) rfl; have x5 := row_of ((HB8.out.block _ hlt0).trans HF6.out) 5 (.slice kaS S.code.length kcS) rfl; have y0 := row_of ((HB8.out.block _ hlt5).trans HG6.out) 0 (.int .i64 S.width) rfl; have y1 := row_of ((HB8.out.block _ hlt5).trans HG6.out) 1 (.int .i64 S.regs) rfl; have y2 := row_of ((HB8.out.block _ hlt5).trans HG6.out) 2 (.slice caG S.chans.length ccG) rfl; have y3 := row_of ((HB8.out.block _ hlt5).trans HG6.out) 3 (.slice saG S.sites.length scG) rfl; have y4 := row_of ((HB8.out.block _ hlt5).trans HG6.out) 4 (.slice aaG S.arrays.length acG) rfl; have y5 := row_of ((HB8.out.block _ hlt5).trans HG6.out) 5 (.slice kaG S.code.length kcG) rfl; clear hb8) | (go_at_call 15; refine (HEF.out _ HB8.out).mono ?_; rintro e w9 ⟨rfl, hb9⟩; have HB9 := Lib.hid (bcomp HB8.out hb9); have HB9d := Lib.hid hb9; clear hb9; clear x0 x1 x2 x3 x4 x5; clear y0 y1 y2 y3 y4 y5) | (go_at_call 16; refine (HEI.out _ HB9.out).mono ?_; rintro e w10 ⟨rfl, hb10⟩; have HB10 := Lib.hid (bcomp HB9.out hb10); have HB10d := Lib.hid (bcomp HB9d.out hb10); clear hb10) | (go_at_call 17; refine (HAW.out _ HB10.out).mono ?_; rintro e w11 ⟨rfl, hb11⟩; have HB11 := Lib.hid (bcomp HB10.out hb11); clear hb11))
    go_ret
    exact ⟨rfl, bcomp HB06.out HB11.out⟩
  · have hok : flatOk S = true := by
      cases h : flatOk S
      · exact absurd (.inl h) hb
      · rfl
    have hle : M.length ≤ S.chans.length := by omega
    have HHD := Lib.hid (headP hok)
    have hci : ∀ c ∈ S.code, CodeIn c := HR6.out.2.2.2.1.ok
    have HGO := Lib.hid (fun k => going_run (ins := insM S M) HHD.out hci k)
    have HINS : Hid ((insM S M).length = S.chans.length) := by show _ = _; simp only [insM, List.length_append, List.length_replicate]; omega
    have HCM := Lib.hid (machNew S _ _ _ _ _ M W6 HC6.out.forget HOR.out HL6.out hok hle)
    have HCR := Lib.hid (fun (w' : World) (hb' : Below W6.heap.size W6 w') => refNew S _ _ _ _ _ M w' (HR6.out.keep hb') (HI6.out.keep hb') hok hle)
    have h00 : ((0 : Int) != 0) = false := rfl
    have hcode1 : 0 < S.code.length := by have := HHD.out.code0; omega
    have hcode2 : S.code.length ≤ 4096 := HHD.out.code1
    have hrg0 : 0 ≤ S.regs := HHD.out.r0
    have hrg1 : S.regs ≤ 2097152 := HHD.out.r1
    clear hb hok hci
    have y0 := row_of HG6.out 0 (.int .i64 S.width) rfl
    have y1 := row_of HG6.out 1 (.int .i64 S.regs) rfl
    have y2 := row_of HG6.out 2 (.slice caG S.chans.length ccG) rfl
    have y3 := row_of HG6.out 3 (.slice saG S.sites.length scG) rfl
    have y4 := row_of HG6.out 4 (.slice aaG S.arrays.length acG) rfl
    have y5 := row_of HG6.out 5 (.slice kaG S.code.length kcG) rfl
    go_upto_region 9 with (first | (go_at_call 13; refine HCM.out.mono ?_; rintro e w7 ⟨bm, rfl, hm7, hb7⟩; have HM7 := Lib.hid hm7; clear hm7; have HB7 := Lib.hid hb7; clear y0 y1 y2 y3 y4 y5; have x0 := row_of ((hb7.block _ hlt0).trans HF6.out) 0 (.int .i64 S.width) rfl; have x1 := row_of ((hb7.block _ hlt0).trans HF6.out) 1 (.int .i64 S.regs) rfl; have x2 := row_of ((hb7.block _ hlt0).trans HF6.out) 2 (.slice caS S.chans.length ccS) rfl; have x3 := row_of ((hb7.block _ hlt0).trans HF6.out) 3 (.slice saS S.sites.length scS) rfl; have x4 := row_of ((hb7.block _ hlt0).trans HF6.out) 4 (.slice aaS S.arrays.length acS) rfl; have x5 := row_of ((hb7.block _ hlt0).trans HF6.out) 5 (.slice kaS S.code.length kcS) rfl; clear hb7) | (go_at_call 14; refine (HCR.out w7 HB7.out).mono ?_; rintro e w8 ⟨br, rfl, hm8, hb8⟩; have HM8 := Lib.hid hm8; clear hm8; have HB8 := Lib.hid (bcomp HB7.out hb8); have HB8d := Lib.hid hb8; clear x0 x1 x2 x3 x4 x5; have x0 := row_of ((HB8.out.block _ hlt0).trans HF6.out) 0 (.int .i64 S.width) rfl; have x1 := row_of ((HB8.out.block _ hlt0).trans HF6.out) 1 (.int .i64 S.regs) rfl; have x2 := row_of ((HB8.out.block _ hlt0).trans HF6.out) 2 (.slice caS S.chans.length ccS) rfl; have x3 := row_of ((HB8.out.block _ hlt0).trans HF6.out) 3 (.slice saS S.sites.length scS) rfl; have x4 := row_of ((HB8.out.block _ hlt0).trans HF6.out) 4 (.slice aaS S.arrays.length acS) rfl; have x5 := row_of ((HB8.out.block _ hlt0).trans HF6.out) 5 (.slice kaS S.code.length kcS) rfl; have y0 := row_of ((HB8.out.block _ hlt5).trans HG6.out) 0 (.int .i64 S.width) rfl; have y1 := row_of ((HB8.out.block _ hlt5).trans HG6.out) 1 (.int .i64 S.regs) rfl; have y2 := row_of ((HB8.out.block _ hlt5).trans HG6.out) 2 (.slice caG S.chans.length ccG) rfl; have y3 := row_of ((HB8.out.block _ hlt5).trans HG6.out) 3 (.slice saG S.sites.length scG) rfl; have y4 := row_of ((HB8.out.block _ hlt5).trans HG6.out) 4 (.slice aaG S.arrays.length acG) rfl; have y5 := row_of ((HB8.out.block _ hlt5).trans HG6.out) 5 (.slice kaG S.code.length kcG) rfl; clear hb8) | (go_at_call 15; refine (HEF.out _ HB8.out).mono ?_; rintro e w9 ⟨rfl, hb9⟩; have HB9 := Lib.hid (bcomp HB8.out hb9); have HB9d := Lib.hid hb9; clear hb9; clear x0 x1 x2 x3 x4 x5; clear y0 y1 y2 y3 y4 y5) | (go_at_call 16; refine (HEI.out _ HB9.out).mono ?_; rintro e w10 ⟨rfl, hb10⟩; have HB10 := Lib.hid (bcomp HB9.out hb10); have HB10d := Lib.hid (bcomp HB9d.out hb10); clear hb10))
    have HTW := Lib.hid ((pair_new HM7.out HB8d.out HB7.out.size HM8.out).keep HB10d.out)
    have HGX := Lib.hid ((HB10.out.block _ hlt5).trans HG6.out)
    have HFX := Lib.hid ((HB10.out.block _ hlt0).trans HF6.out)
    have HO10 := Lib.hid (HO6.out.keep HB10.out)
    have hlt4 : w4.heap.size ≤ W6.heap.size := by omega
    obtain ⟨kb, ko, e1, hkg, hkl, hkcs, _⟩ := there_code HC4k.out.2.2.2.1 hcode1
    subst e1
    obtain ⟨kb', ko', e2, _, _, hkc10, hth10⟩ := there_code (HC6.out.2.2.2.1.keep HB10.out) hcode1
    simp only [Option.some.injEq, Addr.mk.injEq, and_true] at e2
    obtain ⟨rfl, rfl⟩ := e2
    have hkg : W3.heap.size ≤ kb := hkg
    obtain ⟨kcs, hkc10⟩ := hkc10
    have hne5 : w5.heap.size ≠ kb := row_ne HGX.out hkc10 (by decide)
    have HTH10 := Lib.hid hth10
    have hs10 : W6.heap.size ≤ w10.heap.size := HB10.out.size
    have HB010 := Lib.hid (bcomp HB06.out HB10.out)
    have HL10 := Lib.hid (HL6.out.keep HB10.out)
    clear hth10 HM7 HM8 HB8d HB10d HB7 HB8 HB9 HB9d HCM HCR HEF HEI HAW HOR HC6 HC4k hkcs hkc10 HR6 HI6 h00
    go_wp2_with fail
    go_loopw [13] (fun i wr => ∃ k : Nat, k ≤ S.code.length ∧ i = .int .i64 k ∧ Turn (fun b => b = kb) w10 wr ∧ wr.there kb ko (S.code.length * 8)) (fun i _ => S.code.length - (intOf i).toNat)
    case atStart => exact ⟨0, Nat.zero_le _, rfl, Turn.refl _ _, HTH10.out⟩
    case round =>
      obtain ⟨k, hk, rfl, hT, hth⟩ := hrel
      have hgx := (hT.block _ (by omega) hne5).trans HGX.out
      have y5 := row_of hgx 5 (.slice (some ⟨kb, ko, none⟩) S.code.length kcG) rfl
      by_cases hlt : k < S.code.length
      · have hk1 : (k : Int) < (S.code.length : Int) := by omega
        have HTH : Hid (wr.there kb (ko + k * 8) 8) := fun q hq => by have := hth (k * 8 + q) (by omega); rwa [← Nat.add_assoc] at this
        have HT2 := Lib.hid (hT.trans (turn_setCells kb [.int .u8 9, .int .u8 0, .int .i64 0, .int .i64 0, .int .i64 0, .int .u64 0, .int .i64 0, .int .u64 0] (ko + k * 8) wr))
        have HTH2 := Lib.hid (World.there_setCells hth kb (ko + k * 8) [.int .u8 9, .int .u8 0, .int .i64 0, .int .i64 0, .int .i64 0, .int .u64 0, .int .i64 0, .int .u64 0])
        clear hT hth hgx
        obtain ⟨v0, c0⟩ := Option.isSome_iff_exists.1 (HTH.out 0 (by omega)).1
        have f0 := (HTH.out 0 (by omega)).2
        obtain ⟨v1, c1⟩ := Option.isSome_iff_exists.1 (HTH.out 1 (by omega)).1
        have f1 := (HTH.out 1 (by omega)).2
        obtain ⟨v2, c2⟩ := Option.isSome_iff_exists.1 (HTH.out 2 (by omega)).1
        have f2 := (HTH.out 2 (by omega)).2
        obtain ⟨v3, c3⟩ := Option.isSome_iff_exists.1 (HTH.out 3 (by omega)).1
        have f3 := (HTH.out 3 (by omega)).2
        obtain ⟨v4, c4⟩ := Option.isSome_iff_exists.1 (HTH.out 4 (by omega)).1
        have f4 := (HTH.out 4 (by omega)).2
        obtain ⟨v5, c5⟩ := Option.isSome_iff_exists.1 (HTH.out 5 (by omega)).1
        have f5 := (HTH.out 5 (by omega)).2
        obtain ⟨v6, c6⟩ := Option.isSome_iff_exists.1 (HTH.out 6 (by omega)).1
        have f6 := (HTH.out 6 (by omega)).2
        obtain ⟨v7, c7⟩ := Option.isSome_iff_exists.1 (HTH.out 7 (by omega)).1
        have f7 := (HTH.out 7 (by omega)).2
        simp only [Nat.add_zero] at c0 f0
        go_wp2_with fail
        go_roundw
        case rel => exact ⟨k + 1, by omega, by go_num, HT2.out, HTH2.out⟩
        case measure => simp [intOf]; omega
      · have hk1 : ¬ (k : Int) < (S.code.length : Int) := by omega
        have hs11 := hT.size
        have HT11 := Lib.hid hT
        have HO11 := Lib.hid (HO10.out.same fun b hb hlt => hT.block b hlt (by omega))
        clear hth hgx hT HTH10 HGX HG6 HO10
        obtain ⟨w11, hw11⟩ : ∃ x : World, x = wr := ⟨_, rfl⟩
        rw [← hw11] at HO11 HT11 y5 hs11 ⊢
        clear hw11
        go_wp2_with fail
        clear y5 hk1 hlt hk
        go_loopw [14] (fun i wr => ∃ (n : Nat) (M1 : List (List Int)), n ≤ M.length ∧ i = .int .i64 n ∧ M1.map List.length = M.map List.length ∧ OwnL w4.heap.size wr (.slice la M.length lc) vs M1 ∧ Turn (fun b => w4.heap.size ≤ b ∧ b < W6.heap.size) w11 wr) (fun i _ => M.length - (intOf i).toNat)
        case atStart => exact ⟨0, M, Nat.zero_le _, rfl, rfl, HO11.out, Turn.refl _ _⟩
        case round =>
          obtain ⟨n, M1, hn, rfl, hml, ho, hT⟩ := hrel
          obtain ⟨w12, rfl⟩ : ∃ x : World, x = wr := ⟨_, rfl⟩
          by_cases hlt : n < M.length
          · have hn1 : (n : Int) < (M.length : Int) := by omega
            obtain ⟨l0, hl0⟩ : ∃ l0, M[n]? = some l0 := ⟨_, List.getElem?_eq_getElem hlt⟩
            have hll : l0.length ≤ 40 := HMl.out l0 (List.mem_of_getElem? hl0)
            have HLE : Hid (∀ M2 : List (List Int), M2.map List.length = M.map List.length → ∃ l2, M2[n]? = some l2 ∧ l2.length = l0.length) := fun M2 h => by
              have h1 : (M2.map List.length)[n]? = (M.map List.length)[n]? := by rw [h]
              simp only [List.getElem?_map, hl0, Option.map_some] at h1
              cases h2 : M2[n]? with
              | none => rw [h2] at h1; cases h1
              | some l2 => rw [h2] at h1; exact ⟨l2, rfl, by simpa using h1⟩
            obtain ⟨g, gc, u, e1, hu, _, _, hur6, _, _, _⟩ := HO6.out.at hl0
            rw [HVL.out] at e1
            simp only [Value.slice.injEq, true_and] at e1
            obtain ⟨rfl, rfl⟩ := e1
            obtain ⟨ua, uc, rfl, -⟩ := own_read hur6
            have HU := Lib.hid hu
            have HUL : Hid (∀ b, (Value.slice ua l0.length uc).ownBlock = some b → b < W6.heap.size) := own_lt hur6
            have HO12 := Lib.hid ho
            have HML := Lib.hid hml
            have HT12 := Lib.hid hT
            clear hu hur6 ho hml hT hl0
            go_wp2_with fail
            go_loopw [15] (fun j wr => ∃ (q : Nat) (M2 : List (List Int)), q ≤ l0.length ∧ j = .int .i64 q ∧ M2.map List.length = M.map List.length ∧ OwnL w4.heap.size wr (.slice (some ⟨g, 0, none⟩) M.length lc) vs M2 ∧ Turn (fun b => w4.heap.size ≤ b ∧ b < W6.heap.size) w11 wr) (fun j _ => l0.length - (intOf j).toNat)
            case atStart => exact ⟨0, M1, Nat.zero_le _, rfl, HML.out, HO12.out, HT12.out⟩
            case round =>
              obtain ⟨q, M2, hq, rfl, hml2, ho2, hT2⟩ := hrel
              obtain ⟨l2, hl2, hl2l⟩ := HLE.out M2 hml2
              obtain ⟨g', gc', u', e1, hu', hcu, hfu, hur, hgn', hgl', hug⟩ := ho2.at hl2
              rw [HVL.out] at e1
              simp only [Value.slice.injEq, Option.some.injEq, Addr.mk.injEq, and_true, true_and] at e1
              obtain ⟨rfl, rfl⟩ := e1
              rw [HU.out] at hu'
              cases hu'
              by_cases hql : q < l0.length
              · have hq1 : (q : Int) < (l0.length : Int) := by omega
                obtain ⟨x0, hx0⟩ : ∃ x0, l2[q]? = some x0 := ⟨_, List.getElem?_eq_getElem (by omega)⟩
                obtain ⟨ub, uc2, cur, e2, hcur, hub, hcl, hfr⟩ := own_in hur (by rw [kNum_len]; omega)
                rw [hl2l] at e2
                simp only [Value.slice.injEq, true_and] at e2
                obtain ⟨rfl, rfl⟩ := e2
                have c1 := hcl q _ (kNum_at hx0)
                have f1 := hfr q
                have hub6 := HUL.out ub rfl
                have HSE := Lib.hid (ho2.setElem HU.out hl2 q (IntKind.u64.wrap (x0 + 1)) (wrap_in _))
                have HMS : Hid ((M2.set n (l2.set q (IntKind.u64.wrap (x0 + 1)))).map List.length = M.map List.length) := by
                  show _ = _
                  rw [List.map_set, List.length_set, set_back (by rw [List.getElem?_map, hl2]; rfl)]
                  exact hml2
                have HTS := Lib.hid (hT2.setCell (a := ⟨ub, q, none⟩) ⟨hub, hub6⟩ (.int .u64 (IntKind.u64.wrap (x0 + 1))))
                clear hl2 hl2l hx0 hcl hfr hcur hml2 ho2 hT2 hur hfu hgn' hgl' hug
                go_wp2_with fail
                go_roundw
                case rel => exact ⟨q + 1, _, by omega, by go_num, HMS.out, HSE.out, HTS.out⟩
                case measure => simp [intOf]; omega
              · have hq1 : ¬ (q : Int) < (l0.length : Int) := by omega
                have HSE := Lib.hid ho2
                have HMS := Lib.hid hml2
                have HTS := Lib.hid hT2
                clear hl2 hl2l hml2 ho2 hT2 hur hfu hgn' hgl' hug
                have hn40 : n ≤ 34 := by omega
                go_wp2_with fail
                go_roundw
                case rel => exact ⟨n + 1, _, by omega, by go_num, HMS.out, HSE.out, HTS.out⟩
                case measure => simp [intOf]; omega
          · have hn1 : ¬ (n : Int) < (M.length : Int) := by omega
            have hs12 := hT.size
            have HTW12 := Lib.hid (HTW.out.keepUp (w' := w12) (by omega) (fun b hb hlt => (hT.block b (by omega) (by omega)).trans (HT11.out.block b hlt (by omega))))
            have HFX12 : Hid (w12.heap[w.heap.size]? = some (.cells #[.int .i64 S.width, .int .i64 S.regs, .slice caS S.chans.length ccS, .slice saS S.sites.length scS, .slice aaS S.arrays.length acS, .slice kaS S.code.length kcS] 26 (0, 0))) := (hT.block _ (by omega) (by omega)).trans ((HT11.out.block _ (by omega) (by omega)).trans HFX.out)
            have HB012 := Lib.hid (hT.below (HT11.out.below HB010.out (fun b e => by omega)) (fun b e => by omega))
            have HL12 := Lib.hid (HLw.out.keep HB012.out)
            clear HO11 HO6 HTW HFX HB010 HL10 HT11 hT ho hml HL6 HF6 HB06 HB10
            go_wp2_with fail
            clear hn1 hlt hn
            have hs12n : W6.heap.size ≤ w12.heap.size := by omega
            have HAW := Lib.hid (fun (w' : World) (hb : Below w.heap.size w w') => awake_any w' (HLw.out.keep hb))
            have HPAD := Lib.hid (fun m => stepM_ins (f := S) (a := M) (b := insM S M) (fun n q => (inAt_pad M _ n q).symm) m)
            have hM1000 : M.length ≤ 1000 := by omega
            obtain ⟨rg, hrg⟩ : ∃ rg : Nat, S.regs = rg := ⟨S.regs.toNat, by omega⟩
            obtain ⟨n8, hn8⟩ : ∃ n8 : Nat, min rg 8 = n8 := ⟨_, rfl⟩
            have HMIN := Lib.hid (min_run rg n8 8 (by omega))
            have hn88 : n8 ≤ 8 := by omega
            have HRG := Lib.hid hrg
            clear hrg hn8 hs12
            go_loopw [16] (fun i wr => ∃ k : Nat, k ≤ 80 ∧ i = .int .i64 k ∧ Two W6.heap.size wr bm br S M (iterM S (insM S M) k (newM S)) (iterM S (insM S M) k (newM S)) ∧ Turn (fun b => W6.heap.size ≤ b) w12 wr) (fun i _ => 80 - (intOf i).toNat)
            case atStart => exact ⟨0, Nat.zero_le _, rfl, HTW12.out, Turn.refl _ _⟩
            case round =>
              obtain ⟨k, hk, rfl, htw, hT⟩ := hrel
              obtain ⟨w13, rfl⟩ : ∃ x : World, x = wr := ⟨_, rfl⟩
              have HB13 := Lib.hid (hT.below HB012.out (fun b e => by omega))
              have hs13 : W6.heap.size ≤ w13.heap.size := by have := hT.size; omega
              by_cases hlt : k < 80
              · have hk1 : (k : Int) < 80 := by omega
                have HGK := Lib.hid (HGO.out k)
                have HNEXT : Hid (stepM S (insM S M) (iterM S (insM S M) k (newM S)) = iterM S (insM S M) (k + 1) (newM S)) := (iterM_succ _ _ _ _).symm
                have hfx13 : w13.heap[w.heap.size]? = some (.cells #[.int .i64 S.width, .int .i64 S.regs, .slice caS S.chans.length ccS, .slice saS S.sites.length scS, .slice aaS S.arrays.length acS, .slice kaS S.code.length kcS] 26 (0, 0)) := (hT.block _ (by omega) (by omega)).trans HFX12.out
                have HFX13 := Lib.hid hfx13
                have HTR := Lib.hid (two_trace htw HHD.out HGK.out (by omega))
                have HTW13 := Lib.hid htw
                have HT13 := Lib.hid hT
                clear htw hT hfx13
                generalize hm : iterM S (insM S M) k (newM S) = m at *
                clear hm
                go_upto_region 24 with (first | (go_at_call 18; refine HTR.out.mono ?_; rintro e z1 ⟨a1, a2, a3, a4, a5, a6, a7, a8, rfl, hrz, hz⟩; have HRZ := Lib.hid hrz; have HZ := Lib.hid hz; have HN := Lib.hid (heap_alloc_new z1 (.cells #[.int .u8 0, .int .i64 0, .slice none 0 0, .slice none 0 0, .slice none 0 0, .slice none 0 0] 49)); clear hrz hz) | (refine wpList_store_row rfl 49 (.tmp 17) (.tmp 114) rfl z1.heap.size #[.int .u8 m.t.status, .int .i64 m.t.steps, .slice a1 m.t.outs.length a2, .slice a3 m.t.rels.length a4, .slice a5 m.t.brs.length a6, .slice a7 m.t.reads.length a8] rfl rfl 49 #[.int .u8 0, .int .i64 0, .slice none 0 0, .slice none 0 0, .slice none 0 0, .slice none 0 0] ?hq1 (by as_aux_lemma => kernel_rfl) (by as_aux_lemma => kernel_rfl) (by as_aux_lemma => kernel_rfl) ?_; exact HN.out))
                try simp only [Act.put]
                have hbn : Below z1.heap.size z1 ((z1.alloc (.cells #[.int .u8 0, .int .i64 0, .slice none 0 0, .slice none 0 0, .slice none 0 0, .slice none 0 0] 49)).setRow z1.heap.size #[.int .u8 m.t.status, .int .i64 m.t.steps, .slice a1 m.t.outs.length a2, .slice a3 m.t.rels.length a4, .slice a5 m.t.brs.length a6, .slice a7 m.t.reads.length a8]) := below_row ((Below.refl z1.heap.size z1).alloc (Nat.le_refl _) _) (Nat.le_refl _) _
                have HG14 : Hid (((z1.alloc (.cells #[.int .u8 0, .int .i64 0, .slice none 0 0, .slice none 0 0, .slice none 0 0, .slice none 0 0] 49)).setRow z1.heap.size #[.int .u8 m.t.status, .int .i64 m.t.steps, .slice a1 m.t.outs.length a2, .slice a3 m.t.rels.length a4, .slice a5 m.t.brs.length a6, .slice a7 m.t.reads.length a8]).heap[z1.heap.size]? = some (.cells #[.int .u8 m.t.status, .int .i64 m.t.steps, .slice a1 m.t.outs.length a2, .slice a3 m.t.rels.length a4, .slice a5 m.t.brs.length a6, .slice a7 m.t.reads.length a8] 49 (0, 0))) := setRow_heap _ _ _ _ _ _ HN.out
                have HTX := Lib.hid (HRZ.out.keep hbn)
                have HB14 := Lib.hid (bcomp HZ.out hbn)
                clear hbn HN HRZ HZ HTR
                generalize ((z1.alloc (.cells #[.int .u8 0, .int .i64 0, .slice none 0 0, .slice none 0 0, .slice none 0 0, .slice none 0 0] 49)).setRow z1.heap.size #[.int .u8 m.t.status, .int .i64 m.t.steps, .slice a1 m.t.outs.length a2, .slice a3 m.t.rels.length a4, .slice a5 m.t.brs.length a6, .slice a7 m.t.reads.length a8]) = W14 at *
                have HTW14 := Lib.hid (HTW13.out.keep HB14.out)
                obtain ⟨xa1, xc1, xa2, xc2, xa3, xc3, db, hra, hbl, hcp, hrt⟩ := two_ref HTW14.out HHD.out HGK.out (by omega)
                have heqt := fun (w' : World) (hb : Below W14.heap.size W14 w') => equalTrace m.t m.t _ _ _ _ _ _ _ _ w' (HTX.out.forget.keep hb) (hrt.forget.keep hb)
                rw [eqT_refl] at heqt
                have HEQT := Lib.hid heqt
                clear heqt
                have HATC := Lib.hid (fun (z : World) => two_at (HTW14.out.keep (ext_below W14 z)))
                have e0 := ext_cell (row_of HG14.out 0 (.int .u8 m.t.status) rfl)
                have e1 := ext_cell (row_of HG14.out 1 (.int .i64 m.t.steps) rfl)
                have e2 := ext_cell (row_of HG14.out 2 (.slice a1 m.t.outs.length a2) rfl)
                have e3 := ext_cell (row_of HG14.out 3 (.slice a3 m.t.rels.length a4) rfl)
                have e4 := ext_cell (row_of HG14.out 4 (.slice a5 m.t.brs.length a6) rfl)
                have e5 := ext_cell (row_of HG14.out 5 (.slice a7 m.t.reads.length a8) rfl)
                have r0 := ext_cell (hra 0 (.int .u8 m.t.status) rfl)
                have r1 := ext_cell (hra 1 (.int .i64 m.t.steps) rfl)
                have r2 := ext_cell (hra 2 (.slice xa1 m.t.outs.length xc1) rfl)
                have r3 := ext_cell (hra 3 (.slice xa2 m.t.rels.length xc2) rfl)
                have r4 := ext_cell (hra 4 (.slice xa3 m.t.brs.length xc3) rfl)
                have r5 := ext_cell (hra 5 (.slice (some ⟨db, 0, none⟩) m.t.reads.length m.t.reads.length) rfl)
                have r9 := ext_cell hcp
                have hpc : (m.pc != m.pc) = false := by simp
                clear hra hrt hcp
                (refine wp_region_calm (by kernel_rfl) (by kernel_rfl) ?_; (repeat (go_big_quiet_step ((first | (go_at_call 19; exact calls_calm (HEQT.out _ (ext_below W14 _))) | (go_at_call 20; exact calls_calm_same (HATC.out _)))))); refine wpQuiet_nil ?_; intro wc hwc)
                generalize wc = W15 at *
                have HB15 := Lib.hid (bcomp HB14.out hwc)
                have HXR : Hid (XR z1.heap.size #[.int .u8 m.t.status, .int .i64 m.t.steps, .slice a1 m.t.outs.length a2, .slice a3 m.t.rels.length a4, .slice a5 m.t.brs.length a6, .slice a7 m.t.reads.length a8] m.t a1 a2 a5 a6 a7 a8 w13 W15) := ⟨m.t.reads, m.t.outs, m.t.brs, rfl, rfl, rfl, HTX.out.2.2.2.1.keep hwc, HTX.out.1.keep hwc, HTX.out.2.2.1.keep hwc, (hwc.block _ (Array.getElem?_eq_some_iff.1 HG14.out).1).trans HG14.out, HB15.out⟩
                have hrl32 : m.t.reads.length ≤ 32 := by have := HGK.out.good.reads; have := HHD.out.chans; omega
                have hol80 : m.t.outs.length ≤ 80 := by have := HGK.out.good.outs; have := HGK.out.steps; omega
                have hbl80 : m.t.brs.length ≤ 80 := by have := HGK.out.good.brs; have := HGK.out.steps; omega
                have hml : m.regs.length ≤ 2097152 := by have := HGK.out.good.regs; omega
                clear e0 e1 e2 e3 e4 e5 r0 r1 r2 r3 r4 r5 r9 HEQT HATC HTX HG14 HB14 HTW14 hwc hpc HB15
                go_wp2_with fail
                go_loopw [18] (fun i wq => ∃ q : Nat, q ≤ m.t.reads.length ∧ i = .int .i64 q ∧ XR z1.heap.size #[.int .u8 m.t.status, .int .i64 m.t.steps, .slice a1 m.t.outs.length a2, .slice a3 m.t.rels.length a4, .slice a5 m.t.brs.length a6, .slice a7 m.t.reads.length a8] m.t a1 a2 a5 a6 a7 a8 w13 wq) (fun i _ => m.t.reads.length - (intOf i).toNat)
                case atStart => exact ⟨0, Nat.zero_le _, rfl, HXR.out⟩
                case round =>
                  obtain ⟨q, hq, rfl, hx⟩ := hrel
                  obtain ⟨w16, rfl⟩ : ∃ x : World, x = wr := ⟨_, rfl⟩
                  have x5 := row_of hx.box 5 (.slice a7 m.t.reads.length a8) rfl
                  by_cases hql : q < m.t.reads.length
                  · have hq1 : (q : Int) < (m.t.reads.length : Int) := by omega
                    obtain ⟨b, o, v, rfl, cR, hvin, fR, hset⟩ := hx.read hql
                    have HXS := Lib.hid (hset (wrap64 (v + 1)) (wrap64_ok _))
                    clear hset hx
                    go_wp2_with fail
                    go_roundw
                    case rel => exact ⟨q + 1, by omega, by go_num, HXS.out⟩
                    case measure => simp [intOf]; omega
                  have hq1 : ¬ (q : Int) < (m.t.reads.length : Int) := by omega
                  have HX6 := Lib.hid hx
                  go_wp2_with fail
                  clear hx x5 hq1 hql hq HXR
                  go_loopw [19] (fun i wq => ∃ q : Nat, q ≤ m.t.outs.length ∧ i = .int .i64 q ∧ XR z1.heap.size #[.int .u8 m.t.status, .int .i64 m.t.steps, .slice a1 m.t.outs.length a2, .slice a3 m.t.rels.length a4, .slice a5 m.t.brs.length a6, .slice a7 m.t.reads.length a8] m.t a1 a2 a5 a6 a7 a8 w13 wq) (fun i _ => m.t.outs.length - (intOf i).toNat)
                  case atStart => exact ⟨0, Nat.zero_le _, rfl, HX6.out⟩
                  case round =>
                    obtain ⟨q2, hq, rfl, hx⟩ := hrel
                    obtain ⟨w17, rfl⟩ : ∃ x : World, x = wr := ⟨_, rfl⟩
                    have x2 := row_of hx.box 2 (.slice a1 m.t.outs.length a2) rfl
                    by_cases hql : q2 < m.t.outs.length
                    · have hq1 : (q2 : Int) < (m.t.outs.length : Int) := by omega
                      obtain ⟨b, o, v, rfl, cR, hvin, fR, hset⟩ := hx.out hql
                      have HXS := Lib.hid (hset (IntKind.u64.wrap (v + 1)) (wrap_in _))
                      clear hset hx
                      go_wp2_with fail
                      go_roundw
                      case rel => exact ⟨q2 + 1, by omega, by go_num, HXS.out⟩
                      case measure => simp [intOf]; omega
                    have hq1 : ¬ (q2 : Int) < (m.t.outs.length : Int) := by omega
                    have HX7 := Lib.hid hx
                    go_wp2_with fail
                    clear hx x2 hq1 hql hq HX6
                    go_loopw [20] (fun i wq => ∃ q : Nat, q ≤ m.t.brs.length ∧ i = .int .i64 q ∧ XR z1.heap.size #[.int .u8 m.t.status, .int .i64 m.t.steps, .slice a1 m.t.outs.length a2, .slice a3 m.t.rels.length a4, .slice a5 m.t.brs.length a6, .slice a7 m.t.reads.length a8] m.t a1 a2 a5 a6 a7 a8 w13 wq) (fun i _ => m.t.brs.length - (intOf i).toNat)
                    case atStart => exact ⟨0, Nat.zero_le _, rfl, HX7.out⟩
                    case round =>
                      obtain ⟨q3, hq, rfl, hx⟩ := hrel
                      obtain ⟨w18, rfl⟩ : ∃ x : World, x = wr := ⟨_, rfl⟩
                      have x4 := row_of hx.box 4 (.slice a5 m.t.brs.length a6) rfl
                      by_cases hql : q3 < m.t.brs.length
                      · have hq1 : (q3 : Int) < (m.t.brs.length : Int) := by omega
                        obtain ⟨b, o, v, rfl, cR, _, _, _⟩ := hx.br hql
                        have HX := Lib.hid hx
                        clear hx
                        go_upto_region 37 with fail
                        have e4 := ext_cell x4
                        have eR := ext_cell cR
                        clear x4 cR
                        (refine wp_region_calm_tail 9 (by kernel_rfl) (by kernel_rfl) ?_; simp only [List.take_succ_cons, List.take_zero, List.drop_succ_cons, List.drop_zero]; (repeat (go_big_quiet_step (fail))); refine wpQuiet_nil ?_; intro wc hwc)
                        obtain ⟨b', o', v', e', cR, _, ⟨cs0, hcs0⟩, hset⟩ := (HX.out.keep hwc).br hql
                        simp only [Option.some.injEq, Addr.mk.injEq, and_true] at e'
                        obtain ⟨rfl, rfl⟩ := e'
                        have fR := frozen_of_row wc b (o + q3) _ _ hcs0
                        have HXS := Lib.hid (hset (!v))
                        clear hset hcs0 e4 eR HX hwc
                        go_wp2_with fail
                        go_roundw
                        case rel => exact ⟨q3 + 1, by omega, by go_num, HXS.out⟩
                        case measure => simp [intOf]; omega
                      have hq1 : ¬ (q3 : Int) < (m.t.brs.length : Int) := by omega
                      have hb18 := hx.below
                      have HTW18 := Lib.hid (HTW13.out.keep hb18)
                      have HB18 := Lib.hid (bcomp HB13.out hb18)
                      have HFX18 := Lib.hid ((hb18.block _ (Array.getElem?_eq_some_iff.1 HFX13.out).1).trans HFX13.out)
                      have HT18 := Lib.hid (HT13.out.trans (Turn.of_below hb18))
                      go_wp2_with fail
                      clear hx x4 hq1 hql hq HX7 hb18 HTW13 HFX13 HT13
                      go_loopw [21] (fun j wz => ∃ q : Nat, q ≤ n8 + 2 ∧ j = .int .i64 ((q : Int) - 1) ∧ Below w18.heap.size w18 wz) (fun j _ => n8 + 2 - (intOf j + 1).toNat)
                      case atStart => exact ⟨0, by omega, rfl, Below.refl _ _⟩
                      case round =>
                        obtain ⟨q4, hq, rfl, hb⟩ := hrel
                        obtain ⟨w19, rfl⟩ : ∃ x : World, x = wr := ⟨_, rfl⟩
                        have y1 := row_of ((hb.block _ (Array.getElem?_eq_some_iff.1 HFX18.out).1).trans HFX18.out) 1 (.int .i64 S.regs) rfl
                        rw [HRG.out] at y1
                        have hmin := HMIN.out
                        by_cases hql : q4 ≤ n8 + 1
                        · have hq1 : (q4 : Int) - 1 ≤ (n8 : Int) := by omega
                          have HRE1 := Lib.hid (two_reg (HTW18.out.keep hb) ((q4 : Int) - 1) ⟨by omega, by omega⟩ hml)
                          have HRE2 := Lib.hid (two_refreg (HTW18.out.keep hb) ((q4 : Int) - 1) ⟨by omega, by omega⟩ hml)
                          generalize regM m ((q4 : Int) - 1) = rv at *
                          have hvv : (rv != rv) = false := by simp
                          have HBz := Lib.hid hb
                          clear hb
                          go_wp2_with (first | (go_at_call 21; refine HRE1.out.mono ?_; rintro e z ⟨rfl, rfl⟩) | (go_at_call 22; refine HRE2.out.mono ?_; rintro e z ⟨rfl, rfl⟩))
                          go_roundw
                          case rel => exact ⟨q4 + 1, by omega, by first | go_num | (congr 1; omega), HBz.out⟩
                          case measure => simp [intOf]; omega
                        have hq1 : ¬ (q4 : Int) - 1 ≤ (n8 : Int) := by omega
                        have HB19 := Lib.hid hb
                        go_wp2_with fail
                        clear hb y1 hmin hq1 hql hq
                        have hnq6' : nq ≤ 6 := hnq6
                        go_loopw [22] (fun j wz => ∃ q : Nat, q ≤ nq ∧ j = .int .i64 q ∧ Below w18.heap.size w18 wz) (fun j _ => nq - (intOf j).toNat)
                        case atStart => exact ⟨0, Nat.zero_le _, rfl, HB19.out⟩
                        case round =>
                          obtain ⟨q5, hq, rfl, hb⟩ := hrel
                          obtain ⟨w20, rfl⟩ : ∃ x : World, x = wr := ⟨_, rfl⟩
                          have HBw := Lib.hid (bcomp HB18.out hb)
                          by_cases hql : q5 < nq
                          · have hq1 : (q5 : Int) < (nq : Int) := by omega
                            obtain ⟨x0, hx0⟩ : ∃ x0, (R.take nq)[q5]? = some x0 := ⟨_, List.getElem?_eq_getElem (by have := HNQ.out; omega)⟩
                            obtain ⟨qb, qo, rfl, _, cQ, hxin⟩ := atInt HQ.out hx0
                            have e1 := ext_cell (cell_keep HBw.out cQ)
                            have HRE1 := Lib.hid (fun (z : World) => two_reg ((HTW18.out.keep hb).keep (ext_below w20 z)) x0 hxin hml)
                            have HRE2 := Lib.hid (fun (z : World) => two_refreg ((HTW18.out.keep hb).keep (ext_below w20 z)) x0 hxin hml)
                            generalize regM m x0 = rv at *
                            have hvv : (rv != rv) = false := by simp
                            have HBz := Lib.hid hb
                            clear hb hx0 cQ
                            go_upto_region 46 with fail
                            (refine wp_region_calm (by kernel_rfl) (by kernel_rfl) ?_; (repeat (go_big_quiet_step ((first | (go_at_call 21; exact calls_calm_same (HRE1.out _)) | (go_at_call 22; exact calls_calm_same (HRE2.out _)))))); refine wpQuiet_nil ?_; intro wc hwc)
                            have HBN := Lib.hid (bcomp HBz.out hwc)
                            clear e1 hwc HRE1 HRE2
                            go_wp2_with fail
                            go_roundw
                            case rel => exact ⟨q5 + 1, by omega, by go_num, HBN.out⟩
                            case measure => simp [intOf]; omega
                          have hq1 : ¬ (q5 : Int) < (nq : Int) := by omega
                          have hsz20 : W6.heap.size ≤ w20.heap.size := by have := hb.size; have := HT18.out.size; omega
                          have HS1 := Lib.hid (two_step1 (HTW18.out.keep hb) hsz20 (HLw.out.keep HBw.out) HHD.out HGK.out (by omega) HINS.out)
                          have HT20 := Lib.hid (HT18.out.trans (Turn.of_below hb))
                          have hbb : ((m.t.status == 2) != (m.t.status == 2)) = false := by simp
                          clear hb hq hql
                          go_wp2_with (first | (go_at_call 23; refine HS1.out.mono ?_; rintro e w21 ⟨rfl, ht21, hT21⟩; have HS2 := Lib.hid (two_step2 ht21 (Nat.le_trans hsz20 hT21.size) HHD.out HGK.out (by omega) hM1000); have HT21 := Lib.hid (HT20.out.trans hT21); clear ht21 hT21) | (go_at_call 24; refine HS2.out.mono ?_; rintro e w22 ⟨rfl, ht22, hT22⟩; rw [HPAD.out m, HNEXT.out] at ht22; have HTW22 := Lib.hid ht22; have HT22 := Lib.hid (HT21.out.trans hT22); clear ht22 hT22))
                          go_roundw
                          case rel => exact ⟨k + 1, by omega, by go_num, HTW22.out, HT22.out⟩
                          case measure => simp [intOf]; omega
              · obtain rfl : k = 80 := by omega
                have hk1 : ¬ ((80 : Nat) : Int) < 80 := by omega
                go_wp2_with (go_at_call 17; refine (HAW.out _ HB13.out).mono ?_; rintro e w14 ⟨rfl, hb14⟩)
                go_ret
                exact ⟨rfl, bcomp HB13.out hb14⟩
end Go.Proofs.YthmdioldnnhidaaDoor
