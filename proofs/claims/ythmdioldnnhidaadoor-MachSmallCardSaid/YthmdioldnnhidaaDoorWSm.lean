/- The walk of MachSmall. Condition: what comes in reads as the arguments; the tables hold what they are laid with. -/
import Derived.Test.YthmdioldnnhidaaDoorWMo
import Derived.Test.YthmdioldnnhidaaDoorLMb
set_option linter.unnecessarySimpa false
set_option linter.unusedVariables false
set_option linter.unusedSimpArgs false
namespace Go.Proofs.YthmdioldnnhidaaDoor
open Go.ChangeShapes Go.WideShapes Go.ChangeAt Go.RowKit
theorem kit_mask (n : Nat) (h1 : 1 ≤ n) (h2 : n ≤ 64) (w : World) : Calls Tryd.prog 30 #[.int .i64 n] w fun e w' => e = .returned (.int .u64 (2 ^ n - 1)) ∧ Below w.heap.size w w' := by
  have hm := Lib.hid (mask_is n h1 h2)
  have hn1 : ¬ (n : Int) < 1 := by omega
  by_cases h : n ≤ 63
  · have hn2 : ¬ (63 : Int) < n := by omega
    go_enter Tryd.func30, Tryd.ntmps30
    go_wp2_with fail
    go_ret
    exact ⟨by show Ending.returned (Value.int .u64 _) = _; rw [hm.out], Below.refl _ _⟩
  · obtain rfl : n = 64 := by omega
    go_enter Tryd.func30, Tryd.ntmps30
    go_wp2_with fail
    go_ret
    exact ⟨rfl, Below.refl _ _⟩
/-- Trace's contract, its slices in the open. -/
def TraceIs (t : TraceD) (w : World) (e : Ending) (w' : World) : Prop :=
  ∃ a1 a2 a3 a4 a5 a6 a7 a8, e = .returned (.agg #[.int .u8 t.status, .int .i64 t.steps, .slice a1 t.outs.length a2, .slice a3 t.rels.length a4, .slice a5 t.brs.length a6, .slice a7 t.reads.length a8]) ∧ RdTrace (some (upFrom w.heap.size)) w' t (.slice a1 t.outs.length a2) (.slice a3 t.rels.length a4) (.slice a5 t.brs.length a6) (.slice a7 t.reads.length a8) ∧ Below w.heap.size w w'
/-- A run whose blocks are those of G, all from n0 on. -/
def OnIn (n0 : Nat) (G : Nat → Prop) (w : World) (bm : Nat) (f : FlatD) (ins : List (List Int)) (m : MachD) : Prop := MachIn G w bm f ins m ∧ ∀ b, G b → n0 ≤ b ∧ b < w.heap.size
theorem OnIn.keep {n0 : Nat} {G : Nat → Prop} {w w' : World} {bm : Nat} {f : FlatD} {ins : List (List Int)} {m : MachD} (h : OnIn n0 G w bm f ins m) (k : Below w.heap.size w w') : OnIn n0 G w' bm f ins m := by
  obtain ⟨⟨I, c8, c9, c10, kv, iv, av, ov, rv, bv, gb, db, bs, h⟩, hG⟩ := h
  exact ⟨⟨I, c8, c9, c10, kv, iv, av, ov, rv, bv, gb, db, bs, h.keep k⟩, fun b hb => ⟨(hG b hb).1, Nat.lt_of_lt_of_le (hG b hb).2 k.size⟩⟩
theorem stepOn {a w : World} {G : Nat → Prop} {bm : Nat} {f : FlatD} {ins : List (List Int)} {m : MachD} (h : OnIn a.heap.size G w bm f ins m) (hb : Below a.heap.size a w) (hL : Laid a) (hh : HeadP f) {k : Nat} (g : Going f m k) (hk : k < 1000000) (hins : ins.length = f.chans.length) :
    Calls Tryd.prog 23 #[.pointer (some ⟨bm, 0, none⟩)] w fun e w' => e = .returned (.bool (m.t.status == 2)) ∧ OnIn a.heap.size (Grow G w w') w' bm f ins (stepM f ins m) ∧ Turn G w w' := by
  obtain ⟨⟨I, c8, c9, c10, kv, iv, av, ov, rv, bv, gb, db, bs, h⟩, hG⟩ := h
  refine (machStep h (hL.keep hb) hh g.good hins (by have := g.steps; omega) g.pc0 g.pc1).mono fun e w' ⟨he, hp⟩ => ⟨he, ⟨hp.1, fun b hb' => ?_⟩, hp.2⟩
  rcases hb' with h1 | h1
  · exact ⟨(hG b h1).1, Nat.lt_of_lt_of_le (hG b h1).2 hp.2.size⟩
  · exact ⟨Nat.le_trans hb.size h1.1, h1.2⟩
theorem traceOn {n0 : Nat} {G : Nat → Prop} {w : World} {bm : Nat} {f : FlatD} {ins : List (List Int)} {m : MachD} (h : OnIn n0 G w bm f ins m) (hh : HeadP f) {k : Nat} (g : Going f m k) (hk : k ≤ 1000000) :
    Calls Tryd.prog 18 #[.pointer (some ⟨bm, 0, none⟩)] w (TraceIs m.t w) := by
  obtain ⟨⟨I, c8, c9, c10, kv, iv, av, ov, rv, bv, gb, db, bs, h⟩, hG⟩ := h
  refine (machTrace h hh g.good (by have := g.steps; omega)).mono ?_
  rintro e w' ⟨v1, v2, v3, v4, rfl, hr, hb⟩
  obtain ⟨a1, a2, rfl⟩ := hr.1.is; obtain ⟨a3, a4, rfl⟩ := hr.2.1.is; obtain ⟨a5, a6, rfl⟩ := hr.2.2.1.is; obtain ⟨a7, a8, rfl⟩ := hr.2.2.2.1.is
  exact ⟨a1, a2, a3, a4, a5, a6, a7, a8, rfl, hr, hb⟩
theorem regOn {n0 : Nat} {G : Nat → Prop} {w : World} {bm : Nat} {f : FlatD} {ins : List (List Int)} {m : MachD} (h : OnIn n0 G w bm f ins m) (i : Int) (hi : InI64 i) (hl : m.regs.length ≤ 2097152) :
    Calls Tryd.prog 21 #[.pointer (some ⟨bm, 0, none⟩), .int .i64 i] w fun e w' => e = .returned (.int .u64 (regM m i)) ∧ w = w' := by
  obtain ⟨⟨I, c8, c9, c10, kv, iv, av, ov, rv, bv, gb, db, bs, h⟩, hG⟩ := h
  exact machReg h i hi hl
theorem atOn {n0 : Nat} {G : Nat → Prop} {w : World} {bm : Nat} {f : FlatD} {ins : List (List Int)} {m : MachD} (h : OnIn n0 G w bm f ins m) :
    Calls Tryd.prog 20 #[.pointer (some ⟨bm, 0, none⟩)] w fun e w' => e = .returned (.int .i64 m.pc) ∧ w = w' := by
  obtain ⟨⟨I, c8, c9, c10, kv, iv, av, ov, rv, bv, gb, db, bs, h⟩, hG⟩ := h
  exact machAtOf h
/-- What MachSmall asks of a run, and of it after one step. -/
structure SmallPlain (S : FlatD) (m m' : MachD) (mo : Int) : Prop where
  pc0 : 0 ≤ m.pc
  pc1 : m.pc < S.code.length
  reads : m.t.reads.length = S.chans.length
  regs : ∀ i, regM m i ≤ mo
  outs : ∀ e ∈ m.t.outs, e.val ≤ mo ∧ 0 ≤ e.n ∧ e.n < S.chans.length
  rels : ∀ e ∈ m.t.rels, e.val ≤ mo ∧ 0 ≤ e.n ∧ e.n < S.sites.length
  st0 : 0 ≤ m.t.steps
  st1 : m.t.steps ≤ 100
  step : (m.t.status = 2 ∧ m'.t.steps = m.t.steps + 1) ∨ (m.t.status ≠ 2 ∧ m' = m)
  starts : startsT m.t m'.t = true
  rl : m.regs.length ≤ 2097152
  ol : m.t.outs.length ≤ 100
  ll : m.t.rels.length ≤ 100
theorem small_plain {S : FlatD} {ins : List (List Int)} {mo : Int} (hh : HeadP S) (hci : ∀ c ∈ S.code, CodeIn c) (hw : ∀ x, Wd S x → x ≤ mo) (k : Nat) (hk : k < 100) : SmallPlain S (iterM S ins k (newM S)) (iterM S ins (k + 1) (newM S)) mo := by
  have g := going_run (ins := ins) hh hci k
  have s := small_run (ins := ins) hh hci k
  refine ⟨g.pc0, g.pc1, g.good.reads, fun i => hw _ (reg_small s i), fun e he => ⟨hw _ (s.os e he).1, (s.os e he).2⟩, fun e he => ⟨hw _ (s.rs e he).1, (s.rs e he).2⟩, g.good.steps, by have := g.steps; omega, ?_, starts_of (begins_runs _ _ _ (by omega)), by have := g.good.regs; have := hh.r1; omega, by have := g.good.outs; have := g.steps; omega, by have := g.good.rels; have := g.steps; omega⟩
  rw [iterM_succ]
  by_cases hs : (iterM S ins k (newM S)).t.status = 2
  · exact .inl ⟨hs, step_fuel hs g.pc0 g.pc1⟩
  · exact .inr ⟨hs, step_end hs⟩
set_option maxRecDepth 100000 in
set_option maxHeartbeats 6400000 in
theorem small_walk (f : FlatD) (cv sv av kv iv : Value) (L : List (List Int)) (w : World) (hF : RdFlat none w f cv sv av kv) (hI : RdLists none w iv L) (hL : Laid w) :
    Calls Tryd.prog 8 #[flatV f cv sv av kv, iv] w fun e w' => e = .returned (.bool true) ∧ Below w.heap.size w w' := by
  obtain ⟨ca, cc, rfl⟩ := hF.1.is
  obtain ⟨sa, sc, rfl⟩ := hF.2.1.is
  obtain ⟨aa, ac, rfl⟩ := hF.2.2.1.is
  obtain ⟨ka, kc, rfl⟩ := hF.2.2.2.1.is
  obtain ⟨ia, ic, rfl⟩ := hI.is
  have hal := (Below.refl w.heap.size w).alloc (Nat.le_refl _) (.cells #[.int .i64 f.width, .int .i64 f.regs, .slice ca f.chans.length cc, .slice sa f.sites.length sc, .slice aa f.arrays.length ac, .slice ka f.code.length kc] 26)
  have hg := Lib.hid (heap_alloc_new w (.cells #[.int .i64 f.width, .int .i64 f.regs, .slice ca f.chans.length cc, .slice sa f.sites.length sc, .slice aa f.arrays.length ac, .slice ka f.code.length kc] 26))
  have HF := Lib.hid (hF.keep hal)
  have HI := Lib.hid (hI.keep hal)
  have HL := Lib.hid (hL.keep hal)
  have HLw := Lib.hid hL
  have HB := Lib.hid hal
  clear hF hI hL hal
  go_enter Tryd.func8, Tryd.ntmps8
  go_upto_region 1 with fail
  generalize w.alloc (.cells #[.int .i64 f.width, .int .i64 f.regs, .slice ca f.chans.length cc, .slice sa f.sites.length sc, .slice aa f.arrays.length ac, .slice ka f.code.length kc] 26) = W at *
  have hsW : w.heap.size < W.heap.size := (Array.getElem?_eq_some_iff.1 hg.out).1
  have y0 := row_of hg.out 0 (.int .i64 f.width) rfl
  have y1 := row_of hg.out 1 (.int .i64 f.regs) rfl
  have y2 := row_of hg.out 2 (.slice ca f.chans.length cc) rfl
  have y3 := row_of hg.out 3 (.slice sa f.sites.length sc) rfl
  have y4 := row_of hg.out 4 (.slice aa f.arrays.length ac) rfl
  have y5 := row_of hg.out 5 (.slice ka f.code.length kc) rfl
  have HS := Lib.hid ((short25 f _ _ _ _ W HF.out).mono fun _ _ h => flatIs h)
  have HW := Lib.hid (fun w' (hb : Below W.heap.size W w') => few26 _ L w' (HI.out.keep hb))
  have hM : (fewI L).length ≤ 34 := by simp [fewI]; omega
  generalize shortF f = S at *
  generalize fewI L = M at *
  go_upto_region 2 with (first | (go_at_call 9; refine HS.out.mono ?_; rintro e w1 ⟨caS, ccS, saS, scS, aaS, acS, kaS, kcS, rfl, hr1, hb1⟩; have HR1 := Lib.hid hr1; have HB1 := Lib.hid hb1; clear hr1 hb1 y0 y1 y2 y3 y4 y5) | (go_at_call 10; refine (HW.out _ HB1.out).mono ?_; rintro e w2 ⟨v, rfl, hr2, hb2⟩; obtain ⟨ma, mc, rfl⟩ := hr2.is; have HR2 := Lib.hid hr2; have HB2 := Lib.hid (bcomp HB1.out hb2); have HS2 := Lib.hid (HR1.out.keep hb2); have hg2 := Lib.hid ((HB2.out.block _ hsW).trans hg.out); clear hr2 hb2) | (refine wpList_store_row rfl 26 (.tmp 2) (.tmp 16) rfl w.heap.size #[.int .i64 S.width, .int .i64 S.regs, .slice caS S.chans.length ccS, .slice saS S.sites.length scS, .slice aaS S.arrays.length acS, .slice kaS S.code.length kcS] rfl rfl 26 #[.int .i64 f.width, .int .i64 f.regs, .slice ca f.chans.length cc, .slice sa f.sites.length sc, .slice aa f.arrays.length ac, .slice ka f.code.length kc] ?hs1 (by as_aux_lemma => kernel_rfl) (by as_aux_lemma => kernel_rfl) (by as_aux_lemma => kernel_rfl) ?_; exact hg2.out))
  try simp only [Act.put]
  have hs1 : w.heap.size < w1.heap.size := by have := HB1.out.size; omega
  have HR3 := Lib.hid (HS2.out.setRow (m := 0) hsW (Nat.zero_le _) #[.int .i64 S.width, .int .i64 S.regs, .slice caS S.chans.length ccS, .slice saS S.sites.length scS, .slice aaS S.arrays.length acS, .slice kaS S.code.length kcS]).forget
  have HI3 := Lib.hid (HR2.out.setRow (m := 0) hs1 (Nat.zero_le _) #[.int .i64 S.width, .int .i64 S.regs, .slice caS S.chans.length ccS, .slice saS S.sites.length scS, .slice aaS S.arrays.length acS, .slice kaS S.code.length kcS]).forget
  have HB3 : Hid (Below w.heap.size w (w2.setRow w.heap.size #[.int .i64 S.width, .int .i64 S.regs, .slice caS S.chans.length ccS, .slice saS S.sites.length scS, .slice aaS S.arrays.length acS, .slice kaS S.code.length kcS])) := below_row (bcomp HB.out HB2.out) (Nat.le_refl _) _
  have hg3 : Hid ((w2.setRow w.heap.size #[.int .i64 S.width, .int .i64 S.regs, .slice caS S.chans.length ccS, .slice saS S.sites.length scS, .slice aaS S.arrays.length acS, .slice kaS S.code.length kcS]).heap[w.heap.size]? = some (.cells #[.int .i64 S.width, .int .i64 S.regs, .slice caS S.chans.length ccS, .slice saS S.sites.length scS, .slice aaS S.arrays.length acS, .slice kaS S.code.length kcS] 26 (0, 0))) := setRow_heap _ _ _ _ _ _ hg2.out
  have HL0 : Hid (Laid (w2.setRow w.heap.size #[.int .i64 S.width, .int .i64 S.regs, .slice caS S.chans.length ccS, .slice saS S.sites.length scS, .slice aaS S.arrays.length acS, .slice kaS S.code.length kcS])) := HLw.out.keep HB3.out
  clear HB1 HB2 HR1 HR2 HS2 hg2 HS HW HF HI HL hg HB hs1 hsW
  generalize (w2.setRow w.heap.size #[.int .i64 S.width, .int .i64 S.regs, .slice caS S.chans.length ccS, .slice saS S.sites.length scS, .slice aaS S.arrays.length acS, .slice kaS S.code.length kcS]) = W3 at *
  have HAW := Lib.hid (fun (w' : World) (hb : Below W3.heap.size W3 w') => awake_any w' (HL0.out.keep hb))
  have y0 := row_of hg3.out 0 (.int .i64 S.width) rfl
  have y1 := row_of hg3.out 1 (.int .i64 S.regs) rfl
  have y2 := row_of hg3.out 2 (.slice caS S.chans.length ccS) rfl
  have y3 := row_of hg3.out 3 (.slice saS S.sites.length scS) rfl
  have y4 := row_of hg3.out 4 (.slice aaS S.arrays.length acS) rfl
  have y5 := row_of hg3.out 5 (.slice kaS S.code.length kcS) rfl
  by_cases hb : flatOk S = false ∨ S.chans.length < M.length
  · have HC := Lib.hid (machNewBad S _ _ _ _ ma M.length mc W3 HR3.out HL0.out (by omega) hb)
    obtain ⟨er, her⟩ : ∃ er : Int, (if flatOk S then (5 : Int) else 2) = er := ⟨_, rfl⟩
    rw [her] at HC
    have hne : (er != 0) = true := by rw [← her]; split <;> rfl
    clear her hb
    go_wp2_with (first | (go_at_call 13; refine HC.out.mono ?_; rintro e z ⟨rfl, hz⟩; have hzz : Below W3.heap.size W3 z := hz; clear hz y0 y1 y2 y3 y4 y5) | (go_at_call 17; refine (HAW.out _ (by first | assumption | exact Below.refl _ _)).mono ?_; rintro e z ⟨rfl, hz⟩; have hzz : Below W3.heap.size W3 z := bcomp (by first | assumption | exact Below.refl _ _) hz; clear hz))
    go_ret
    exact ⟨rfl, bcomp HB3.out (by first | assumption | exact Below.refl _ _)⟩
  · have hok : flatOk S = true := by
      cases h : flatOk S
      · exact absurd (.inl h) hb
      · rfl
    have hle : M.length ≤ S.chans.length := by omega
    have hh := headP hok
    have hci : ∀ c ∈ S.code, CodeIn c := HR3.out.2.2.2.1.ok
    obtain ⟨wd, hwd⟩ : ∃ n : Nat, S.width = n := ⟨S.width.toNat, by have := hh.w1; omega⟩
    obtain ⟨rg, hrg⟩ : ∃ n : Nat, S.regs = n := ⟨S.regs.toNat, by have := hh.r0; omega⟩
    have hwd1 : 1 ≤ wd := by have := hh.w1; omega
    have hwd2 : wd ≤ 64 := by have := hh.w2; omega
    have hins : (insM S M).length = S.chans.length := by simp only [insM, List.length_append, List.length_replicate]; omega
    have HC := Lib.hid (machNew S _ _ _ _ _ M W3 HR3.out HI3.out HL0.out hok hle)
    have HGO := Lib.hid (fun (k : Nat) => going_run (ins := insM S M) hh hci k)
    have HSM := Lib.hid (fun (k : Nat) => small_run (ins := insM S M) hh hci k)
    have HH := Lib.hid hh
    have HIN := Lib.hid hins
    have HCI := Lib.hid hci
    have HMK := Lib.hid (fun w' => kit_mask wd hwd1 hwd2 w')
    obtain ⟨n20, hn20⟩ : ∃ n : Nat, min rg 20 = n := ⟨_, rfl⟩
    have hn20' : n20 ≤ 20 := by omega
    have hmin := min_run rg n20 20 (by omega)
    rw [← hrg] at hmin
    have hmin := Lib.hid hmin
    obtain ⟨mo, hmo⟩ : ∃ mo : Int, (2 : Int) ^ wd - 1 = mo := ⟨_, rfl⟩
    have HWD : Hid (∀ x, Wd S x → x ≤ mo) := fun x hx => by have := hx.2; rw [hwd, Int.toNat_natCast] at this; omega
    rw [hmo, ← hwd] at HMK
    clear hok hh hci hins hb hmo hwd hrg hn20
    go_upto_region 5 with (go_at_call 13; refine (HC.out).mono ?_; rintro e z ⟨bm, rfl, hm7, hz⟩; have HM7 := Lib.hid hm7; have HZ := Lib.hid hz; clear hm7 hz)
    clear y0 y1 y2 y3 y4 y5 HC
    have HM4 : Hid (OnIn W3.heap.size (fun b => W3.heap.size ≤ b ∧ b < z.heap.size) z bm S (insM S M) (iterM S (insM S M) 0 (newM S))) := ⟨HM7.out, fun b hb => hb⟩
    have hgz := Lib.hid ((HZ.out.block _ (Array.getElem?_eq_some_iff.1 hg3.out).1).trans hg3.out)
    clear HM7
    generalize z = W4 at *
    have y0 := row_of hgz.out 0 (.int .i64 S.width) rfl
    go_wp2_with (go_at_call 30; refine (HMK.out _).mono ?_; rintro e z ⟨rfl, hz⟩; have HZ2 := Lib.hid hz; clear hz y0)
    have HM5 := Lib.hid (HM4.out.keep HZ2.out)
    have HB5 := Lib.hid (bcomp HZ.out HZ2.out)
    clear HM4 HZ HZ2 hgz HMK
    generalize z = W5 at *
    go_loopw [8] (fun i wr => ∃ (k : Nat) (G : Nat → Prop), k ≤ 100 ∧ i = .int .i64 k ∧ OnIn W3.heap.size G wr bm S (insM S M) (iterM S (insM S M) k (newM S)) ∧ Below W3.heap.size W3 wr) (fun i _ => 100 - (intOf i).toNat)
    case atStart => exact ⟨0, _, by omega, rfl, HM5.out, HB5.out⟩
    case round =>
      obtain ⟨k, G, hk, rfl, hmr, hbr⟩ := hrel
      obtain ⟨wo, rfl⟩ : ∃ x : World, x = wr := ⟨_, rfl⟩
      by_cases hlt : k < 100
      rotate_left
      · obtain rfl : k = 100 := by omega
        have HBR := Lib.hid hbr
        clear hmr
        go_wp2_with (go_at_call 17; refine (HAW.out _ HBR.out).mono ?_; rintro e z ⟨rfl, hz⟩; have hzz : Below W3.heap.size W3 z := bcomp HBR.out hz; clear hz)
        go_ret
        exact ⟨rfl, bcomp HB3.out (by first | assumption | exact Below.refl _ _)⟩
      have hk1 : (k : Int) < 100 := by omega
      have HP := Lib.hid (small_plain (ins := insM S M) HH.out HCI.out HWD.out k hlt)
      have hgo := HGO.out k
      have hgo2 := HGO.out (k + 1)
      have HST := Lib.hid (fun (w' : World) (h : OnIn W3.heap.size G w' bm S (insM S M) (iterM S (insM S M) k (newM S))) (hb : Below W3.heap.size W3 w') => stepOn h hb HL0.out HH.out hgo (by omega) HIN.out)
      have HTR := Lib.hid (fun (w' : World) (h : OnIn W3.heap.size G w' bm S (insM S M) (iterM S (insM S M) k (newM S))) => traceOn h HH.out hgo (by omega))
      have HTR2 := Lib.hid (fun (G' : Nat → Prop) (w' : World) (h : OnIn W3.heap.size G' w' bm S (insM S M) (iterM S (insM S M) (k + 1) (newM S))) => traceOn h HH.out hgo2 (by omega))
      rw [← iterM_succ] at HST
      clear hgo hgo2
      have HM := Lib.hid hmr
      have HBR := Lib.hid hbr
      clear hmr hbr
      have HREL : Hid (∀ (G' : Nat → Prop) (w' : World), OnIn W3.heap.size G' w' bm S (insM S M) (iterM S (insM S M) (k + 1) (newM S)) → OnIn W3.heap.size G' w' bm S (insM S M) (iterM S (insM S M) (k + 1) (newM S))) := fun _ _ h => h
      generalize hmm : iterM S (insM S M) k (newM S) = m at *
      generalize hmm2 : iterM S (insM S M) (k + 1) (newM S) = m' at *
      have HMM2 := Lib.hid hmm2
      clear hmm hmm2 HREL
      go_upto_region 10 with (first | (go_at_call 18; refine (HTR.out _ HM.out).mono ?_; rintro e z1 ⟨a1, a2, a3, a4, a5, a6, a7, a8, rfl, hrz, hz⟩; have HRZ := Lib.hid hrz; have HZ := Lib.hid hz; have HN := Lib.hid (heap_alloc_new z1 (.cells #[.int .u8 0, .int .i64 0, .slice none 0 0, .slice none 0 0, .slice none 0 0, .slice none 0 0] 49)); clear hrz hz) | (refine wpList_store_row rfl 49 (.tmp 9) (.tmp 40) rfl z1.heap.size #[.int .u8 m.t.status, .int .i64 m.t.steps, .slice a1 m.t.outs.length a2, .slice a3 m.t.rels.length a4, .slice a5 m.t.brs.length a6, .slice a7 m.t.reads.length a8] rfl rfl 49 #[.int .u8 0, .int .i64 0, .slice none 0 0, .slice none 0 0, .slice none 0 0, .slice none 0 0] ?hq1 (by as_aux_lemma => kernel_rfl) (by as_aux_lemma => kernel_rfl) (by as_aux_lemma => kernel_rfl) ?_; exact HN.out))
      try simp only [Act.put]
      have hbn : Below z1.heap.size z1 ((z1.alloc (.cells #[.int .u8 0, .int .i64 0, .slice none 0 0, .slice none 0 0, .slice none 0 0, .slice none 0 0] 49)).setRow z1.heap.size #[.int .u8 m.t.status, .int .i64 m.t.steps, .slice a1 m.t.outs.length a2, .slice a3 m.t.rels.length a4, .slice a5 m.t.brs.length a6, .slice a7 m.t.reads.length a8]) := below_row ((Below.refl z1.heap.size z1).alloc (Nat.le_refl _) _) (Nat.le_refl _) _
      have HGX : Hid (((z1.alloc (.cells #[.int .u8 0, .int .i64 0, .slice none 0 0, .slice none 0 0, .slice none 0 0, .slice none 0 0] 49)).setRow z1.heap.size #[.int .u8 m.t.status, .int .i64 m.t.steps, .slice a1 m.t.outs.length a2, .slice a3 m.t.rels.length a4, .slice a5 m.t.brs.length a6, .slice a7 m.t.reads.length a8]).heap[z1.heap.size]? = some (.cells #[.int .u8 m.t.status, .int .i64 m.t.steps, .slice a1 m.t.outs.length a2, .slice a3 m.t.rels.length a4, .slice a5 m.t.brs.length a6, .slice a7 m.t.reads.length a8] 49 (0, 0))) := setRow_heap _ _ _ _ _ _ HN.out
      have HTX := Lib.hid (HRZ.out.keep hbn)
      have HB10 := Lib.hid (bcomp HZ.out hbn)
      have hzo := HZ.out.size
      clear hbn HN HRZ HZ
      generalize ((z1.alloc (.cells #[.int .u8 0, .int .i64 0, .slice none 0 0, .slice none 0 0, .slice none 0 0, .slice none 0 0] 49)).setRow z1.heap.size #[.int .u8 m.t.status, .int .i64 m.t.steps, .slice a1 m.t.outs.length a2, .slice a3 m.t.rels.length a4, .slice a5 m.t.brs.length a6, .slice a7 m.t.reads.length a8]) = W10 at *
      have HM10 := Lib.hid (HM.out.keep HB10.out)
      have HB3x := Lib.hid (bcomp HBR.out HB10.out)
      have hgx := Lib.hid ((HB3x.out.block _ (Array.getElem?_eq_some_iff.1 hg3.out).1).trans hg3.out)
      have HATc := Lib.hid (fun (z : World) => atOn (HM10.out.keep (ext_below W10 z)))
      have l2 := ext_cell (row_of hgx.out 2 (.slice caS S.chans.length ccS) rfl)
      have l5 := ext_cell (row_of hgx.out 5 (.slice kaS S.code.length kcS) rfl)
      have x5 := ext_cell (row_of HGX.out 5 (.slice a7 m.t.reads.length a8) rfl)
      have d1 : decide (m.pc < 0) = false := by have := HP.out.pc0; simp; omega
      have d2 : decide ((S.code.length : Int) ≤ m.pc) = false := by have := HP.out.pc1; simp; omega
      have d3 : ((m.t.reads.length : Int) != (S.chans.length : Int)) = false := by rw [HP.out.reads]; simp
      have d1' : ¬ m.pc < 0 := by have := HP.out.pc0; omega
      have d2' : ¬ (S.code.length : Int) ≤ m.pc := by have := HP.out.pc1; omega
      (refine wp_region_calm (by kernel_rfl) (by kernel_rfl) ?_; (repeat (go_big_quiet_step ((go_at_call 20; exact calls_calm_same (HATc.out _))))); refine wpQuiet_nil ?_; intro wc hwc)
      have HB11 := Lib.hid hwc
      clear l2 l5 x5 d1 d2 d3 d1' d2' HATc hwc
      generalize wc = W11 at *
      have HM11 := Lib.hid (HM10.out.keep HB11.out)
      have HBB := Lib.hid (bcomp HB3x.out HB11.out)
      have HBo := Lib.hid (bcomp HB10.out HB11.out)
      have hg11 := Lib.hid ((HB11.out.block _ (Array.getElem?_eq_some_iff.1 hgx.out).1).trans hgx.out)
      have HGX11 := Lib.hid ((HB11.out.block _ (Array.getElem?_eq_some_iff.1 HGX.out).1).trans HGX.out)
      have HTX11 := Lib.hid (HTX.out.keep HB11.out)
      clear HM10 HB3x hgx HGX HTX HB10 HB11
      have HK : Hid (∀ w' : World, Below W11.heap.size W11 w' → w'.cell? ⟨w.heap.size, 0, none⟩ = some (.int .i64 S.width) ∧ w'.cell? ⟨w.heap.size, 1, none⟩ = some (.int .i64 S.regs) ∧ w'.cell? ⟨w.heap.size, 2, none⟩ = some (.slice caS S.chans.length ccS) ∧ w'.cell? ⟨w.heap.size, 3, none⟩ = some (.slice saS S.sites.length scS) ∧ w'.cell? ⟨w.heap.size, 4, none⟩ = some (.slice aaS S.arrays.length acS) ∧ w'.cell? ⟨w.heap.size, 5, none⟩ = some (.slice kaS S.code.length kcS) ∧ w'.cell? ⟨z1.heap.size, 0, none⟩ = some (.int .u8 m.t.status) ∧ w'.cell? ⟨z1.heap.size, 1, none⟩ = some (.int .i64 m.t.steps) ∧ w'.cell? ⟨z1.heap.size, 2, none⟩ = some (.slice a1 m.t.outs.length a2) ∧ w'.cell? ⟨z1.heap.size, 3, none⟩ = some (.slice a3 m.t.rels.length a4) ∧ w'.cell? ⟨z1.heap.size, 4, none⟩ = some (.slice a5 m.t.brs.length a6) ∧ w'.cell? ⟨z1.heap.size, 5, none⟩ = some (.slice a7 m.t.reads.length a8)) := fun w' hb => by
        have h1 := (hb.block _ (Array.getElem?_eq_some_iff.1 hg11.out).1).trans hg11.out
        have h2 := (hb.block _ (Array.getElem?_eq_some_iff.1 HGX11.out).1).trans HGX11.out
        exact ⟨row_of h1 0 _ rfl, row_of h1 1 _ rfl, row_of h1 2 _ rfl, row_of h1 3 _ rfl, row_of h1 4 _ rfl, row_of h1 5 _ rfl, row_of h2 0 _ rfl, row_of h2 1 _ rfl, row_of h2 2 _ rfl, row_of h2 3 _ rfl, row_of h2 4 _ rfl, row_of h2 5 _ rfl⟩
      have hmin := hmin.out
      have HREG := Lib.hid (fun (w' : World) (hb : Below W11.heap.size W11 w') (j : Int) (hj : InI64 j) => regOn (HM11.out.keep hb) j hj HP.out.rl)
      go_wp2_with fail
      go_loopw [10] (fun j wr => (∃ q : Nat, q ≤ 20 ∧ j = .int .i64 q) ∧ Below W11.heap.size W11 wr) (fun j _ => 20 - (intOf j).toNat)
      case atStart => exact ⟨⟨0, by omega, rfl⟩, Below.refl _ _⟩
      case round =>
        obtain ⟨⟨q, hq, rfl⟩, hb2⟩ := hrel
        obtain ⟨w2, rfl⟩ : ∃ x : World, x = wr := ⟨_, rfl⟩
        obtain ⟨f0, f1, f2, f3, f4, f5, x0, x1, x2, x3, x4, x5⟩ := HK.out _ hb2
        by_cases hql : q < n20
        · have hq1 : (q : Int) < (n20 : Int) := by omega
          have HRG := Lib.hid (HREG.out w2 hb2 q ⟨by omega, by omega⟩)
          have d4 : ¬ mo < regM m q := by have := HP.out.regs q; omega
          generalize regM m (q : Int) = rv at *
          go_wp2_with (go_at_call 21; refine HRG.out.mono ?_; rintro e z ⟨rfl, rfl⟩)
          go_roundw
          case rel => exact ⟨⟨q + 1, by omega, by go_num⟩, hb2⟩
          case measure => simp [intOf]; omega
        have hq1 : ¬ (q : Int) < (n20 : Int) := by omega
        go_wp2_with fail
        clear f0 f1 f2 f3 f4 f5 x0 x1 x2 x3 x4 x5
        clear hq1 hql
        go_loopw [11] (fun j wr => (∃ q : Nat, q ≤ m.t.outs.length ∧ j = .int .i64 q) ∧ Below W11.heap.size W11 wr) (fun j _ => m.t.outs.length - (intOf j).toNat)
        case atStart => exact ⟨⟨0, Nat.zero_le _, rfl⟩, hb2⟩
        case round =>
          have hbd := HP.out.ol
          obtain ⟨⟨q3, hq3, rfl⟩, hb3⟩ := hrel
          obtain ⟨w3, rfl⟩ : ∃ x : World, x = wr := ⟨_, rfl⟩
          obtain ⟨f0, f1, f2, f3, f4, f5, x0, x1, x2, x3, x4, x5⟩ := HK.out _ hb3
          by_cases hql : q3 < m.t.outs.length
          · have hq1 : (q3 : Int) < (m.t.outs.length : Int) := by omega
            obtain ⟨ev, hev⟩ : ∃ ev, m.t.outs[q3]? = some ev := ⟨_, List.getElem?_eq_getElem hql⟩
            obtain ⟨eb, eo, rfl, _, e0, e1, _⟩ := atEv (HTX11.out.1.keep hb3) hev
            have hp := HP.out.outs ev (List.mem_of_getElem? hev)
            have d1 : decide (mo < ev.val) = false := by simp; omega
            have d2 : decide (ev.n < 0) = false := by simp; omega
            have d3 : decide ((S.chans.length : Int) ≤ ev.n) = false := by simp; omega
            have d1' : ¬ mo < ev.val := by omega
            have d2' : ¬ ev.n < 0 := by omega
            have d3' : ¬ (S.chans.length : Int) ≤ ev.n := by omega
            clear hev hp
            go_upto_region 20 with fail
            have l0 := ext_cell e0
            have l1 := ext_cell e1
            have l2 := ext_cell f2
            have l3 := ext_cell x2
            clear e0 e1 f0 f1 f2 f3 f4 f5 x0 x1 x2 x3 x4 x5
            (refine wp_region_calm (by kernel_rfl) (by kernel_rfl) ?_; (repeat (go_big_quiet_step (fail))); refine wpQuiet_nil ?_; intro wc hwc)
            clear l0 l1 l2 l3
            go_wp2_with fail
            go_roundw
            case rel => exact ⟨⟨q3 + 1, by omega, by go_num⟩, bcomp hb3 hwc⟩
            case measure => simp [intOf]; omega
          have hq1 : ¬ (q3 : Int) < (m.t.outs.length : Int) := by omega
          go_wp2_with fail
          clear f0 f1 f2 f3 f4 f5 x0 x1 x2 x3 x4 x5
          clear hq1 hql
          go_loopw [12] (fun j wr => (∃ q : Nat, q ≤ m.t.rels.length ∧ j = .int .i64 q) ∧ Below W11.heap.size W11 wr) (fun j _ => m.t.rels.length - (intOf j).toNat)
          case atStart => exact ⟨⟨0, Nat.zero_le _, rfl⟩, hb3⟩
          case round =>
            have hbd := HP.out.ll
            obtain ⟨⟨q4, hq4, rfl⟩, hb4⟩ := hrel
            obtain ⟨w4, rfl⟩ : ∃ x : World, x = wr := ⟨_, rfl⟩
            obtain ⟨f0, f1, f2, f3, f4, f5, x0, x1, x2, x3, x4, x5⟩ := HK.out _ hb4
            by_cases hql : q4 < m.t.rels.length
            · have hq1 : (q4 : Int) < (m.t.rels.length : Int) := by omega
              obtain ⟨ev, hev⟩ : ∃ ev, m.t.rels[q4]? = some ev := ⟨_, List.getElem?_eq_getElem hql⟩
              obtain ⟨eb, eo, rfl, _, e0, e1, _⟩ := atEv (HTX11.out.2.1.keep hb4) hev
              have hp := HP.out.rels ev (List.mem_of_getElem? hev)
              have d1 : decide (mo < ev.val) = false := by simp; omega
              have d2 : decide (ev.n < 0) = false := by simp; omega
              have d3 : decide ((S.sites.length : Int) ≤ ev.n) = false := by simp; omega
              have d1' : ¬ mo < ev.val := by omega
              have d2' : ¬ ev.n < 0 := by omega
              have d3' : ¬ (S.sites.length : Int) ≤ ev.n := by omega
              clear hev hp
              go_upto_region 25 with fail
              have l0 := ext_cell e0
              have l1 := ext_cell e1
              have l2 := ext_cell f3
              have l3 := ext_cell x3
              clear e0 e1 f0 f1 f2 f3 f4 f5 x0 x1 x2 x3 x4 x5
              (refine wp_region_calm (by kernel_rfl) (by kernel_rfl) ?_; (repeat (go_big_quiet_step (fail))); refine wpQuiet_nil ?_; intro wc hwc)
              clear l0 l1 l2 l3
              go_wp2_with fail
              go_roundw
              case rel => exact ⟨⟨q4 + 1, by omega, by go_num⟩, bcomp hb4 hwc⟩
              case measure => simp [intOf]; omega
            have hq1 : ¬ (q4 : Int) < (m.t.rels.length : Int) := by omega
            go_upto_region 27 with fail
            have HS := Lib.hid (HST.out w4 (HM11.out.keep hb4) (bcomp HBB.out hb4))
            have hx4 := Lib.hid ((hb4.block _ (Array.getElem?_eq_some_iff.1 HGX11.out).1).trans HGX11.out)
            have HTX4 := Lib.hid (HTX11.out.keep hb4)
            have HBB4 := Lib.hid (bcomp HBB.out hb4)
            have hwo := (bcomp HBo.out hb4).size
            clear f0 f1 f2 f3 f4 f5 x0 x1 x2 x3 x4 x5
            clear hb2 hb3 hb4 hq1 hql HST HK HREG HM11 HGX11 HTX11 HBB HBo
            rcases HP.out.step with ⟨hs, hst⟩ | ⟨hs, hst⟩
            · skip
              rw [hs] at HS
              have s1 : ((2 : Int) == 2) = true := rfl
              have s2 : (m.t.status == 2) = true := by simp [hs]
              have s3 : (m'.t.steps != m.t.steps + 1) = false := by simp [hst]
              have s4 := HP.out.st0
              have s5 := HP.out.st1
              clear hs hst
              go_upto_region 28 with (go_at_call 23; refine HS.out.mono ?_; rintro e z5 ⟨rfl, hm5, ht5⟩)
              have HM5 := Lib.hid hm5
              have hx5 : Hid (z5.heap[z1.heap.size]? = _) := (ht5.block _ (Array.getElem?_eq_some_iff.1 hx4.out).1 (fun hg => by have := (HM.out.2 _ hg).2; omega)).trans hx4.out
              have HTX5 := Lib.hid (HTX4.out.same (w' := z5) (g' := upFrom 0) (fun b hb hlt => ht5.block b hlt (fun hg => by have := (HM.out.2 _ hg).2; have : wo.heap.size ≤ b := hb; omega)) (fun _ _ _ => Nat.zero_le _)).forget
              have HBB5 := Lib.hid (ht5.below HBB4.out (fun b hg => (HM.out.2 b hg).1))
              clear hm5 ht5 HS
              have HTY := Lib.hid (HTR2.out _ z5 HM5.out)
              go_upto_region 29 with (first | (go_at_call 18; refine HTY.out.mono ?_; rintro e z6 ⟨b1, b2, b3, b4, b5, b6, b7, b8, rfl, hrz, hz⟩; have HRZ := Lib.hid hrz; have HZ := Lib.hid hz; have HN := Lib.hid (heap_alloc_new z6 (.cells #[.int .u8 0, .int .i64 0, .slice none 0 0, .slice none 0 0, .slice none 0 0, .slice none 0 0] 49)); clear hrz hz) | (refine wpList_store_row rfl 49 (.tmp 14) (.tmp 148) rfl z6.heap.size #[.int .u8 m'.t.status, .int .i64 m'.t.steps, .slice b1 m'.t.outs.length b2, .slice b3 m'.t.rels.length b4, .slice b5 m'.t.brs.length b6, .slice b7 m'.t.reads.length b8] rfl rfl 49 #[.int .u8 0, .int .i64 0, .slice none 0 0, .slice none 0 0, .slice none 0 0, .slice none 0 0] ?hr1 (by as_aux_lemma => kernel_rfl) (by as_aux_lemma => kernel_rfl) (by as_aux_lemma => kernel_rfl) ?_; exact HN.out))
              try simp only [Act.put]
              have hbn : Below z6.heap.size z6 ((z6.alloc (.cells #[.int .u8 0, .int .i64 0, .slice none 0 0, .slice none 0 0, .slice none 0 0, .slice none 0 0] 49)).setRow z6.heap.size #[.int .u8 m'.t.status, .int .i64 m'.t.steps, .slice b1 m'.t.outs.length b2, .slice b3 m'.t.rels.length b4, .slice b5 m'.t.brs.length b6, .slice b7 m'.t.reads.length b8]) := below_row ((Below.refl z6.heap.size z6).alloc (Nat.le_refl _) _) (Nat.le_refl _) _
              have HGY : Hid (((z6.alloc (.cells #[.int .u8 0, .int .i64 0, .slice none 0 0, .slice none 0 0, .slice none 0 0, .slice none 0 0] 49)).setRow z6.heap.size #[.int .u8 m'.t.status, .int .i64 m'.t.steps, .slice b1 m'.t.outs.length b2, .slice b3 m'.t.rels.length b4, .slice b5 m'.t.brs.length b6, .slice b7 m'.t.reads.length b8]).heap[z6.heap.size]? = some (.cells #[.int .u8 m'.t.status, .int .i64 m'.t.steps, .slice b1 m'.t.outs.length b2, .slice b3 m'.t.rels.length b4, .slice b5 m'.t.brs.length b6, .slice b7 m'.t.reads.length b8] 49 (0, 0))) := setRow_heap _ _ _ _ _ _ HN.out
              have HRY := Lib.hid (HRZ.out.keep hbn).forget
              have hb56 := bcomp HZ.out hbn
              have HTX6 := Lib.hid (HTX5.out.keep hb56)
              have hx6 := Lib.hid ((hb56.block _ (Array.getElem?_eq_some_iff.1 hx5.out).1).trans hx5.out)
              have HM6 := Lib.hid (HM5.out.keep hb56)
              have HBB6 := Lib.hid (bcomp HBB5.out hb56)
              clear hbn hb56 HN HRZ HZ HTX5 hx5 HM5 HBB5 HTY
              generalize ((z6.alloc (.cells #[.int .u8 0, .int .i64 0, .slice none 0 0, .slice none 0 0, .slice none 0 0, .slice none 0 0] 49)).setRow z6.heap.size #[.int .u8 m'.t.status, .int .i64 m'.t.steps, .slice b1 m'.t.outs.length b2, .slice b3 m'.t.rels.length b4, .slice b5 m'.t.brs.length b6, .slice b7 m'.t.reads.length b8]) = W13 at *
              have HK : Hid (∀ w' : World, Below W13.heap.size W13 w' → w'.cell? ⟨z1.heap.size, 0, none⟩ = some (.int .u8 m.t.status) ∧ w'.cell? ⟨z1.heap.size, 1, none⟩ = some (.int .i64 m.t.steps) ∧ w'.cell? ⟨z1.heap.size, 2, none⟩ = some (.slice a1 m.t.outs.length a2) ∧ w'.cell? ⟨z1.heap.size, 3, none⟩ = some (.slice a3 m.t.rels.length a4) ∧ w'.cell? ⟨z1.heap.size, 4, none⟩ = some (.slice a5 m.t.brs.length a6) ∧ w'.cell? ⟨z1.heap.size, 5, none⟩ = some (.slice a7 m.t.reads.length a8) ∧ w'.cell? ⟨z6.heap.size, 0, none⟩ = some (.int .u8 m'.t.status) ∧ w'.cell? ⟨z6.heap.size, 1, none⟩ = some (.int .i64 m'.t.steps) ∧ w'.cell? ⟨z6.heap.size, 2, none⟩ = some (.slice b1 m'.t.outs.length b2) ∧ w'.cell? ⟨z6.heap.size, 3, none⟩ = some (.slice b3 m'.t.rels.length b4) ∧ w'.cell? ⟨z6.heap.size, 4, none⟩ = some (.slice b5 m'.t.brs.length b6) ∧ w'.cell? ⟨z6.heap.size, 5, none⟩ = some (.slice b7 m'.t.reads.length b8)) := fun w' hb => by
                have h1 := (hb.block _ (Array.getElem?_eq_some_iff.1 hx6.out).1).trans hx6.out
                have h2 := (hb.block _ (Array.getElem?_eq_some_iff.1 HGY.out).1).trans HGY.out
                exact ⟨row_of h1 0 _ rfl, row_of h1 1 _ rfl, row_of h1 2 _ rfl, row_of h1 3 _ rfl, row_of h1 4 _ rfl, row_of h1 5 _ rfl, row_of h2 0 _ rfl, row_of h2 1 _ rfl, row_of h2 2 _ rfl, row_of h2 3 _ rfl, row_of h2 4 _ rfl, row_of h2 5 _ rfl⟩
              have hst := HP.out.starts
              have HSTA := Lib.hid (fun (w' : World) (hb : Below W13.heap.size W13 w') => starts_any m.t m'.t _ _ _ _ _ _ _ _ w' (HTX6.out.keep hb) (HRY.out.keep hb))
              rw [hst] at HSTA
              clear hst
              have HEQ := Lib.hid (fun (w' : World) (hb : Below W13.heap.size W13 w') => equalTrace m.t m'.t _ _ _ _ _ _ _ _ w' (HTX6.out.keep hb) (HRY.out.keep hb))
              obtain ⟨x0, x1, x2, x3, x4, x5, y0, y1, y2, y3, y4, y5⟩ := HK.out _ (Below.refl _ _)
              go_wp2_with (first | (go_at_call 29; refine (HSTA.out _ (by first | assumption | exact Below.refl _ _)).mono ?_; rintro e z ⟨rfl, hz⟩; have hzz : Below W13.heap.size W13 z := bcomp (by first | assumption | exact Below.refl _ _) hz; clear hz; clear x0 x1 x2 x3 x4 x5 y0 y1 y2 y3 y4 y5; obtain ⟨x0, x1, x2, x3, x4, x5, y0, y1, y2, y3, y4, y5⟩ := HK.out z hzz) | (go_at_call 19; refine (HEQ.out _ (by first | assumption | exact Below.refl _ _)).mono ?_; rintro e z ⟨rfl, hz⟩; have hzz : Below W13.heap.size W13 z := bcomp (by first | assumption | exact Below.refl _ _) hz; clear hz; clear x0 x1 x2 x3 x4 x5 y0 y1 y2 y3 y4 y5; obtain ⟨x0, x1, x2, x3, x4, x5, y0, y1, y2, y3, y4, y5⟩ := HK.out z hzz))
              go_roundw
              case rel => exact ⟨k + 1, _, by omega, by go_num, by rw [HMM2.out]; exact HM6.out.keep (by first | assumption | exact Below.refl _ _), bcomp HBB6.out (by first | assumption | exact Below.refl _ _)⟩
              case measure => simp [intOf]; omega
            · skip
              obtain rfl : m' = m := hst
              have s2 : (m'.t.status == 2) = false := by simpa using hs
              rw [s2] at HS
              clear hs
              go_upto_region 28 with (go_at_call 23; refine HS.out.mono ?_; rintro e z5 ⟨rfl, hm5, ht5⟩)
              have HM5 := Lib.hid hm5
              have hx5 : Hid (z5.heap[z1.heap.size]? = _) := (ht5.block _ (Array.getElem?_eq_some_iff.1 hx4.out).1 (fun hg => by have := (HM.out.2 _ hg).2; omega)).trans hx4.out
              have HTX5 := Lib.hid (HTX4.out.same (w' := z5) (g' := upFrom 0) (fun b hb hlt => ht5.block b hlt (fun hg => by have := (HM.out.2 _ hg).2; have : wo.heap.size ≤ b := hb; omega)) (fun _ _ _ => Nat.zero_le _)).forget
              have HBB5 := Lib.hid (ht5.below HBB4.out (fun b hg => (HM.out.2 b hg).1))
              clear hm5 ht5 HS
              have HTY := Lib.hid (HTR2.out _ z5 HM5.out)
              go_upto_region 29 with (first | (go_at_call 18; refine HTY.out.mono ?_; rintro e z6 ⟨b1, b2, b3, b4, b5, b6, b7, b8, rfl, hrz, hz⟩; have HRZ := Lib.hid hrz; have HZ := Lib.hid hz; have HN := Lib.hid (heap_alloc_new z6 (.cells #[.int .u8 0, .int .i64 0, .slice none 0 0, .slice none 0 0, .slice none 0 0, .slice none 0 0] 49)); clear hrz hz) | (refine wpList_store_row rfl 49 (.tmp 14) (.tmp 148) rfl z6.heap.size #[.int .u8 m'.t.status, .int .i64 m'.t.steps, .slice b1 m'.t.outs.length b2, .slice b3 m'.t.rels.length b4, .slice b5 m'.t.brs.length b6, .slice b7 m'.t.reads.length b8] rfl rfl 49 #[.int .u8 0, .int .i64 0, .slice none 0 0, .slice none 0 0, .slice none 0 0, .slice none 0 0] ?hr2 (by as_aux_lemma => kernel_rfl) (by as_aux_lemma => kernel_rfl) (by as_aux_lemma => kernel_rfl) ?_; exact HN.out))
              try simp only [Act.put]
              have hbn : Below z6.heap.size z6 ((z6.alloc (.cells #[.int .u8 0, .int .i64 0, .slice none 0 0, .slice none 0 0, .slice none 0 0, .slice none 0 0] 49)).setRow z6.heap.size #[.int .u8 m'.t.status, .int .i64 m'.t.steps, .slice b1 m'.t.outs.length b2, .slice b3 m'.t.rels.length b4, .slice b5 m'.t.brs.length b6, .slice b7 m'.t.reads.length b8]) := below_row ((Below.refl z6.heap.size z6).alloc (Nat.le_refl _) _) (Nat.le_refl _) _
              have HGY : Hid (((z6.alloc (.cells #[.int .u8 0, .int .i64 0, .slice none 0 0, .slice none 0 0, .slice none 0 0, .slice none 0 0] 49)).setRow z6.heap.size #[.int .u8 m'.t.status, .int .i64 m'.t.steps, .slice b1 m'.t.outs.length b2, .slice b3 m'.t.rels.length b4, .slice b5 m'.t.brs.length b6, .slice b7 m'.t.reads.length b8]).heap[z6.heap.size]? = some (.cells #[.int .u8 m'.t.status, .int .i64 m'.t.steps, .slice b1 m'.t.outs.length b2, .slice b3 m'.t.rels.length b4, .slice b5 m'.t.brs.length b6, .slice b7 m'.t.reads.length b8] 49 (0, 0))) := setRow_heap _ _ _ _ _ _ HN.out
              have HRY := Lib.hid (HRZ.out.keep hbn).forget
              have hb56 := bcomp HZ.out hbn
              have HTX6 := Lib.hid (HTX5.out.keep hb56)
              have hx6 := Lib.hid ((hb56.block _ (Array.getElem?_eq_some_iff.1 hx5.out).1).trans hx5.out)
              have HM6 := Lib.hid (HM5.out.keep hb56)
              have HBB6 := Lib.hid (bcomp HBB5.out hb56)
              clear hbn hb56 HN HRZ HZ HTX5 hx5 HM5 HBB5 HTY
              generalize ((z6.alloc (.cells #[.int .u8 0, .int .i64 0, .slice none 0 0, .slice none 0 0, .slice none 0 0, .slice none 0 0] 49)).setRow z6.heap.size #[.int .u8 m'.t.status, .int .i64 m'.t.steps, .slice b1 m'.t.outs.length b2, .slice b3 m'.t.rels.length b4, .slice b5 m'.t.brs.length b6, .slice b7 m'.t.reads.length b8]) = W13 at *
              have HK : Hid (∀ w' : World, Below W13.heap.size W13 w' → w'.cell? ⟨z1.heap.size, 0, none⟩ = some (.int .u8 m'.t.status) ∧ w'.cell? ⟨z1.heap.size, 1, none⟩ = some (.int .i64 m'.t.steps) ∧ w'.cell? ⟨z1.heap.size, 2, none⟩ = some (.slice a1 m'.t.outs.length a2) ∧ w'.cell? ⟨z1.heap.size, 3, none⟩ = some (.slice a3 m'.t.rels.length a4) ∧ w'.cell? ⟨z1.heap.size, 4, none⟩ = some (.slice a5 m'.t.brs.length a6) ∧ w'.cell? ⟨z1.heap.size, 5, none⟩ = some (.slice a7 m'.t.reads.length a8) ∧ w'.cell? ⟨z6.heap.size, 0, none⟩ = some (.int .u8 m'.t.status) ∧ w'.cell? ⟨z6.heap.size, 1, none⟩ = some (.int .i64 m'.t.steps) ∧ w'.cell? ⟨z6.heap.size, 2, none⟩ = some (.slice b1 m'.t.outs.length b2) ∧ w'.cell? ⟨z6.heap.size, 3, none⟩ = some (.slice b3 m'.t.rels.length b4) ∧ w'.cell? ⟨z6.heap.size, 4, none⟩ = some (.slice b5 m'.t.brs.length b6) ∧ w'.cell? ⟨z6.heap.size, 5, none⟩ = some (.slice b7 m'.t.reads.length b8)) := fun w' hb => by
                have h1 := (hb.block _ (Array.getElem?_eq_some_iff.1 hx6.out).1).trans hx6.out
                have h2 := (hb.block _ (Array.getElem?_eq_some_iff.1 HGY.out).1).trans HGY.out
                exact ⟨row_of h1 0 _ rfl, row_of h1 1 _ rfl, row_of h1 2 _ rfl, row_of h1 3 _ rfl, row_of h1 4 _ rfl, row_of h1 5 _ rfl, row_of h2 0 _ rfl, row_of h2 1 _ rfl, row_of h2 2 _ rfl, row_of h2 3 _ rfl, row_of h2 4 _ rfl, row_of h2 5 _ rfl⟩
              have hst := HP.out.starts
              have HSTA := Lib.hid (fun (w' : World) (hb : Below W13.heap.size W13 w') => starts_any m'.t m'.t _ _ _ _ _ _ _ _ w' (HTX6.out.keep hb) (HRY.out.keep hb))
              rw [hst] at HSTA
              clear hst
              have HEQ := Lib.hid (fun (w' : World) (hb : Below W13.heap.size W13 w') => equalTrace m'.t m'.t _ _ _ _ _ _ _ _ w' (HTX6.out.keep hb) (HRY.out.keep hb))
              rw [eqT_refl] at HEQ
              obtain ⟨x0, x1, x2, x3, x4, x5, y0, y1, y2, y3, y4, y5⟩ := HK.out _ (Below.refl _ _)
              go_wp2_with (first | (go_at_call 29; refine (HSTA.out _ (by first | assumption | exact Below.refl _ _)).mono ?_; rintro e z ⟨rfl, hz⟩; have hzz : Below W13.heap.size W13 z := bcomp (by first | assumption | exact Below.refl _ _) hz; clear hz; clear x0 x1 x2 x3 x4 x5 y0 y1 y2 y3 y4 y5; obtain ⟨x0, x1, x2, x3, x4, x5, y0, y1, y2, y3, y4, y5⟩ := HK.out z hzz) | (go_at_call 19; refine (HEQ.out _ (by first | assumption | exact Below.refl _ _)).mono ?_; rintro e z ⟨rfl, hz⟩; have hzz : Below W13.heap.size W13 z := bcomp (by first | assumption | exact Below.refl _ _) hz; clear hz; clear x0 x1 x2 x3 x4 x5 y0 y1 y2 y3 y4 y5; obtain ⟨x0, x1, x2, x3, x4, x5, y0, y1, y2, y3, y4, y5⟩ := HK.out z hzz))
              go_roundw
              case rel => exact ⟨k + 1, _, by omega, by go_num, by rw [HMM2.out]; exact HM6.out.keep (by first | assumption | exact Below.refl _ _), bcomp HBB6.out (by first | assumption | exact Below.refl _ _)⟩
              case measure => simp [intOf]; omega
end Go.Proofs.YthmdioldnnhidaaDoor
