/- The kit's comparison of a flat program with itself; the walk of FlatChecks, in whatever memory it is called. Conditions: what comes in reads as a flat program; the tables are laid. -/
import Derived.Test.YtgcfdbhpophnjaaDoorFlJ
import Derived.Test.YtgcfdbhpophnjaaDoorMRc
import Derived.Test.YtgcfdbhpophnjaaDoorKMb
set_option linter.unusedVariables false
set_option linter.unusedSimpArgs false
set_option linter.unnecessarySimpa false
namespace Go.Proofs.YtgcfdbhpophnjaaDoor
open Go.ChangeShapes Go.WideShapes Go.ChangeAt Go.RowKit
theorem eqStr_selfL (l : List ByteArray) : eqL eqStr l l = true := eqL_selfF (fun x => by simp [eqStr]) l
theorem eqInt_selfL (l : List Int) : eqL eqInt l l = true := eqL_selfF (fun x => by simp [eqInt]) l
theorem eqCode_selfL (l : List CodeD) : eqL eqCode l l = true := eqL_selfF (fun x => by simp [eqCode]) l
set_option maxRecDepth 100000 in
set_option maxHeartbeats 1600000 in
theorem equalFlatSelf (f : FlatD) (cv sv av kv cv' sv' av' kv' : Value) (w : World) (h : RdFlat none w f cv sv av kv) (g : RdFlat none w f cv' sv' av' kv') :
    Calls Tryd.prog 13 #[flatV f cv sv av kv, flatV f cv' sv' av' kv'] w fun e w' => e = .returned (.bool true) ∧ Below w.heap.size w w' := by
  obtain ⟨ca, cc, rfl⟩ := h.1.is
  obtain ⟨sa, sc, rfl⟩ := h.2.1.is
  obtain ⟨aa, ac, rfl⟩ := h.2.2.1.is
  obtain ⟨ka, kc, rfl⟩ := h.2.2.2.1.is
  obtain ⟨caS, ccS, rfl⟩ := g.1.is
  obtain ⟨saS, scS, rfl⟩ := g.2.1.is
  obtain ⟨aaS, acS, rfl⟩ := g.2.2.1.is
  obtain ⟨kaS, kcS, rfl⟩ := g.2.2.2.1.is
  have hal := ((Below.refl w.heap.size w).alloc (Nat.le_refl _) (.cells #[.int .i64 f.width, .int .i64 f.regs, .slice ca f.chans.length cc, .slice sa f.sites.length sc, .slice aa f.arrays.length ac, .slice ka f.code.length kc] 32)).alloc (by simp) (.cells #[.int .i64 f.width, .int .i64 f.regs, .slice caS f.chans.length ccS, .slice saS f.sites.length scS, .slice aaS f.arrays.length acS, .slice kaS f.code.length kcS] 32)
  have hbb := heap2_of (w := w) (A := (.cells #[.int .i64 f.width, .int .i64 f.regs, .slice ca f.chans.length cc, .slice sa f.sites.length sc, .slice aa f.arrays.length ac, .slice ka f.code.length kc] 32)) (B := (.cells #[.int .i64 f.width, .int .i64 f.regs, .slice caS f.chans.length ccS, .slice saS f.sites.length scS, .slice aaS f.arrays.length acS, .slice kaS f.code.length kcS] 32)) (Below.refl _ _)
  have HX := Lib.hid (h.keep hal)
  have HY := Lib.hid (g.keep hal)
  have G0 := Lib.hid hbb.1
  have G1 := Lib.hid hbb.2.1
  have HB := Lib.hid hal
  clear hal hbb h g
  go_enter Tryd.func13, Tryd.ntmps13
  go_upto_region 1 with fail
  generalize ((w.alloc (.cells #[.int .i64 f.width, .int .i64 f.regs, .slice ca f.chans.length cc, .slice sa f.sites.length sc, .slice aa f.arrays.length ac, .slice ka f.code.length kc] 32)).alloc (.cells #[.int .i64 f.width, .int .i64 f.regs, .slice caS f.chans.length ccS, .slice saS f.sites.length scS, .slice aaS f.arrays.length acS, .slice kaS f.code.length kcS] 32)) = W at *
  have hsW : w.heap.size + 1 < W.heap.size := (Array.getElem?_eq_some_iff.1 G1.out).1
  have HK : Hid (∀ w' : World, Below W.heap.size W w' → w'.heap[w.heap.size]? = W.heap[w.heap.size]? ∧ w'.heap[w.heap.size + 1]? = W.heap[w.heap.size + 1]?) := fun w' hb => ⟨hb.block _ (by omega), hb.block _ (by omega)⟩
  have hc0 := fun (w' : World) (hb : Below W.heap.size W w') => equalStr _ _ _ _ w' (HX.out.1.keep hb) (HY.out.1.keep hb)
  have hc1 := fun (w' : World) (hb : Below W.heap.size W w') => equalStr _ _ _ _ w' (HX.out.2.1.keep hb) (HY.out.2.1.keep hb)
  have hc2 := fun (w' : World) (hb : Below W.heap.size W w') => equalInt _ _ _ _ w' (HX.out.2.2.1.keep hb) (HY.out.2.2.1.keep hb)
  have hc3 := fun (w' : World) (hb : Below W.heap.size W w') => equalCode _ _ _ _ w' (HX.out.2.2.2.1.keep hb) (HY.out.2.2.2.1.keep hb)
  rw [eqStr_selfL] at hc0 hc1
  rw [eqInt_selfL] at hc2
  rw [eqCode_selfL] at hc3
  have HC0 := Lib.hid hc0
  have HC1 := Lib.hid hc1
  have HC2 := Lib.hid hc2
  have HC3 := Lib.hid hc3
  clear hc0 hc1 hc2 hc3
  have i0 := row_of G0.out 0 (.int .i64 f.width) rfl
  have j0 := row_of G1.out 0 (.int .i64 f.width) rfl
  have i1 := row_of G0.out 1 (.int .i64 f.regs) rfl
  have j1 := row_of G1.out 1 (.int .i64 f.regs) rfl
  have i2 := row_of G0.out 2 (.slice ca f.chans.length cc) rfl
  have j2 := row_of G1.out 2 (.slice caS f.chans.length ccS) rfl
  have e0 : (f.width == f.width) = true := by simp
  have e1 : (f.regs == f.regs) = true := by simp
  go_wp2_with (first | (go_at_call 22; with_reducible refine (HC0.out _ (Below.refl _ _)).mono ?_; rintro e w1 ⟨rfl, hw⟩; have B1 := Lib.hid (hw); clear hw; have i3 := row_of ((HK.out _ B1.out).1.trans G0.out) 3 (.slice sa f.sites.length sc) rfl; have j3 := row_of ((HK.out _ B1.out).2.trans G1.out) 3 (.slice saS f.sites.length scS) rfl) | (go_at_call 22; with_reducible refine (HC1.out _ B1.out).mono ?_; rintro e w2 ⟨rfl, hw⟩; have B2 := Lib.hid (bcomp B1.out hw); clear hw; have i4 := row_of ((HK.out _ B2.out).1.trans G0.out) 4 (.slice aa f.arrays.length ac) rfl; have j4 := row_of ((HK.out _ B2.out).2.trans G1.out) 4 (.slice aaS f.arrays.length acS) rfl) | (go_at_call 41; with_reducible refine (HC2.out _ B2.out).mono ?_; rintro e w3 ⟨rfl, hw⟩; have B3 := Lib.hid (bcomp B2.out hw); clear hw; have i5 := row_of ((HK.out _ B3.out).1.trans G0.out) 5 (.slice ka f.code.length kc) rfl; have j5 := row_of ((HK.out _ B3.out).2.trans G1.out) 5 (.slice kaS f.code.length kcS) rfl) | (go_at_call 42; with_reducible refine (HC3.out _ B3.out).mono ?_; rintro e w4 ⟨rfl, hw⟩; have B4 := Lib.hid (bcomp B3.out hw); clear hw))
  go_ret
  exact ⟨rfl, bcomp HB.out B4.out⟩
set_option maxRecDepth 100000 in
set_option maxHeartbeats 3200000 in
/-- The walk of **FlatChecks**. -/
theorem flatChecks_walk (f : FlatD) (cv sv av kv : Value) (w : World) (h : RdFlat none w f cv sv av kv) (hL : Laid w) (hM : LaidM w) :
    Calls Tryd.prog 4 #[flatV f cv sv av kv] w fun e w' => e = .returned (.bool true) ∧ Below w.heap.size w w' := by
  obtain ⟨ca, cc, rfl⟩ := h.1.is
  obtain ⟨sa, sc, rfl⟩ := h.2.1.is
  obtain ⟨aa, ac, rfl⟩ := h.2.2.1.is
  obtain ⟨ka, kc, rfl⟩ := h.2.2.2.1.is
  have hb0 := (Below.refl w.heap.size w).alloc (Nat.le_refl _) (.cells #[.int .i64 f.width, .int .i64 f.regs, .slice ca f.chans.length cc, .slice sa f.sites.length sc, .slice aa f.arrays.length ac, .slice ka f.code.length kc] 32)
  have hx0 := heap_alloc_new w (.cells #[.int .i64 f.width, .int .i64 f.regs, .slice ca f.chans.length cc, .slice sa f.sites.length sc, .slice aa f.arrays.length ac, .slice ka f.code.length kc] 32)
  have HS := Lib.hid (short25 f _ _ _ _ _ (h.keep hb0))
  have HB := Lib.hid hb0
  have HX := Lib.hid hx0
  have HL := Lib.hid hL
  have HM := Lib.hid hM
  clear h hL hM hb0 hx0
  go_enter Tryd.func4, Tryd.ntmps4
  go_upto_region 1 with fail
  generalize w.alloc (.cells #[.int .i64 f.width, .int .i64 f.regs, .slice ca f.chans.length cc, .slice sa f.sites.length sc, .slice aa f.arrays.length ac, .slice ka f.code.length kc] 32) = W at *
  obtain ⟨fb, hfb⟩ : ∃ fb, w.heap.size = fb := ⟨_, rfl⟩
  have HFB := Lib.hid hfb
  rw [hfb] at HX
  rw [hfb]
  clear hfb
  have c0 := row_of HX.out 0 (.int .i64 f.width) rfl
  have c1 := row_of HX.out 1 (.int .i64 f.regs) rfl
  have c2 := row_of HX.out 2 (.slice ca f.chans.length cc) rfl
  have c3 := row_of HX.out 3 (.slice sa f.sites.length sc) rfl
  have c4 := row_of HX.out 4 (.slice aa f.arrays.length ac) rfl
  have c5 := row_of HX.out 5 (.slice ka f.code.length kc) rfl
  obtain ⟨g, hg⟩ : ∃ g, shortF f = g := ⟨_, rfl⟩
  rw [hg] at HS
  clear hg
  have HSC : Hid (Calls Tryd.prog 16 #[.agg #[.int .i64 f.width, .int .i64 f.regs, .slice ca f.chans.length cc, .slice sa f.sites.length sc, .slice aa f.arrays.length ac, .slice ka f.code.length kc]] W fun e w' => ∃ a1 k1 a2 k2 a3 k3 a4 k4, e = .returned (.agg #[.int .i64 g.width, .int .i64 g.regs, .slice a1 g.chans.length k1, .slice a2 g.sites.length k2, .slice a3 g.arrays.length k3, .slice a4 g.code.length k4]) ∧ RdFlat (some (upFrom W.heap.size)) w' g (.slice a1 g.chans.length k1) (.slice a2 g.sites.length k2) (.slice a3 g.arrays.length k3) (.slice a4 g.code.length k4) ∧ Below W.heap.size W w') := by
    refine HS.out.mono ?_
    rintro e w' ⟨c, s, a, k, rfl, hrd, hz⟩
    obtain ⟨a1, k1, rfl⟩ := hrd.1.is
    obtain ⟨a2, k2, rfl⟩ := hrd.2.1.is
    obtain ⟨a3, k3, rfl⟩ := hrd.2.2.1.is
    obtain ⟨a4, k4, rfl⟩ := hrd.2.2.2.1.is
    exact ⟨a1, k1, a2, k2, a3, k3, a4, k4, rfl, hrd, hz⟩
  clear HS
  go_upto_region 2 with (first | (go_at_call 16; refine HSC.out.mono ?_; rintro e W2 ⟨a1, k1, a2, k2, a3, k3, a4, k4, rfl, hrd, hz⟩; have HRD := Lib.hid hrd; have BZ := Lib.hid hz; have HX2 := Lib.hid ((hz.block fb (Array.getElem?_eq_some_iff.1 HX.out).1).trans HX.out); clear hrd hz) | (refine wpList_store_row rfl 32 (.tmp 1) (.tmp 5) rfl fb #[.int .i64 g.width, .int .i64 g.regs, .slice a1 g.chans.length k1, .slice a2 g.sites.length k2, .slice a3 g.arrays.length k3, .slice a4 g.code.length k4] rfl rfl 32 #[.int .i64 f.width, .int .i64 f.regs, .slice ca f.chans.length cc, .slice sa f.sites.length sc, .slice aa f.arrays.length ac, .slice ka f.code.length kc] ?hs0 (by as_aux_lemma => kernel_rfl) (by as_aux_lemma => kernel_rfl) (by as_aux_lemma => kernel_rfl) ?_; exact HX2.out))
  try simp only [Act.put]
  have hfl : fb < W.heap.size := (Array.getElem?_eq_some_iff.1 HX.out).1
  have HX3 : Hid (_ = _) := setRow_heap W2 fb _ #[.int .i64 g.width, .int .i64 g.regs, .slice a1 g.chans.length k1, .slice a2 g.sites.length k2, .slice a3 g.arrays.length k3, .slice a4 g.code.length k4] _ _ HX2.out
  have HR3 := Lib.hid (HRD.out.setRow (x := fb) hfl (Nat.le_refl _) #[.int .i64 g.width, .int .i64 g.regs, .slice a1 g.chans.length k1, .slice a2 g.sites.length k2, .slice a3 g.arrays.length k3, .slice a4 g.code.length k4]).forget
  have HB3 := Lib.hid (below_row (bcomp HB.out BZ.out) (g := fb) (by have := HFB.out; omega) #[.int .i64 g.width, .int .i64 g.regs, .slice a1 g.chans.length k1, .slice a2 g.sites.length k2, .slice a3 g.arrays.length k3, .slice a4 g.code.length k4])
  have HL3 := Lib.hid (HL.out.keep HB3.out)
  have HM3 := Lib.hid (HM.out.keep HB3.out)
  clear c0 c1 c2 c3 c4 c5 HSC HRD BZ HX2 HX HL HM hfl HFB HB
  generalize W2.setRow fb #[.int .i64 g.width, .int .i64 g.regs, .slice a1 g.chans.length k1, .slice a2 g.sites.length k2, .slice a3 g.arrays.length k3, .slice a4 g.code.length k4] = W3 at *
  have c0 := row_of HX3.out 0 (.int .i64 g.width) rfl
  have c1 := row_of HX3.out 1 (.int .i64 g.regs) rfl
  have c2 := row_of HX3.out 2 (.slice a1 g.chans.length k1) rfl
  have c3 := row_of HX3.out 3 (.slice a2 g.sites.length k2) rfl
  have c4 := row_of HX3.out 4 (.slice a3 g.arrays.length k3) rfl
  have c5 := row_of HX3.out 5 (.slice a4 g.code.length k4) rfl
  have HCC : Hid (Calls Tryd.prog 17 #[.agg #[.int .i64 g.width, .int .i64 g.regs, .slice a1 g.chans.length k1, .slice a2 g.sites.length k2, .slice a3 g.arrays.length k3, .slice a4 g.code.length k4]] W3 fun e w' => ∃ b1 l1 b2 l2 b3 l3 b4 l4, e = .returned (.agg #[.int .i64 g.width, .int .i64 g.regs, .slice b1 g.chans.length l1, .slice b2 g.sites.length l2, .slice b3 g.arrays.length l3, .slice b4 g.code.length l4]) ∧ RdFlat none w' g (.slice b1 g.chans.length l1) (.slice b2 g.sites.length l2) (.slice b3 g.arrays.length l3) (.slice b4 g.code.length l4) ∧ Below W3.heap.size W3 w') := by
    refine (copyFlat g _ _ _ _ W3 HR3.out).mono ?_
    rintro e w' ⟨c, s, a, k, rfl, hrd, hz⟩
    obtain ⟨b1, l1, rfl⟩ := hrd.1.is
    obtain ⟨b2, l2, rfl⟩ := hrd.2.1.is
    obtain ⟨b3, l3, rfl⟩ := hrd.2.2.1.is
    obtain ⟨b4, l4, rfl⟩ := hrd.2.2.2.1.is
    exact ⟨b1, l1, b2, l2, b3, l3, b4, l4, rfl, hrd.forget, hz⟩
  go_upto_region 3 with (first | (go_at_call 17; refine HCC.out.mono ?_; rintro e W4 ⟨b1, l1, b2, l2, b3, l3, b4, l4, rfl, hrd, hz⟩; have HRD := Lib.hid hrd; have BZ := Lib.hid hz; have HN := Lib.hid (heap_alloc_new W4 (.cells #[.int .i64 0, .int .i64 0, .slice none 0 0, .slice none 0 0, .slice none 0 0, .slice none 0 0] 32)); clear hrd hz) | (refine wpList_store_row rfl 32 (.tmp 3) (.tmp 7) rfl W4.heap.size #[.int .i64 g.width, .int .i64 g.regs, .slice b1 g.chans.length l1, .slice b2 g.sites.length l2, .slice b3 g.arrays.length l3, .slice b4 g.code.length l4] rfl rfl 32 #[.int .i64 0, .int .i64 0, .slice none 0 0, .slice none 0 0, .slice none 0 0, .slice none 0 0] ?hs1 (by as_aux_lemma => kernel_rfl) (by as_aux_lemma => kernel_rfl) (by as_aux_lemma => kernel_rfl) ?_; exact HN.out))
  try simp only [Act.put]
  have hal : Below W4.heap.size W4 ((W4.alloc (.cells #[.int .i64 0, .int .i64 0, .slice none 0 0, .slice none 0 0, .slice none 0 0, .slice none 0 0] 32)).setRow W4.heap.size #[.int .i64 g.width, .int .i64 g.regs, .slice b1 g.chans.length l1, .slice b2 g.sites.length l2, .slice b3 g.arrays.length l3, .slice b4 g.code.length l4]) := below_row ((Below.refl _ _).alloc (Nat.le_refl _) _) (Nat.le_refl _) _
  have HY5 : Hid (_ = _) := setRow_heap (W4.alloc (.cells #[.int .i64 0, .int .i64 0, .slice none 0 0, .slice none 0 0, .slice none 0 0, .slice none 0 0] 32)) W4.heap.size _ #[.int .i64 g.width, .int .i64 g.regs, .slice b1 g.chans.length l1, .slice b2 g.sites.length l2, .slice b3 g.arrays.length l3, .slice b4 g.code.length l4] _ _ HN.out
  have HB5 := Lib.hid (bcomp BZ.out hal)
  have HO5 := Lib.hid (HRD.out.keep hal)
  clear c0 c1 c2 c3 c4 c5 HCC HN hal BZ HRD
  generalize (W4.alloc (.cells #[.int .i64 0, .int .i64 0, .slice none 0 0, .slice none 0 0, .slice none 0 0, .slice none 0 0] 32)).setRow W4.heap.size #[.int .i64 g.width, .int .i64 g.regs, .slice b1 g.chans.length l1, .slice b2 g.sites.length l2, .slice b3 g.arrays.length l3, .slice b4 g.code.length l4] = W5 at *
  obtain ⟨ob, hob⟩ : ∃ ob, W4.heap.size = ob := ⟨_, rfl⟩
  rw [hob] at HY5
  rw [hob]
  clear hob
  have HR5 := Lib.hid (HR3.out.keep HB5.out)
  have HX5 := Lib.hid ((HB5.out.block fb (Array.getElem?_eq_some_iff.1 HX3.out).1).trans HX3.out)
  have HL5 := Lib.hid (HL3.out.keep HB5.out)
  have HM5 := Lib.hid (HM3.out.keep HB5.out)
  have HB6 := Lib.hid (bcomp HB3.out HB5.out)
  clear HR3 HX3 HL3 HM3 HB3 HB5
  obtain ⟨n, hn⟩ : ∃ n, flatE g = n := ⟨_, rfl⟩
  have HC1 : Hid (∀ z, Calls Tryd.prog 18 #[.agg #[.int .i64 g.width, .int .i64 g.regs, .slice b1 g.chans.length l1, .slice b2 g.sites.length l2, .slice b3 g.arrays.length l3, .slice b4 g.code.length l4]] (ext W5 z) fun e w' => e = .returned (.int .i64 n) ∧ Below (ext W5 z).heap.size (ext W5 z) w') := fun z => by
    have h1 := flatCheck g _ _ _ _ (ext W5 z) (HO5.out.keep (ext_below _ _)) (HM5.out.keep (ext_below _ _))
    rw [hn] at h1
    exact h1
  have HC2 : Hid (∀ z, Calls Tryd.prog 19 #[.agg #[.int .i64 g.width, .int .i64 g.regs, .slice a1 g.chans.length k1, .slice a2 g.sites.length k2, .slice a3 g.arrays.length k3, .slice a4 g.code.length k4]] (ext W5 z) fun e w' => e = .returned (.int .i64 n) ∧ Below (ext W5 z).heap.size (ext W5 z) w') := fun z => by
    have h1 := refCheckM g _ _ _ _ (ext W5 z) (HR5.out.keep (ext_below _ _))
    rw [hn] at h1
    exact h1
  have HC3 : Hid (∀ z, Calls Tryd.prog 13 #[.agg #[.int .i64 g.width, .int .i64 g.regs, .slice b1 g.chans.length l1, .slice b2 g.sites.length l2, .slice b3 g.arrays.length l3, .slice b4 g.code.length l4], .agg #[.int .i64 g.width, .int .i64 g.regs, .slice a1 g.chans.length k1, .slice a2 g.sites.length k2, .slice a3 g.arrays.length k3, .slice a4 g.code.length k4]] (ext W5 z) fun e w' => e = .returned (.bool true) ∧ Below (ext W5 z).heap.size (ext W5 z) w') := fun z => equalFlatSelf g _ _ _ _ _ _ _ _ (ext W5 z) (HO5.out.keep (ext_below _ _)) (HR5.out.keep (ext_below _ _))
  have HC4 : Hid (∀ z, Calls Tryd.prog 15 #[] (ext W5 z) fun e w' => e = .returned (.bool true) ∧ Below (ext W5 z).heap.size (ext W5 z) w') := fun z => awake25_any (ext W5 z) (HL5.out.keep (ext_below _ _)) (HM5.out.keep (ext_below _ _))
  have hnn : (n == n) = true := by simp
  clear hn HR5 HO5 HL5 HM5
  have c0 := ext_cell (row_of HX5.out 0 (.int .i64 g.width) rfl)
  have c1 := ext_cell (row_of HX5.out 1 (.int .i64 g.regs) rfl)
  have c2 := ext_cell (row_of HX5.out 2 (.slice a1 g.chans.length k1) rfl)
  have c3 := ext_cell (row_of HX5.out 3 (.slice a2 g.sites.length k2) rfl)
  have c4 := ext_cell (row_of HX5.out 4 (.slice a3 g.arrays.length k3) rfl)
  have c5 := ext_cell (row_of HX5.out 5 (.slice a4 g.code.length k4) rfl)
  have d0 := ext_cell (row_of HY5.out 0 (.int .i64 g.width) rfl)
  have d1 := ext_cell (row_of HY5.out 1 (.int .i64 g.regs) rfl)
  have d2 := ext_cell (row_of HY5.out 2 (.slice b1 g.chans.length l1) rfl)
  have d3 := ext_cell (row_of HY5.out 3 (.slice b2 g.sites.length l2) rfl)
  have d4 := ext_cell (row_of HY5.out 4 (.slice b3 g.arrays.length l3) rfl)
  have d5 := ext_cell (row_of HY5.out 5 (.slice b4 g.code.length l4) rfl)
  clear HX5 HY5
  (refine wp_region_calm (by kernel_rfl) (by kernel_rfl) ?_; (repeat (go_big_quiet_step ((first | (go_at_call 18; exact calls_calm (HC1.out _)) | (go_at_call 19; exact calls_calm (HC2.out _)) | (go_at_call 13; exact calls_calm (HC3.out _)) | (go_at_call 15; exact calls_calm (HC4.out _)))))); refine wpQuiet_nil ?_; intro wc hwc)
  clear c0 c1 c2 c3 c4 c5 d0 d1 d2 d3 d4 d5
  go_wp2_with fail
  go_ret
  exact ⟨rfl, bcomp HB6.out hwc⟩
end Go.Proofs.YtgcfdbhpophnjaaDoor
