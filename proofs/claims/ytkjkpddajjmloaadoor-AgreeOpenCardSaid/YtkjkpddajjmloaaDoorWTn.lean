/- The walk of AgreeTurns. Condition: what comes in reads as the plain data; the tables hold what they are laid with. -/
import Derived.Test.YtkjkpddajjmloaaDoorAgT
import Derived.Test.YtkjkpddajjmloaaDoorAgY
import Derived.Test.YtkjkpddajjmloaaDoorAgC
set_option linter.unnecessarySimpa false
set_option linter.unusedVariables false
set_option linter.unusedSimpArgs false
namespace Go.Proofs.YtkjkpddajjmloaaDoor
open Go.ChangeShapes Go.WideShapes Go.ChangeAt Go.RowKit
theorem runs_two {w : World} {g : Nat} {u v : Value} {A B : List (List Int)} (h : w.heap[g]? = some (.cells #[u, v] 47 (0, 0))) (ha : RdLists none w u A) (hb : RdLists none w v B) : RdRuns w (.slice (some ⟨g, 0, none⟩) 2 2) [A, B] := by
  refine ⟨_, 2, rfl, fun i X hX => ?_⟩
  match i, hX with
  | 0, hX => simp only [List.getElem?_cons_zero, Option.some.injEq] at hX; subst hX; exact ⟨_, row_of h 0 _ rfl, ha⟩
  | 1, hX => simp only [List.getElem?_cons_zero, List.getElem?_cons_succ, Option.some.injEq] at hX; subst hX; exact ⟨_, row_of h 1 _ rfl, hb⟩
  | i + 2, hX => simp at hX
theorem FlatC.codes {w : World} {f : FlatD} {c : Array Value} (h : FlatC w f c) : ∀ c ∈ f.code, CodeIn c := by
  obtain ⟨a, b, d, e, rfl, g⟩ := h
  exact g.2.2.2.1.ok
theorem short_fits {A : List (List Int)} (h : shortP A) : ∀ l ∈ A, l.length ≤ 1000000 := fun l hl => by have := h.2 l hl; omega
theorem turns_err (f : FlatD) (q : PolD) (lv : Int) (A B : List (List Int)) : leaksErr f q lv A B = leaksErr f q lv A A ∨ leaksErr f q lv A B = 3 := by
  unfold leaksErr
  by_cases h : sideErr f q = 0
  · have hh : ¬ sideErr f q ≠ 0 := fun k => k h
    by_cases h2 : rangeBad f q lv A B
    · right; rw [if_neg hh, if_pos h2]
    · left
      have h3 : ¬ rangeBad f q lv A A := by unfold rangeBad at h2 ⊢; omega
      rw [if_neg hh, if_neg h2, if_neg hh, if_neg h3]
  · left; rw [if_pos h, if_pos h]
set_option maxRecDepth 100000 in
set_option maxHeartbeats 3200000 in
theorem turns_walk (f : FlatD) (cF : Array Value) (q : PolD) (cP : Array Value) (level : Int) (av : Value) (A : List (List Int)) (bv : Value) (B : List (List Int)) (w : World) (hF : FlatC w f cF) (hP : PolC w q cP) (hlv : InI64 level) (ha : RdLists none w av A) (hb : RdLists none w bv B) (hL : Laid w) (hT : BitsAt w) :
    Calls Tryd.prog 4 #[.agg cF, .agg cP, .int .i64 level, av, bv] w fun e w' => e = .returned (.bool true) ∧ Below w.heap.size w w' := by
  obtain ⟨aa, ac, rfl⟩ := ha.is
  obtain ⟨ba, bc, rfl⟩ := hb.is
  obtain ⟨va, hva⟩ : ∃ va, (Value.slice aa A.length ac) = va := ⟨_, rfl⟩
  obtain ⟨vb, hvb⟩ : ∃ vb, (Value.slice ba B.length bc) = vb := ⟨_, rfl⟩
  have hva1 : va.oneCell' = true := by subst hva; rfl
  have hvb1 : vb.oneCell' = true := by subst hvb; rfl
  have HFI := Lib.hid hF.info
  have HPI := Lib.hid hP.info
  have HCI := Lib.hid hF.codes
  have HF := Lib.hid hF
  have HP := Lib.hid hP
  have HA := Lib.hid ha
  have HBB := Lib.hid hb
  have HL := Lib.hid hL
  have HT := Lib.hid hT
  have HLV := Lib.hid hlv
  clear hF hP ha hb hL hT hlv hva hvb
  have hal := ((Below.refl w.heap.size w).alloc (Nat.le_refl _) (.cells cF 43)).alloc (by simp) (.cells cP 46)
  have hx := heap2_of (w := w) (A := .cells cF 43 (0, 0)) (B := .cells cP 46 (0, 0)) (Below.refl _ _)
  have B0 := Lib.hid hal
  have HGF0 := Lib.hid hx.1
  have HGP0 := Lib.hid hx.2.1
  clear hal hx
  go_enter Tryd.func4, Tryd.ntmps4
  go_upto_region 1 with fail
  generalize (w.alloc (.cells cF 43)).alloc (.cells cP 46) = W at *
  have hsz : w.heap.size + 1 < W.heap.size := (Array.getElem?_eq_some_iff.1 HGP0.out).1
  have hal2 := (Below.refl W.heap.size W).alloc (Nat.le_refl _) (.cells #[.slice aa A.length ac, .slice ba B.length bc] 47)
  have hb2 := bcomp B0.out hal2
  have HFN := Lib.hid (fine_any f q cF cP _ [A, B] _ (HF.out.keep hb2) (HP.out.keep hb2) (runs_two (heap_alloc_new W (.cells #[.slice aa A.length ac, .slice ba B.length bc] 47)) (HA.out.keep hb2) (HBB.out.keep hb2)) (by simp))
  have BX := Lib.hid hal2
  have B00 := Lib.hid hb2
  clear hal2 hb2
  by_cases hfi : fineB f q [A, B] = true
  case neg =>
    rw [Bool.eq_false_iff.2 hfi] at HFN
    go_wp2_with (first | (refine wpList_load_row rfl 43 (.tmp 5) rfl w.heap.size rfl 43 cF (0, 0) _ ?l1 Tryd.underlying43 rfl ?i1 ?_; exact HGF0.out; exact HFI.out) | (refine wpList_load_row rfl 46 (.tmp 6) rfl (w.heap.size + 1) rfl 46 cP (0, 0) _ ?l2 Tryd.underlying46 rfl ?i2 ?_; exact HGP0.out; exact HPI.out) | (go_at_call 21; refine HFN.out.mono ?_; rintro e z1 ⟨rfl, hz⟩; have B1 := Lib.hid (bcomp B00.out hz); have HAW := Lib.hid (awake_any z1 (HL.out.keep B1.out) (HT.out.keep B1.out)); clear hz) | (go_at_call 16; refine HAW.out.mono ?_; rintro e z2 ⟨rfl, hz⟩; have B2 := Lib.hid (bcomp B1.out hz); clear hz))
    go_ret
    exact ⟨rfl, B2.out⟩
  rw [hfi] at HFN
  have hsA := short_fits (fine_short hfi (A := A) (by simp))
  have hsB := short_fits (fine_short hfi (A := B) (by simp))
  have HSA := Lib.hid hsA
  have HSB := Lib.hid hsB
  clear hfi hsA hsB
  go_upto_region 3 with (first | (refine wpList_load_row rfl 43 (.tmp 5) rfl w.heap.size rfl 43 cF (0, 0) _ ?l3 Tryd.underlying43 rfl ?i3 ?_; exact HGF0.out; exact HFI.out) | (refine wpList_load_row rfl 46 (.tmp 6) rfl (w.heap.size + 1) rfl 46 cP (0, 0) _ ?l4 Tryd.underlying46 rfl ?i4 ?_; exact HGP0.out; exact HPI.out) | (go_at_call 21; refine HFN.out.mono ?_; rintro e z1 ⟨rfl, hz⟩; have BZ0 := Lib.hid (bcomp BX.out hz); clear hz))
  have B1 := Lib.hid (bcomp B0.out BZ0.out)
  have HGF1 := Lib.hid ((BZ0.out.block _ (Array.getElem?_eq_some_iff.1 HGF0.out).1).trans HGF0.out)
  have HGP1 := Lib.hid ((BZ0.out.block _ (Array.getElem?_eq_some_iff.1 HGP0.out).1).trans HGP0.out)
  obtain ⟨V, hV⟩ : ∃ V, leaksB f q level A B = V := ⟨_, rfl⟩
  obtain ⟨E, hE⟩ : ∃ E, leaksErr f q level A B = E := ⟨_, rfl⟩
  obtain ⟨E3, hE3⟩ : ∃ E, leaksErr f q level A A = E := ⟨_, rfl⟩
  have HOR : Hid (E = E3 ∨ E = 3) := by show _ ∨ _; rw [← hE, ← hE3]; exact turns_err f q level A B
  have h1 := leaks_any f q cF cP level _ _ A B z1 (HF.out.keep B1.out) (HP.out.keep B1.out) (HL.out.keep B1.out) (HT.out.keep B1.out) HLV.out (HA.out.keep B1.out) (HBB.out.keep B1.out) HSA.out HSB.out
  rw [hV, hE] at h1
  have HK1 := Lib.hid h1
  have HV2 : Hid (leaksB f q level B A = V) := by show _ = _; rw [leaksB_comm]; exact hV
  have HE2 : Hid (leaksErr f q level B A = E) := by show _ = _; rw [leaksErr_comm]; exact hE
  have HE3 := Lib.hid hE3
  clear h1 hV hE hE3 HFN BX B00 BZ0 HGF0 HGP0
  go_upto_region 4 with (first | (refine wpList_load_row rfl 43 (.tmp 5) rfl w.heap.size rfl 43 cF (0, 0) _ ?l5 Tryd.underlying43 rfl ?i5 ?_; exact HGF1.out; exact HFI.out) | (refine wpList_load_row rfl 46 (.tmp 6) rfl (w.heap.size + 1) rfl 46 cP (0, 0) _ ?l6 Tryd.underlying46 rfl ?i6 ?_; exact HGP1.out; exact HPI.out) | (go_at_call 22; refine HK1.out.mono ?_; rintro e z2 ⟨rfl, hz⟩; have BZ1 := Lib.hid hz; clear hz))
  have B2 := Lib.hid (bcomp B1.out BZ1.out)
  have HGF2 := Lib.hid ((BZ1.out.block _ (Array.getElem?_eq_some_iff.1 HGF1.out).1).trans HGF1.out)
  have HGP2 := Lib.hid ((BZ1.out.block _ (Array.getElem?_eq_some_iff.1 HGP1.out).1).trans HGP1.out)
  have h2 := leaks_any f q cF cP level _ _ B A z2 (HF.out.keep B2.out) (HP.out.keep B2.out) (HL.out.keep B2.out) (HT.out.keep B2.out) HLV.out (HBB.out.keep B2.out) (HA.out.keep B2.out) HSB.out HSA.out
  rw [HV2.out, HE2.out] at h2
  have HK2 := Lib.hid h2
  clear h2 HV2 HE2 HK1 BZ1 HGF1 HGP1
  go_upto_region 5 with (first | (refine wpList_load_row rfl 43 (.tmp 5) rfl w.heap.size rfl 43 cF (0, 0) _ ?l7 Tryd.underlying43 rfl ?i7 ?_; exact HGF2.out; exact HFI.out) | (refine wpList_load_row rfl 46 (.tmp 6) rfl (w.heap.size + 1) rfl 46 cP (0, 0) _ ?l8 Tryd.underlying46 rfl ?i8 ?_; exact HGP2.out; exact HPI.out) | (go_at_call 22; refine HK2.out.mono ?_; rintro e z3 ⟨rfl, hz⟩; have BZ2 := Lib.hid hz; clear hz))
  have B3 := Lib.hid (bcomp B2.out BZ2.out)
  have HGF3 := Lib.hid ((BZ2.out.block _ (Array.getElem?_eq_some_iff.1 HGF2.out).1).trans HGF2.out)
  have HGP3 := Lib.hid ((BZ2.out.block _ (Array.getElem?_eq_some_iff.1 HGP2.out).1).trans HGP2.out)
  have h3 := leaks_any f q cF cP level _ _ A A z3 (HF.out.keep B3.out) (HP.out.keep B3.out) (HL.out.keep B3.out) (HT.out.keep B3.out) HLV.out (HA.out.keep B3.out) (HA.out.keep B3.out) HSA.out HSA.out
  rw [leaksB_self HCI.out, HE3.out] at h3
  have HK3 := Lib.hid h3
  clear h3 HE3 HK2 BZ2 HGF2 HGP2
  go_upto_region 6 with (first | (refine wpList_load_row rfl 43 (.tmp 5) rfl w.heap.size rfl 43 cF (0, 0) _ ?l9 Tryd.underlying43 rfl ?i9 ?_; exact HGF3.out; exact HFI.out) | (refine wpList_load_row rfl 46 (.tmp 6) rfl (w.heap.size + 1) rfl 46 cP (0, 0) _ ?l10 Tryd.underlying46 rfl ?i10 ?_; exact HGP3.out; exact HPI.out) | (go_at_call 22; refine HK3.out.mono ?_; rintro e z4 ⟨rfl, hz⟩; have BZ3 := Lib.hid hz; clear hz))
  have B4 := Lib.hid (bcomp B3.out BZ3.out)
  have HAW := Lib.hid (awake_any z4 (HL.out.keep B4.out) (HT.out.keep B4.out))
  have hEE : (E == E) = true := by simp
  clear HK3 BZ3 HGF3 HGP3 HF HP HA HBB HL HT
  by_cases h : E = E3
  · subst h
    cases V <;> (go_wp2_with (go_at_call 16; refine HAW.out.mono ?_; rintro e z5 ⟨rfl, hz⟩; have B5 := Lib.hid (bcomp B4.out hz); clear hz)
                 go_ret
                 exact ⟨rfl, B5.out⟩)
  · obtain rfl : E = 3 := by rcases HOR.out with h2 | h2; exact absurd h2 h; exact h2
    have hE4 : ((3 : Int) == E3) = false := by simpa using h
    cases V <;> (go_wp2_with (go_at_call 16; refine HAW.out.mono ?_; rintro e z5 ⟨rfl, hz⟩; have B5 := Lib.hid (bcomp B4.out hz); clear hz)
                 go_ret
                 exact ⟨rfl, B5.out⟩)
end Go.Proofs.YtkjkpddajjmloaaDoor
