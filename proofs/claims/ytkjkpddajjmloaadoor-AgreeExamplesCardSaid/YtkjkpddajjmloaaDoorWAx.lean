/- The walk of AgreeExamples. Condition: the tables hold what they are laid with. -/
import Derived.Test.YtkjkpddajjmloaaDoorWHd
import Derived.Test.YtkjkpddajjmloaaDoorWSh
set_option linter.unnecessarySimpa false
set_option linter.unusedVariables false
set_option linter.unusedSimpArgs false
namespace Go.Proofs.YtkjkpddajjmloaaDoor
open Go.ChangeShapes Go.WideShapes Go.ChangeAt Go.RowKit
def zeroD : FlatD := ⟨0, 0, [], [], [], []⟩
theorem zero_flat (w : World) : FlatC w zeroD #[.int .i64 0, .int .i64 0, .slice none 0 0, .slice none 0 0, .slice none 0 0, .slice none 0 0] := ⟨_, _, _, _, rfl, nilRow _ _ _, nilRow _ _ _, nilRow _ _ _, nilRow _ _ _, ⟨by decide, by decide⟩, ⟨by decide, by decide⟩⟩
theorem xm1 : leaksB (e1D 1) p1D 1 [[], [3]] [[], [3]] = false := by kernel_rfl
theorem xm1e : leaksErr (e1D 1) p1D 1 [[], [3]] [[], [3]] = 0 := by kernel_rfl
theorem xm2 : leaksB shownD p1D 0 [[], [0]] [[], [2]] = true := by kernel_rfl
theorem xm2e : leaksErr shownD p1D 0 [[], [0]] [[], [2]] = 0 := by kernel_rfl
theorem xm3 : leaksB shownD p1D 0 [[], [3]] [[], [3]] = false := by kernel_rfl
theorem xm3e : leaksErr shownD p1D 0 [[], [3]] [[], [3]] = 0 := by kernel_rfl
theorem xm4 : holdsB (e1D 1) p1D [[[], [3]], [[], [0]], [[], [2]]] = true := by kernel_rfl
theorem xm4e : holdsErr (e1D 1) p1D [[[], [3]], [[], [0]], [[], [2]]] = 0 := by kernel_rfl
theorem xm5 : holdsB (e1D 0) p1D [[[], [3]], [[], [0]], [[], [2]]] = false := by kernel_rfl
theorem xm5e : holdsErr (e1D 0) p1D [[[], [3]], [[], [0]], [[], [2]]] = 0 := by kernel_rfl
theorem xm6 : holdsB (e1D 1) { p1D with steps := 2 } [[[], [3]], [[], [0]], [[], [2]]] = false := by kernel_rfl
theorem xm6e : holdsErr (e1D 1) { p1D with steps := 2 } [[[], [3]], [[], [0]], [[], [2]]] = 0 := by kernel_rfl
theorem xm7 : holdsB (e1D 1) { p1D with steps := 2, sens := false } [[[], [3]], [[], [0]], [[], [2]]] = true := by kernel_rfl
theorem xm7e : holdsErr (e1D 1) { p1D with steps := 2, sens := false } [[[], [3]], [[], [0]], [[], [2]]] = 0 := by kernel_rfl
theorem xm8 : leaksB (e1D 1) { p1D with steps := 2, sens := false, chans := p1D.chans.take 1 } 0 [[], [3]] [[], [0]] = false := by kernel_rfl
theorem xm8e : leaksErr (e1D 1) { p1D with steps := 2, sens := false, chans := p1D.chans.take 1 } 0 [[], [3]] [[], [0]] = 6 := by kernel_rfl
theorem xm9 : leaksB (e1D 1) p1D 2 [[], [3]] [[], [0]] = false := by kernel_rfl
theorem xm9e : leaksErr (e1D 1) p1D 2 [[], [3]] [[], [0]] = 3 := by kernel_rfl
theorem xm10 : leaksB zeroD p1D 0 [[], [3]] [[], [0]] = false := by kernel_rfl
theorem xm10e : leaksErr zeroD p1D 0 [[], [3]] [[], [0]] = 2 := by kernel_rfl
theorem xmc : 1 ≤ p1D.chans.length := by decide
theorem fits_twoA {a : Int} : ∀ l ∈ ([[], [a]] : List (List Int)), l.length ≤ 1000000 := fun l hl => by simp only [List.mem_cons, List.not_mem_nil, or_false] at hl; rcases hl with rfl | rfl <;> simp
theorem runs_three {w : World} {g : Nat} {u v x : Value} {A B C : List (List Int)} (h : w.heap[g]? = some (.cells #[u, v, x] 47 (0, 0))) (ha : RdLists none w u A) (hb : RdLists none w v B) (hc : RdLists none w x C) : RdRuns w (.slice (some ⟨g, 0, none⟩) 3 3) [A, B, C] := by
  refine ⟨_, 3, rfl, fun i X hX => ?_⟩
  match i, hX with
  | 0, hX => simp only [List.getElem?_cons_zero, Option.some.injEq] at hX; subst hX; exact ⟨_, row_of h 0 _ rfl, ha⟩
  | 1, hX => simp only [List.getElem?_cons_zero, List.getElem?_cons_succ, Option.some.injEq] at hX; subst hX; exact ⟨_, row_of h 1 _ rfl, hb⟩
  | 2, hX => simp only [List.getElem?_cons_zero, List.getElem?_cons_succ, Option.some.injEq] at hX; subst hX; exact ⟨_, row_of h 2 _ rfl, hc⟩
  | i + 3, hX => simp at hX
set_option maxRecDepth 100000 in
set_option maxHeartbeats 800000 in
theorem prem_nil (w : World) : Calls Tryd.prog 17 #[.pointer none, .int .i64 0, .slice none 0 0, .bool true, .agg #[.int .u8 0, .int .i64 0, .slice none 0 0, .slice none 0 0, .slice none 0 0, .slice none 0 0], .agg #[.int .u8 0, .int .i64 0, .slice none 0 0, .slice none 0 0, .slice none 0 0, .slice none 0 0]] w fun e w' => e = .returned (.tuple #[.bool false, .int .i64 1]) ∧ Below w.heap.size w w' := by
  have hal := ((((Below.refl w.heap.size w).alloc (Nat.le_refl _) (.cells #[.int .u8 0, .int .i64 0, .slice none 0 0, .slice none 0 0, .slice none 0 0, .slice none 0 0] 27)).alloc (by simp) (.cells #[.int .u8 0, .int .i64 0, .slice none 0 0, .slice none 0 0, .slice none 0 0, .slice none 0 0] 27)).alloc (by simp; omega) (.cells #[.pointer none, .int .i64 0, .slice none 0 0] 79))
  have HB := Lib.hid hal
  clear hal
  go_enter Tryd.func17, Tryd.ntmps17
  go_wp2_with fail
  go_ret2
  exact ⟨rfl, HB.out⟩
set_option maxRecDepth 100000 in
set_option maxHeartbeats 800000 in
theorem same_nil (w : World) : Calls Tryd.prog 19 #[.pointer none, .int .i64 0, .slice none 0 0, .bool true, .agg #[.int .u8 0, .int .i64 0, .slice none 0 0, .slice none 0 0, .slice none 0 0, .slice none 0 0], .agg #[.int .u8 0, .int .i64 0, .slice none 0 0, .slice none 0 0, .slice none 0 0, .slice none 0 0]] w fun e w' => e = .returned (.tuple #[.bool false, .int .i64 1]) ∧ Below w.heap.size w w' := by
  have hal := ((((Below.refl w.heap.size w).alloc (Nat.le_refl _) (.cells #[.int .u8 0, .int .i64 0, .slice none 0 0, .slice none 0 0, .slice none 0 0, .slice none 0 0] 27)).alloc (by simp) (.cells #[.int .u8 0, .int .i64 0, .slice none 0 0, .slice none 0 0, .slice none 0 0, .slice none 0 0] 27)).alloc (by simp; omega) (.cells #[.pointer none, .int .i64 0, .slice none 0 0] 79))
  have HB := Lib.hid hal
  clear hal
  go_enter Tryd.func19, Tryd.ntmps19
  go_wp2_with fail
  go_ret2
  exact ⟨rfl, HB.out⟩
set_option maxRecDepth 100000 in
set_option maxHeartbeats 12800000 in
theorem aexamples_walk (w : World) (hL : Laid w) (hT : BitsAt w) : Calls Tryd.prog 7 #[] w fun e w' => e = .returned (.bool true) ∧ Below w.heap.size w w' := by
  have h1 := xm1
  have h1e := xm1e
  have h2 := xm2
  have h2e := xm2e
  have h3 := xm3
  have h3e := xm3e
  have h4 := xm4
  have h4e := xm4e
  have h5 := xm5
  have h5e := xm5e
  have h6 := xm6
  have h6e := xm6e
  have h7 := xm7
  have h7e := xm7e
  have h8 := xm8
  have h8e := xm8e
  have h9 := xm9
  have h9e := xm9e
  have h10 := xm10
  have h10e := xm10e
  have hqc := xmc
  have he0 := fun w => e1_any 0 ⟨by decide, by decide⟩ w
  have he1 := fun w => e1_any 1 ⟨by decide, by decide⟩ w
  have hp7 := p1_any
  have ha7 := a_any
  have hb7 := b_any
  have hc7 := c_any
  have hs7 := shown_any
  have hsA := fits_twoA (a := 3)
  have hsB := fits_twoA (a := 0)
  have hsC := fits_twoA (a := 2)
  generalize e1D 0 = F0 at *
  generalize e1D 1 = F1 at *
  generalize shownD = G at *
  generalize p1D = q at *
  generalize ([[], [3]] : List (List Int)) = LA at *
  generalize ([[], [0]] : List (List Int)) = LB at *
  generalize ([[], [2]] : List (List Int)) = LC at *
  have hs3 : ∀ A ∈ [LA, LB, LC], ∀ l ∈ A, l.length ≤ 1000000 := by
    intro A hA
    simp only [List.mem_cons, List.not_mem_nil, or_false] at hA
    rcases hA with rfl | rfl | rfl
    · exact hsA
    · exact hsB
    · exact hsC
  have X1 := Lib.hid h1
  have X1e := Lib.hid h1e
  have X2 := Lib.hid h2
  have X2e := Lib.hid h2e
  have X3 := Lib.hid h3
  have X3e := Lib.hid h3e
  have X4 := Lib.hid h4
  have X4e := Lib.hid h4e
  have X5 := Lib.hid h5
  have X5e := Lib.hid h5e
  have X6 := Lib.hid h6
  have X6e := Lib.hid h6e
  have X7 := Lib.hid h7
  have X7e := Lib.hid h7e
  have X8 := Lib.hid h8
  have X8e := Lib.hid h8e
  have X9 := Lib.hid h9
  have X9e := Lib.hid h9e
  have X10 := Lib.hid h10
  have X10e := Lib.hid h10e
  have HSA := Lib.hid hsA
  have HSB := Lib.hid hsB
  have HSC := Lib.hid hsC
  have HS3 := Lib.hid hs3
  have HQC := Lib.hid hqc
  have HE0 := Lib.hid he0
  have HE1 := Lib.hid he1
  have HP7 := Lib.hid hp7
  have HA7 := Lib.hid ha7
  have HB7 := Lib.hid hb7
  have HC7 := Lib.hid hc7
  have HS7 := Lib.hid hs7
  have HL := Lib.hid hL
  have HT := Lib.hid hT
  have hb0 : ((0 : Int) != 0) = false := rfl
  clear h1 h1e h2 h2e h3 h3e h4 h4e h5 h5e h6 h6e h7 h7e h8 h8e h9 h9e h10 h10e hqc he0 he1 hp7 ha7 hb7 hc7 hs7 hsA hsB hsC hs3 hL hT
  have BW1 := Lib.hid (Below.refl w.heap.size w)
  go_enter Tryd.func7, Tryd.ntmps7
  go_upto_region 1 with fail
  go_upto_region 2 with (first | (go_at_call 24; refine (HE1.out _).mono ?_; rintro e a1x1 ⟨c1x1, rfl, hf, hz⟩; have R1x1 := Lib.hid hf; have B1x1 := Lib.hid hz; clear hf hz) | (go_at_call 25; refine (HP7.out _).mono ?_; rintro e a1x2 ⟨c1x2, rfl, hf, hz⟩; have R1x2 := Lib.hid hf; have B1x2 := Lib.hid hz; clear hf hz) | (go_at_call 26; first | (have hp1x4 := B1x3.out; clear hp1x4; refine (HA7.out _).mono ?_; rintro e a1x4 ⟨vv, rfl, hf, hz⟩; obtain ⟨p1x4, k1x4, rfl⟩ := hf.is; have R1x4 := Lib.hid hf; have B1x4 := Lib.hid hz; clear hf hz; have hk := leaks_any F1 q _ _ 1 _ _ LA LA a1x4 (R1x1.out.keep (bcomp B1x2.out (bcomp B1x3.out B1x4.out))) (R1x2.out.keep (bcomp B1x3.out B1x4.out)) (HL.out.keep (bcomp BW1.out (bcomp B1x1.out (bcomp B1x2.out (bcomp B1x3.out B1x4.out))))) (HT.out.keep (bcomp BW1.out (bcomp B1x1.out (bcomp B1x2.out (bcomp B1x3.out B1x4.out))))) ⟨by decide, by decide⟩ (R1x3.out.keep B1x4.out) R1x4.out HSA.out HSA.out; rw [X1.out, X1e.out] at hk; have HK1 := Lib.hid hk; clear hk) | (have hp1x3 := B1x2.out; clear hp1x3; refine (HA7.out _).mono ?_; rintro e a1x3 ⟨vv, rfl, hf, hz⟩; obtain ⟨p1x3, k1x3, rfl⟩ := hf.is; have R1x3 := Lib.hid hf; have B1x3 := Lib.hid hz; clear hf hz)) | (go_at_call 22; refine HK1.out.mono ?_; rintro e b1 ⟨rfl, hz⟩; have BW2 := Lib.hid (bcomp BW1.out (bcomp B1x1.out (bcomp B1x2.out (bcomp B1x3.out (bcomp B1x4.out hz))))); clear hz))
  clear HK1 BW1 R1x1 B1x1 R1x2 B1x2 R1x3 B1x3 R1x4 B1x4
  go_upto_region 3 with (first | (go_at_call 27; refine (HS7.out _).mono ?_; rintro e a2x1 ⟨c2x1, rfl, hf, hz⟩; have R2x1 := Lib.hid hf; have B2x1 := Lib.hid hz; clear hf hz) | (go_at_call 25; refine (HP7.out _).mono ?_; rintro e a2x2 ⟨c2x2, rfl, hf, hz⟩; have R2x2 := Lib.hid hf; have B2x2 := Lib.hid hz; clear hf hz) | (go_at_call 28; refine (HB7.out _).mono ?_; rintro e a2x3 ⟨vv, rfl, hf, hz⟩; obtain ⟨p2x3, k2x3, rfl⟩ := hf.is; have R2x3 := Lib.hid hf; have B2x3 := Lib.hid hz; clear hf hz) | (go_at_call 29; refine (HC7.out _).mono ?_; rintro e a2x4 ⟨vv, rfl, hf, hz⟩; obtain ⟨p2x4, k2x4, rfl⟩ := hf.is; have R2x4 := Lib.hid hf; have B2x4 := Lib.hid hz; clear hf hz; have hk := leaks_any G q _ _ 0 _ _ LB LC a2x4 (R2x1.out.keep (bcomp B2x2.out (bcomp B2x3.out B2x4.out))) (R2x2.out.keep (bcomp B2x3.out B2x4.out)) (HL.out.keep (bcomp BW2.out (bcomp B2x1.out (bcomp B2x2.out (bcomp B2x3.out B2x4.out))))) (HT.out.keep (bcomp BW2.out (bcomp B2x1.out (bcomp B2x2.out (bcomp B2x3.out B2x4.out))))) ⟨by decide, by decide⟩ (R2x3.out.keep B2x4.out) R2x4.out HSB.out HSC.out; rw [X2.out, X2e.out] at hk; have HK2 := Lib.hid hk; clear hk) | (go_at_call 22; refine HK2.out.mono ?_; rintro e b2 ⟨rfl, hz⟩; have BW3 := Lib.hid (bcomp BW2.out (bcomp B2x1.out (bcomp B2x2.out (bcomp B2x3.out (bcomp B2x4.out hz))))); clear hz))
  clear HK2 BW2 R2x1 B2x1 R2x2 B2x2 R2x3 B2x3 R2x4 B2x4
  go_upto_region 4 with (first | (go_at_call 27; refine (HS7.out _).mono ?_; rintro e a3x1 ⟨c3x1, rfl, hf, hz⟩; have R3x1 := Lib.hid hf; have B3x1 := Lib.hid hz; clear hf hz) | (go_at_call 25; refine (HP7.out _).mono ?_; rintro e a3x2 ⟨c3x2, rfl, hf, hz⟩; have R3x2 := Lib.hid hf; have B3x2 := Lib.hid hz; clear hf hz) | (go_at_call 26; first | (have hp3x4 := B3x3.out; clear hp3x4; refine (HA7.out _).mono ?_; rintro e a3x4 ⟨vv, rfl, hf, hz⟩; obtain ⟨p3x4, k3x4, rfl⟩ := hf.is; have R3x4 := Lib.hid hf; have B3x4 := Lib.hid hz; clear hf hz; have hk := leaks_any G q _ _ 0 _ _ LA LA a3x4 (R3x1.out.keep (bcomp B3x2.out (bcomp B3x3.out B3x4.out))) (R3x2.out.keep (bcomp B3x3.out B3x4.out)) (HL.out.keep (bcomp BW3.out (bcomp B3x1.out (bcomp B3x2.out (bcomp B3x3.out B3x4.out))))) (HT.out.keep (bcomp BW3.out (bcomp B3x1.out (bcomp B3x2.out (bcomp B3x3.out B3x4.out))))) ⟨by decide, by decide⟩ (R3x3.out.keep B3x4.out) R3x4.out HSA.out HSA.out; rw [X3.out, X3e.out] at hk; have HK3 := Lib.hid hk; clear hk) | (have hp3x3 := B3x2.out; clear hp3x3; refine (HA7.out _).mono ?_; rintro e a3x3 ⟨vv, rfl, hf, hz⟩; obtain ⟨p3x3, k3x3, rfl⟩ := hf.is; have R3x3 := Lib.hid hf; have B3x3 := Lib.hid hz; clear hf hz)) | (go_at_call 22; refine HK3.out.mono ?_; rintro e b3 ⟨rfl, hz⟩; have BW4 := Lib.hid (bcomp BW3.out (bcomp B3x1.out (bcomp B3x2.out (bcomp B3x3.out (bcomp B3x4.out hz))))); clear hz))
  clear HK3 BW3 R3x1 B3x1 R3x2 B3x2 R3x3 B3x3 R3x4 B3x4
  go_upto_region 5 with (first | (go_at_call 24; refine (HE1.out _).mono ?_; rintro e a4x1 ⟨c4x1, rfl, hf, hz⟩; have R4x1 := Lib.hid hf; have B4x1 := Lib.hid hz; clear hf hz) | (go_at_call 25; refine (HP7.out _).mono ?_; rintro e a4x2 ⟨c4x2, rfl, hf, hz⟩; have R4x2 := Lib.hid hf; have B4x2 := Lib.hid hz; clear hf hz) | (go_at_call 26; refine (HA7.out _).mono ?_; rintro e a4x3 ⟨vv, rfl, hf, hz⟩; obtain ⟨p4x3, k4x3, rfl⟩ := hf.is; have R4x3 := Lib.hid hf; have B4x3 := Lib.hid hz; clear hf hz) | (go_at_call 28; refine (HB7.out _).mono ?_; rintro e a4x4 ⟨vv, rfl, hf, hz⟩; obtain ⟨p4x4, k4x4, rfl⟩ := hf.is; have R4x4 := Lib.hid hf; have B4x4 := Lib.hid hz; clear hf hz) | (go_at_call 29; refine (HC7.out _).mono ?_; rintro e a4x5 ⟨vv, rfl, hf, hz⟩; obtain ⟨p4x5, k4x5, rfl⟩ := hf.is; have R4x5 := Lib.hid hf; have B4x5 := Lib.hid hz; clear hf hz; have hal := ((Below.refl a4x5.heap.size a4x5).alloc (Nat.le_refl _) (.cells #[.slice p4x3 LA.length k4x3, .slice p4x4 LB.length k4x4, .slice p4x5 LC.length k4x5] 47)); have hk := holds_any F1 q _ _ _ [LA, LB, LC] _ ((R4x1.out.keep (bcomp B4x2.out (bcomp B4x3.out (bcomp B4x4.out B4x5.out)))).keep hal) ((R4x2.out.keep (bcomp B4x3.out (bcomp B4x4.out B4x5.out))).keep hal) (HL.out.keep (bcomp (bcomp BW4.out (bcomp B4x1.out (bcomp B4x2.out (bcomp B4x3.out (bcomp B4x4.out B4x5.out))))) hal)) (HT.out.keep (bcomp (bcomp BW4.out (bcomp B4x1.out (bcomp B4x2.out (bcomp B4x3.out (bcomp B4x4.out B4x5.out))))) hal)) (runs_three (heap_alloc_new a4x5 (.cells #[.slice p4x3 LA.length k4x3, .slice p4x4 LB.length k4x4, .slice p4x5 LC.length k4x5] 47)) ((R4x3.out.keep (bcomp B4x4.out B4x5.out)).keep hal) ((R4x4.out.keep B4x5.out).keep hal) (R4x5.out.keep hal)) (by simp) HS3.out; rw [X4.out, X4e.out] at hk; have HK4 := Lib.hid hk; have HAL4 := Lib.hid hal; clear hk hal) | (go_at_call 30; refine HK4.out.mono ?_; rintro e b4 ⟨rfl, hz⟩; have BW5 := Lib.hid (bcomp BW4.out (bcomp B4x1.out (bcomp B4x2.out (bcomp B4x3.out (bcomp B4x4.out (bcomp B4x5.out (bcomp HAL4.out hz))))))); clear hz))
  clear HK4 BW4 R4x1 B4x1 R4x2 B4x2 R4x3 B4x3 R4x4 B4x4 R4x5 B4x5 HAL4
  go_upto_region 6 with (first | (go_at_call 24; refine (HE0.out _).mono ?_; rintro e a5x1 ⟨c5x1, rfl, hf, hz⟩; have R5x1 := Lib.hid hf; have B5x1 := Lib.hid hz; clear hf hz) | (go_at_call 25; refine (HP7.out _).mono ?_; rintro e a5x2 ⟨c5x2, rfl, hf, hz⟩; have R5x2 := Lib.hid hf; have B5x2 := Lib.hid hz; clear hf hz) | (go_at_call 26; refine (HA7.out _).mono ?_; rintro e a5x3 ⟨vv, rfl, hf, hz⟩; obtain ⟨p5x3, k5x3, rfl⟩ := hf.is; have R5x3 := Lib.hid hf; have B5x3 := Lib.hid hz; clear hf hz) | (go_at_call 28; refine (HB7.out _).mono ?_; rintro e a5x4 ⟨vv, rfl, hf, hz⟩; obtain ⟨p5x4, k5x4, rfl⟩ := hf.is; have R5x4 := Lib.hid hf; have B5x4 := Lib.hid hz; clear hf hz) | (go_at_call 29; refine (HC7.out _).mono ?_; rintro e a5x5 ⟨vv, rfl, hf, hz⟩; obtain ⟨p5x5, k5x5, rfl⟩ := hf.is; have R5x5 := Lib.hid hf; have B5x5 := Lib.hid hz; clear hf hz; have hal := ((Below.refl a5x5.heap.size a5x5).alloc (Nat.le_refl _) (.cells #[.slice p5x3 LA.length k5x3, .slice p5x4 LB.length k5x4, .slice p5x5 LC.length k5x5] 47)); have hk := holds_any F0 q _ _ _ [LA, LB, LC] _ ((R5x1.out.keep (bcomp B5x2.out (bcomp B5x3.out (bcomp B5x4.out B5x5.out)))).keep hal) ((R5x2.out.keep (bcomp B5x3.out (bcomp B5x4.out B5x5.out))).keep hal) (HL.out.keep (bcomp (bcomp BW5.out (bcomp B5x1.out (bcomp B5x2.out (bcomp B5x3.out (bcomp B5x4.out B5x5.out))))) hal)) (HT.out.keep (bcomp (bcomp BW5.out (bcomp B5x1.out (bcomp B5x2.out (bcomp B5x3.out (bcomp B5x4.out B5x5.out))))) hal)) (runs_three (heap_alloc_new a5x5 (.cells #[.slice p5x3 LA.length k5x3, .slice p5x4 LB.length k5x4, .slice p5x5 LC.length k5x5] 47)) ((R5x3.out.keep (bcomp B5x4.out B5x5.out)).keep hal) ((R5x4.out.keep B5x5.out).keep hal) (R5x5.out.keep hal)) (by simp) HS3.out; rw [X5.out, X5e.out] at hk; have HK5 := Lib.hid hk; have HAL5 := Lib.hid hal; clear hk hal) | (go_at_call 30; refine HK5.out.mono ?_; rintro e b5 ⟨rfl, hz⟩; have BW6 := Lib.hid (bcomp BW5.out (bcomp B5x1.out (bcomp B5x2.out (bcomp B5x3.out (bcomp B5x4.out (bcomp B5x5.out (bcomp HAL5.out hz))))))); clear hz))
  clear HK5 BW5 R5x1 B5x1 R5x2 B5x2 R5x3 B5x3 R5x4 B5x4 R5x5 B5x5 HAL5
  go_upto_region 10 with (go_at_call 25; refine (HP7.out _).mono ?_; rintro e a8 ⟨cP, rfl, ⟨plv, pov, pcv, psv, rfl, hp⟩, hz⟩; obtain ⟨la, lc, rfl⟩ := hp.1.is; obtain ⟨oa, oc, rfl⟩ := hp.2.1.is; obtain ⟨ca, cc, rfl⟩ := hp.2.2.1.is; obtain ⟨sa, sc, rfl⟩ := hp.2.2.2.1.is; have HP := Lib.hid hp; have B8 := Lib.hid hz; clear hp hz)
  try simp only [Act.put]
  have hal := (Below.refl a8.heap.size a8).alloc (Nat.le_refl _) (.cells #[.slice la q.levels.length lc, .slice oa q.order.length oc, .slice ca q.chans.length cc, .slice sa q.sites.length sc, .bool q.sens, .int .i64 2, .int .i64 q.paths, .int .i64 q.nodes, .int .i64 q.confs] 46)
  have HG10 := Lib.hid (heap_alloc_new a8 (.cells #[.slice la q.levels.length lc, .slice oa q.order.length oc, .slice ca q.chans.length cc, .slice sa q.sites.length sc, .bool q.sens, .int .i64 2, .int .i64 q.paths, .int .i64 q.nodes, .int .i64 q.confs] 46))
  have BW10 := Lib.hid (bcomp BW6.out (bcomp B8.out hal))
  have HPQ := Lib.hid (HP.out.keep hal)
  have BA10 := Lib.hid hal
  have hwg : w.heap.size ≤ a8.heap.size := (bcomp BW6.out B8.out).size
  clear hal BW6 B8
  generalize (a8.alloc (.cells #[.slice la q.levels.length lc, .slice oa q.order.length oc, .slice ca q.chans.length cc, .slice sa q.sites.length sc, .bool q.sens, .int .i64 2, .int .i64 q.paths, .int .i64 q.nodes, .int .i64 q.confs] 46)) = W10 at *
  obtain ⟨g, hg⟩ : ∃ g, a8.heap.size = g := ⟨_, rfl⟩
  rw [hg] at HG10 hwg
  try rw [hg]
  have HGA := Lib.hid hg
  clear hg
  have hcc : 1 ≤ cc := by
    obtain ⟨_, _, e, h1, _⟩ := HPQ.out.2.2.1
    simp only [Value.slice.injEq] at e
    obtain ⟨_, _, rfl⟩ := e
    exact Nat.le_trans HQC.out h1.2
  have HPC10 : Hid (PolC W10 { q with steps := 2 } #[.slice la q.levels.length lc, .slice oa q.order.length oc, .slice ca q.chans.length cc, .slice sa q.sites.length sc, .bool q.sens, .int .i64 2, .int .i64 q.paths, .int .i64 q.nodes, .int .i64 q.confs]) := ⟨_, _, _, _, rfl, HPQ.out.1, HPQ.out.2.1, HPQ.out.2.2.1, HPQ.out.2.2.2.1, (show InI64 2 from ⟨by decide, by decide⟩), HPQ.out.2.2.2.2.2⟩
  have HPI10 := Lib.hid HPC10.out.info
  have HDR : Hid (∀ b : Nat, W10.drew.heap[b]? = W10.heap[b]?) := fun _ => rfl
  have HD00 : Hid (Below W10.heap.size W10 W10.drew) := (Below.refl _ _).drew
  have hgl10 : g < W10.heap.size := (Array.getElem?_eq_some_iff.1 HG10.out).1
  refine wp_region_mixS [g] (.one [1] 0 (.one [] 2 (.one [] 3 (.one [] 4 (.one [] 5 (.one [] 6 (.fin [7, 8, 9, 10, 11]))))))) (fun _ => false) (by kernel_rfl) (by kernel_rfl) rfl (by kernel_rfl) (fun _ d _ _ _ h => by cases d <;> exact h) ?_
  generalize W10.drew = d10x0 at *
  have D10x0 : Hid (Below W10.heap.size W10 d10x0) := HD00.out
  have K10x0 : Hid (∀ b ∈ [g], d10x0.heap[b]? = W10.heap[b]?) := fun b _ => HDR.out b
  refine mix_one (by simp only [opsOf, List.filterMap_cons, List.filterMap_nil, List.getElem?_toArray, List.getElem?_cons_succ, List.getElem?_cons_zero]; rfl) ⟨_, keepS_of K10x0.out⟩ ?_
  change wpQuiet _ _ _ _ [_] _
  go_big_quiet_want
  refine quiet_load_row 46 (.tmp 11) rfl g rfl 46 #[.slice la q.levels.length lc, .slice oa q.order.length oc, .slice ca q.chans.length cc, .slice sa q.sites.length sc, .bool q.sens, .int .i64 2, .int .i64 q.paths, .int .i64 q.nodes, .int .i64 q.confs] (0, 0) _ (keepS_row (by simp) HG10.out) Tryd.underlying46 rfl HPI10.out ?_
  simp only [Act.put, List.setIfInBounds_toArray, List.set_cons_succ, List.set_cons_zero, List.getElem_toArray, List.getElem_cons_succ, List.getElem_cons_zero]
  go_big_quiet_on
  refine wpQuiet_nil ?_
  refine mix_step rfl ?_
  go_wp2_with (go_at_call 24; refine (HE1.out _).mono ?_; rintro e d10x1 ⟨c10x1, rfl, hf, hz⟩; have R10x1 := Lib.hid hf; have B10x1 := Lib.hid hz; clear hf hz)
  have D10x1 := Lib.hid (bcomp D10x0.out B10x1.out)
  have K10x1 : Hid (∀ b ∈ [g], d10x1.heap[b]? = W10.heap[b]?) := fun b hb => (B10x1.out.block b (by have h0 := D10x0.out.size; simp only [List.mem_cons, List.not_mem_nil, or_false] at hb; subst hb; omega)).trans (K10x0.out b hb)
  refine ⟨by first | exact ⟨_, keepS_of K10x1.out⟩ | exact fun _ => ⟨_, keepS_of K10x1.out⟩, ?_⟩
  refine mix_now ?_
  refine mix_step rfl ?_
  go_wp2_with (go_at_call 26; refine (HA7.out _).mono ?_; rintro e d10x2 ⟨vv, rfl, hf, hz⟩; obtain ⟨p10x2, k10x2, rfl⟩ := hf.is; have R10x2 := Lib.hid hf; have B10x2 := Lib.hid hz; clear hf hz)
  have D10x2 := Lib.hid (bcomp D10x1.out B10x2.out)
  have K10x2 : Hid (∀ b ∈ [g], d10x2.heap[b]? = W10.heap[b]?) := fun b hb => (B10x2.out.block b (by have h0 := D10x1.out.size; simp only [List.mem_cons, List.not_mem_nil, or_false] at hb; subst hb; omega)).trans (K10x1.out b hb)
  refine ⟨by first | exact ⟨_, keepS_of K10x2.out⟩ | exact fun _ => ⟨_, keepS_of K10x2.out⟩, ?_⟩
  refine mix_now ?_
  refine mix_step rfl ?_
  go_wp2_with (go_at_call 28; refine (HB7.out _).mono ?_; rintro e d10x3 ⟨vv, rfl, hf, hz⟩; obtain ⟨p10x3, k10x3, rfl⟩ := hf.is; have R10x3 := Lib.hid hf; have B10x3 := Lib.hid hz; clear hf hz)
  have D10x3 := Lib.hid (bcomp D10x2.out B10x3.out)
  have K10x3 : Hid (∀ b ∈ [g], d10x3.heap[b]? = W10.heap[b]?) := fun b hb => (B10x3.out.block b (by have h0 := D10x2.out.size; simp only [List.mem_cons, List.not_mem_nil, or_false] at hb; subst hb; omega)).trans (K10x2.out b hb)
  refine ⟨by first | exact ⟨_, keepS_of K10x3.out⟩ | exact fun _ => ⟨_, keepS_of K10x3.out⟩, ?_⟩
  refine mix_now ?_
  refine mix_step rfl ?_
  go_wp2_with (go_at_call 29; refine (HC7.out _).mono ?_; rintro e d10x4 ⟨vv, rfl, hf, hz⟩; obtain ⟨p10x4, k10x4, rfl⟩ := hf.is; have R10x4 := Lib.hid hf; have B10x4 := Lib.hid hz; clear hf hz)
  have D10x4 := Lib.hid (bcomp D10x3.out B10x4.out)
  have K10x4 : Hid (∀ b ∈ [g], d10x4.heap[b]? = W10.heap[b]?) := fun b hb => (B10x4.out.block b (by have h0 := D10x3.out.size; simp only [List.mem_cons, List.not_mem_nil, or_false] at hb; subst hb; omega)).trans (K10x3.out b hb)
  refine ⟨by first | exact ⟨_, keepS_of K10x4.out⟩ | exact fun _ => ⟨_, keepS_of K10x4.out⟩, ?_⟩
  refine mix_now ?_
  refine mix_step rfl ?_
  go_wp2_with fail
  have hz : Below d10x4.heap.size d10x4 (d10x4.alloc (.cells #[.slice p10x2 LA.length k10x2, .slice p10x3 LB.length k10x3, .slice p10x4 LC.length k10x4] 47)) := (Below.refl _ _).alloc (Nat.le_refl _) _
  have B10x5 := Lib.hid hz
  have HR10 := Lib.hid (heap_alloc_new d10x4 (.cells #[.slice p10x2 LA.length k10x2, .slice p10x3 LB.length k10x3, .slice p10x4 LC.length k10x4] 47))
  clear hz
  obtain ⟨gr10, hgr⟩ : ∃ gr, d10x4.heap.size = gr := ⟨_, rfl⟩
  rw [hgr] at HR10
  try rw [hgr]
  clear hgr
  generalize d10x4.alloc (.cells #[.slice p10x2 LA.length k10x2, .slice p10x3 LB.length k10x3, .slice p10x4 LC.length k10x4] 47) = d10x5 at *
  have D10x5 := Lib.hid (bcomp D10x4.out B10x5.out)
  have K10x5 : Hid (∀ b ∈ [g], d10x5.heap[b]? = W10.heap[b]?) := fun b hb => (B10x5.out.block b (by have h0 := D10x4.out.size; simp only [List.mem_cons, List.not_mem_nil, or_false] at hb; subst hb; omega)).trans (K10x4.out b hb)
  refine ⟨by first | exact ⟨_, keepS_of K10x5.out⟩ | exact fun _ => ⟨_, keepS_of K10x5.out⟩, ?_⟩
  refine mix_now ?_
  have hk := holds_any F1 { q with steps := 2 } _ _ _ [LA, LB, LC] d10x5 (R10x1.out.keep (bcomp B10x2.out (bcomp B10x3.out (bcomp B10x4.out B10x5.out)))) (HPC10.out.keep D10x5.out) (HL.out.keep (bcomp BW10.out D10x5.out)) (HT.out.keep (bcomp BW10.out D10x5.out)) (runs_three HR10.out (R10x2.out.keep (bcomp B10x3.out (bcomp B10x4.out B10x5.out))) (R10x3.out.keep (bcomp B10x4.out B10x5.out)) (R10x4.out.keep B10x5.out)) (by simp) HS3.out
  rw [X6.out, X6e.out] at hk
  have HK10 := Lib.hid hk
  clear hk
  refine mix_step rfl ?_
  go_wp2_with (go_at_call 30; refine HK10.out.mono ?_; rintro e d10x6 ⟨rfl, hz⟩; have B10x6 := Lib.hid hz; clear hz)
  have D10x6 := Lib.hid (bcomp D10x5.out B10x6.out)
  have K10x6 : Hid (∀ b ∈ [g], d10x6.heap[b]? = W10.heap[b]?) := fun b hb => (B10x6.out.block b (by have h0 := D10x5.out.size; simp only [List.mem_cons, List.not_mem_nil, or_false] at hb; subst hb; omega)).trans (K10x5.out b hb)
  refine ⟨by first | exact ⟨_, keepS_of K10x6.out⟩ | exact fun _ => ⟨_, keepS_of K10x6.out⟩, ?_⟩
  refine mix_fin (by simp only [opsOf, List.filterMap_cons, List.filterMap_nil, List.getElem?_toArray, List.getElem?_cons_succ, List.getElem?_cons_zero]; rfl) ⟨_, keepS_of K10x6.out⟩ ?_
  change wpQuiet _ _ _ _ [_, _, _, _, _] _
  (repeat (go_big_quiet_step (fail)))
  refine wpQuiet_nil ?_
  have BW10' := Lib.hid (bcomp BW10.out D10x6.out)
  have HGE10 := Lib.hid ((D10x6.out.block _ hgl10).trans HG10.out)
  have HDE10 := D10x6
  clear HK10 HDR HD00 D10x0 D10x1 D10x2 D10x3 D10x4 D10x5 D10x6 K10x0 K10x1 K10x2 K10x3 K10x4 K10x5 K10x6 B10x1 B10x2 B10x3 B10x4 B10x5 B10x6 R10x1 R10x2 R10x3 R10x4 hgl10 HR10
  generalize d10x6 = E10 at *
  have x4 := row_of HGE10.out 4 (.bool q.sens) rfl
  have f4 := frozen_of_row E10 g 4 _ _ HGE10.out
  have HG12 : Hid ((E10.setCell ⟨g, 4, none⟩ (.bool false)).heap[g]? = some (.cells #[.slice la q.levels.length lc, .slice oa q.order.length oc, .slice ca q.chans.length cc, .slice sa q.sites.length sc, .bool false, .int .i64 2, .int .i64 q.paths, .int .i64 q.nodes, .int .i64 q.confs] 46 (0, 0))) := by
    show _ = _
    rw [heap_setCell_same _ _ _ _ _ _ HGE10.out]
    rfl
  have BA12 : Hid (Below a8.heap.size a8 (E10.setCell ⟨g, 4, none⟩ (.bool false))) := (bcomp BA10.out HDE10.out).setCell (by have := HGA.out; show a8.heap.size ≤ g; omega) _
  have BW12 : Hid (Below w.heap.size w (E10.setCell ⟨g, 4, none⟩ (.bool false))) := BW10'.out.setCell (by show w.heap.size ≤ g; exact hwg) _
  go_upto_region 12 with fail
  clear x4 f4 HGE10 HDE10 BW10' BW10 BA10 HPC10 HPI10 HG10 HPQ
  generalize E10.setCell ⟨g, 4, none⟩ (.bool false) = W12 at *
  have HPQ12 := Lib.hid (HP.out.keep BA12.out)
  have HPC12 : Hid (PolC W12 { q with steps := 2, sens := false } #[.slice la q.levels.length lc, .slice oa q.order.length oc, .slice ca q.chans.length cc, .slice sa q.sites.length sc, .bool false, .int .i64 2, .int .i64 q.paths, .int .i64 q.nodes, .int .i64 q.confs]) := ⟨_, _, _, _, rfl, HPQ12.out.1, HPQ12.out.2.1, HPQ12.out.2.2.1, HPQ12.out.2.2.2.1, (show InI64 2 from ⟨by decide, by decide⟩), HPQ12.out.2.2.2.2.2⟩
  have HPI12 := Lib.hid HPC12.out.info
  have HDR : Hid (∀ b : Nat, W12.drew.heap[b]? = W12.heap[b]?) := fun _ => rfl
  have HD00 : Hid (Below W12.heap.size W12 W12.drew) := (Below.refl _ _).drew
  have hgl12 : g < W12.heap.size := (Array.getElem?_eq_some_iff.1 HG12.out).1
  refine wp_region_mixS [g] (.one [1] 0 (.one [] 2 (.one [] 3 (.one [] 4 (.one [] 5 (.one [] 6 (.fin [7, 8, 9, 10, 11]))))))) (fun _ => false) (by kernel_rfl) (by kernel_rfl) rfl (by kernel_rfl) (fun _ d _ _ _ h => by cases d <;> exact h) ?_
  generalize W12.drew = d12x0 at *
  have D12x0 : Hid (Below W12.heap.size W12 d12x0) := HD00.out
  have K12x0 : Hid (∀ b ∈ [g], d12x0.heap[b]? = W12.heap[b]?) := fun b _ => HDR.out b
  refine mix_one (by simp only [opsOf, List.filterMap_cons, List.filterMap_nil, List.getElem?_toArray, List.getElem?_cons_succ, List.getElem?_cons_zero]; rfl) ⟨_, keepS_of K12x0.out⟩ ?_
  change wpQuiet _ _ _ _ [_] _
  go_big_quiet_want
  refine quiet_load_row 46 (.tmp 11) rfl g rfl 46 #[.slice la q.levels.length lc, .slice oa q.order.length oc, .slice ca q.chans.length cc, .slice sa q.sites.length sc, .bool false, .int .i64 2, .int .i64 q.paths, .int .i64 q.nodes, .int .i64 q.confs] (0, 0) _ (keepS_row (by simp) HG12.out) Tryd.underlying46 rfl HPI12.out ?_
  simp only [Act.put, List.setIfInBounds_toArray, List.set_cons_succ, List.set_cons_zero, List.getElem_toArray, List.getElem_cons_succ, List.getElem_cons_zero]
  go_big_quiet_on
  refine wpQuiet_nil ?_
  refine mix_step rfl ?_
  go_wp2_with (go_at_call 24; refine (HE1.out _).mono ?_; rintro e d12x1 ⟨c12x1, rfl, hf, hz⟩; have R12x1 := Lib.hid hf; have B12x1 := Lib.hid hz; clear hf hz)
  have D12x1 := Lib.hid (bcomp D12x0.out B12x1.out)
  have K12x1 : Hid (∀ b ∈ [g], d12x1.heap[b]? = W12.heap[b]?) := fun b hb => (B12x1.out.block b (by have h0 := D12x0.out.size; simp only [List.mem_cons, List.not_mem_nil, or_false] at hb; subst hb; omega)).trans (K12x0.out b hb)
  refine ⟨by first | exact ⟨_, keepS_of K12x1.out⟩ | exact fun _ => ⟨_, keepS_of K12x1.out⟩, ?_⟩
  refine mix_now ?_
  refine mix_step rfl ?_
  go_wp2_with (go_at_call 26; refine (HA7.out _).mono ?_; rintro e d12x2 ⟨vv, rfl, hf, hz⟩; obtain ⟨p12x2, k12x2, rfl⟩ := hf.is; have R12x2 := Lib.hid hf; have B12x2 := Lib.hid hz; clear hf hz)
  have D12x2 := Lib.hid (bcomp D12x1.out B12x2.out)
  have K12x2 : Hid (∀ b ∈ [g], d12x2.heap[b]? = W12.heap[b]?) := fun b hb => (B12x2.out.block b (by have h0 := D12x1.out.size; simp only [List.mem_cons, List.not_mem_nil, or_false] at hb; subst hb; omega)).trans (K12x1.out b hb)
  refine ⟨by first | exact ⟨_, keepS_of K12x2.out⟩ | exact fun _ => ⟨_, keepS_of K12x2.out⟩, ?_⟩
  refine mix_now ?_
  refine mix_step rfl ?_
  go_wp2_with (go_at_call 28; refine (HB7.out _).mono ?_; rintro e d12x3 ⟨vv, rfl, hf, hz⟩; obtain ⟨p12x3, k12x3, rfl⟩ := hf.is; have R12x3 := Lib.hid hf; have B12x3 := Lib.hid hz; clear hf hz)
  have D12x3 := Lib.hid (bcomp D12x2.out B12x3.out)
  have K12x3 : Hid (∀ b ∈ [g], d12x3.heap[b]? = W12.heap[b]?) := fun b hb => (B12x3.out.block b (by have h0 := D12x2.out.size; simp only [List.mem_cons, List.not_mem_nil, or_false] at hb; subst hb; omega)).trans (K12x2.out b hb)
  refine ⟨by first | exact ⟨_, keepS_of K12x3.out⟩ | exact fun _ => ⟨_, keepS_of K12x3.out⟩, ?_⟩
  refine mix_now ?_
  refine mix_step rfl ?_
  go_wp2_with (go_at_call 29; refine (HC7.out _).mono ?_; rintro e d12x4 ⟨vv, rfl, hf, hz⟩; obtain ⟨p12x4, k12x4, rfl⟩ := hf.is; have R12x4 := Lib.hid hf; have B12x4 := Lib.hid hz; clear hf hz)
  have D12x4 := Lib.hid (bcomp D12x3.out B12x4.out)
  have K12x4 : Hid (∀ b ∈ [g], d12x4.heap[b]? = W12.heap[b]?) := fun b hb => (B12x4.out.block b (by have h0 := D12x3.out.size; simp only [List.mem_cons, List.not_mem_nil, or_false] at hb; subst hb; omega)).trans (K12x3.out b hb)
  refine ⟨by first | exact ⟨_, keepS_of K12x4.out⟩ | exact fun _ => ⟨_, keepS_of K12x4.out⟩, ?_⟩
  refine mix_now ?_
  refine mix_step rfl ?_
  go_wp2_with fail
  have hz : Below d12x4.heap.size d12x4 (d12x4.alloc (.cells #[.slice p12x2 LA.length k12x2, .slice p12x3 LB.length k12x3, .slice p12x4 LC.length k12x4] 47)) := (Below.refl _ _).alloc (Nat.le_refl _) _
  have B12x5 := Lib.hid hz
  have HR12 := Lib.hid (heap_alloc_new d12x4 (.cells #[.slice p12x2 LA.length k12x2, .slice p12x3 LB.length k12x3, .slice p12x4 LC.length k12x4] 47))
  clear hz
  obtain ⟨gr12, hgr⟩ : ∃ gr, d12x4.heap.size = gr := ⟨_, rfl⟩
  rw [hgr] at HR12
  try rw [hgr]
  clear hgr
  generalize d12x4.alloc (.cells #[.slice p12x2 LA.length k12x2, .slice p12x3 LB.length k12x3, .slice p12x4 LC.length k12x4] 47) = d12x5 at *
  have D12x5 := Lib.hid (bcomp D12x4.out B12x5.out)
  have K12x5 : Hid (∀ b ∈ [g], d12x5.heap[b]? = W12.heap[b]?) := fun b hb => (B12x5.out.block b (by have h0 := D12x4.out.size; simp only [List.mem_cons, List.not_mem_nil, or_false] at hb; subst hb; omega)).trans (K12x4.out b hb)
  refine ⟨by first | exact ⟨_, keepS_of K12x5.out⟩ | exact fun _ => ⟨_, keepS_of K12x5.out⟩, ?_⟩
  refine mix_now ?_
  have hk := holds_any F1 { q with steps := 2, sens := false } _ _ _ [LA, LB, LC] d12x5 (R12x1.out.keep (bcomp B12x2.out (bcomp B12x3.out (bcomp B12x4.out B12x5.out)))) (HPC12.out.keep D12x5.out) (HL.out.keep (bcomp BW12.out D12x5.out)) (HT.out.keep (bcomp BW12.out D12x5.out)) (runs_three HR12.out (R12x2.out.keep (bcomp B12x3.out (bcomp B12x4.out B12x5.out))) (R12x3.out.keep (bcomp B12x4.out B12x5.out)) (R12x4.out.keep B12x5.out)) (by simp) HS3.out
  rw [X7.out, X7e.out] at hk
  have HK12 := Lib.hid hk
  clear hk
  refine mix_step rfl ?_
  go_wp2_with (go_at_call 30; refine HK12.out.mono ?_; rintro e d12x6 ⟨rfl, hz⟩; have B12x6 := Lib.hid hz; clear hz)
  have D12x6 := Lib.hid (bcomp D12x5.out B12x6.out)
  have K12x6 : Hid (∀ b ∈ [g], d12x6.heap[b]? = W12.heap[b]?) := fun b hb => (B12x6.out.block b (by have h0 := D12x5.out.size; simp only [List.mem_cons, List.not_mem_nil, or_false] at hb; subst hb; omega)).trans (K12x5.out b hb)
  refine ⟨by first | exact ⟨_, keepS_of K12x6.out⟩ | exact fun _ => ⟨_, keepS_of K12x6.out⟩, ?_⟩
  refine mix_fin (by simp only [opsOf, List.filterMap_cons, List.filterMap_nil, List.getElem?_toArray, List.getElem?_cons_succ, List.getElem?_cons_zero]; rfl) ⟨_, keepS_of K12x6.out⟩ ?_
  change wpQuiet _ _ _ _ [_, _, _, _, _] _
  (repeat (go_big_quiet_step (fail)))
  refine wpQuiet_nil ?_
  have BW12' := Lib.hid (bcomp BW12.out D12x6.out)
  have HGE12 := Lib.hid ((D12x6.out.block _ hgl12).trans HG12.out)
  have HDE12 := D12x6
  clear HK12 HDR HD00 D12x0 D12x1 D12x2 D12x3 D12x4 D12x5 D12x6 K12x0 K12x1 K12x2 K12x3 K12x4 K12x5 K12x6 B12x1 B12x2 B12x3 B12x4 B12x5 B12x6 R12x1 R12x2 R12x3 R12x4 hgl12 HR12
  generalize d12x6 = E12 at *
  have x2 := row_of HGE12.out 2 (.slice ca q.chans.length cc) rfl
  have f2 := frozen_of_row E12 g 2 _ _ HGE12.out
  have HG16 : Hid ((E12.setCell ⟨g, 2, none⟩ (.slice ca 1 cc)).heap[g]? = some (.cells #[.slice la q.levels.length lc, .slice oa q.order.length oc, .slice ca 1 cc, .slice sa q.sites.length sc, .bool false, .int .i64 2, .int .i64 q.paths, .int .i64 q.nodes, .int .i64 q.confs] 46 (0, 0))) := by
    show _ = _
    rw [heap_setCell_same _ _ _ _ _ _ HGE12.out]
    rfl
  have BA16 : Hid (Below a8.heap.size a8 (E12.setCell ⟨g, 2, none⟩ (.slice ca 1 cc))) := (bcomp BA12.out HDE12.out).setCell (by have := HGA.out; show a8.heap.size ≤ g; omega) _
  have BW16 : Hid (Below w.heap.size w (E12.setCell ⟨g, 2, none⟩ (.slice ca 1 cc))) := BW12'.out.setCell (by show w.heap.size ≤ g; exact hwg) _
  have hcc1 : (1 : Int) ≤ (cc : Int) := by omega
  go_upto_region 16 with fail
  clear x2 f2 HGE12 HDE12 BW12' BW12 BA12 HPC12 HPI12 HG12 HPQ12
  generalize E12.setCell ⟨g, 2, none⟩ (.slice ca 1 cc) = W16 at *
  have HPQ16 := Lib.hid (HP.out.keep BA16.out)
  have HPC16 : Hid (PolC W16 { q with steps := 2, sens := false, chans := q.chans.take 1 } #[.slice la q.levels.length lc, .slice oa q.order.length oc, .slice ca 1 cc, .slice sa q.sites.length sc, .bool false, .int .i64 2, .int .i64 q.paths, .int .i64 q.nodes, .int .i64 q.confs]) := ⟨_, _, _, _, rfl, HPQ16.out.1, HPQ16.out.2.1, HPQ16.out.2.2.1.take 1 HQC.out, HPQ16.out.2.2.2.1, (show InI64 2 from ⟨by decide, by decide⟩), HPQ16.out.2.2.2.2.2⟩
  have HPI16 := Lib.hid HPC16.out.info
  have HDR : Hid (∀ b : Nat, W16.drew.heap[b]? = W16.heap[b]?) := fun _ => rfl
  have HD00 : Hid (Below W16.heap.size W16 W16.drew) := (Below.refl _ _).drew
  have hgl16 : g < W16.heap.size := (Array.getElem?_eq_some_iff.1 HG16.out).1
  refine wp_region_mixS [g] (.one [1] 0 (.one [] 2 (.one [] 3 (.one [] 4 (.fin [5, 6, 7, 8]))))) (fun _ => false) (by kernel_rfl) (by kernel_rfl) rfl (by kernel_rfl) (fun _ d _ _ _ h => by cases d <;> exact h) ?_
  generalize W16.drew = d16x0 at *
  have D16x0 : Hid (Below W16.heap.size W16 d16x0) := HD00.out
  have K16x0 : Hid (∀ b ∈ [g], d16x0.heap[b]? = W16.heap[b]?) := fun b _ => HDR.out b
  refine mix_one (by simp only [opsOf, List.filterMap_cons, List.filterMap_nil, List.getElem?_toArray, List.getElem?_cons_succ, List.getElem?_cons_zero]; rfl) ⟨_, keepS_of K16x0.out⟩ ?_
  change wpQuiet _ _ _ _ [_] _
  go_big_quiet_want
  refine quiet_load_row 46 (.tmp 11) rfl g rfl 46 #[.slice la q.levels.length lc, .slice oa q.order.length oc, .slice ca 1 cc, .slice sa q.sites.length sc, .bool false, .int .i64 2, .int .i64 q.paths, .int .i64 q.nodes, .int .i64 q.confs] (0, 0) _ (keepS_row (by simp) HG16.out) Tryd.underlying46 rfl HPI16.out ?_
  simp only [Act.put, List.setIfInBounds_toArray, List.set_cons_succ, List.set_cons_zero, List.getElem_toArray, List.getElem_cons_succ, List.getElem_cons_zero]
  go_big_quiet_on
  refine wpQuiet_nil ?_
  refine mix_step rfl ?_
  go_wp2_with (go_at_call 24; refine (HE1.out _).mono ?_; rintro e d16x1 ⟨c16x1, rfl, hf, hz⟩; have R16x1 := Lib.hid hf; have B16x1 := Lib.hid hz; clear hf hz)
  have D16x1 := Lib.hid (bcomp D16x0.out B16x1.out)
  have K16x1 : Hid (∀ b ∈ [g], d16x1.heap[b]? = W16.heap[b]?) := fun b hb => (B16x1.out.block b (by have h0 := D16x0.out.size; simp only [List.mem_cons, List.not_mem_nil, or_false] at hb; subst hb; omega)).trans (K16x0.out b hb)
  refine ⟨by first | exact ⟨_, keepS_of K16x1.out⟩ | exact fun _ => ⟨_, keepS_of K16x1.out⟩, ?_⟩
  refine mix_now ?_
  refine mix_step rfl ?_
  go_wp2_with (go_at_call 26; refine (HA7.out _).mono ?_; rintro e d16x2 ⟨vv, rfl, hf, hz⟩; obtain ⟨p16x2, k16x2, rfl⟩ := hf.is; have R16x2 := Lib.hid hf; have B16x2 := Lib.hid hz; clear hf hz)
  have D16x2 := Lib.hid (bcomp D16x1.out B16x2.out)
  have K16x2 : Hid (∀ b ∈ [g], d16x2.heap[b]? = W16.heap[b]?) := fun b hb => (B16x2.out.block b (by have h0 := D16x1.out.size; simp only [List.mem_cons, List.not_mem_nil, or_false] at hb; subst hb; omega)).trans (K16x1.out b hb)
  refine ⟨by first | exact ⟨_, keepS_of K16x2.out⟩ | exact fun _ => ⟨_, keepS_of K16x2.out⟩, ?_⟩
  refine mix_now ?_
  refine mix_step rfl ?_
  go_wp2_with (go_at_call 28; refine (HB7.out _).mono ?_; rintro e d16x3 ⟨vv, rfl, hf, hz⟩; obtain ⟨p16x3, k16x3, rfl⟩ := hf.is; have R16x3 := Lib.hid hf; have B16x3 := Lib.hid hz; clear hf hz)
  have D16x3 := Lib.hid (bcomp D16x2.out B16x3.out)
  have K16x3 : Hid (∀ b ∈ [g], d16x3.heap[b]? = W16.heap[b]?) := fun b hb => (B16x3.out.block b (by have h0 := D16x2.out.size; simp only [List.mem_cons, List.not_mem_nil, or_false] at hb; subst hb; omega)).trans (K16x2.out b hb)
  refine ⟨by first | exact ⟨_, keepS_of K16x3.out⟩ | exact fun _ => ⟨_, keepS_of K16x3.out⟩, ?_⟩
  refine mix_now ?_
  have hk := leaks_any F1 { q with steps := 2, sens := false, chans := q.chans.take 1 } _ _ 0 _ _ LA LB d16x3 (R16x1.out.keep (bcomp B16x2.out B16x3.out)) (HPC16.out.keep D16x3.out) (HL.out.keep (bcomp BW16.out D16x3.out)) (HT.out.keep (bcomp BW16.out D16x3.out)) ⟨by decide, by decide⟩ (R16x2.out.keep B16x3.out) R16x3.out HSA.out HSB.out
  rw [X8.out, X8e.out] at hk
  have HK16 := Lib.hid hk
  clear hk
  refine mix_step rfl ?_
  go_wp2_with (go_at_call 22; refine HK16.out.mono ?_; rintro e d16x4 ⟨rfl, hz⟩; have B16x4 := Lib.hid hz; clear hz)
  have D16x4 := Lib.hid (bcomp D16x3.out B16x4.out)
  have K16x4 : Hid (∀ b ∈ [g], d16x4.heap[b]? = W16.heap[b]?) := fun b hb => (B16x4.out.block b (by have h0 := D16x3.out.size; simp only [List.mem_cons, List.not_mem_nil, or_false] at hb; subst hb; omega)).trans (K16x3.out b hb)
  refine ⟨by first | exact ⟨_, keepS_of K16x4.out⟩ | exact fun _ => ⟨_, keepS_of K16x4.out⟩, ?_⟩
  refine mix_fin (by simp only [opsOf, List.filterMap_cons, List.filterMap_nil, List.getElem?_toArray, List.getElem?_cons_succ, List.getElem?_cons_zero]; rfl) ⟨_, keepS_of K16x4.out⟩ ?_
  change wpQuiet _ _ _ _ [_, _, _, _] _
  (repeat (go_big_quiet_step (fail)))
  refine wpQuiet_nil ?_
  have BW16' := Lib.hid (bcomp BW16.out D16x4.out)
  have HGE16 := Lib.hid ((D16x4.out.block _ hgl16).trans HG16.out)
  have HDE16 := D16x4
  clear HK16 HDR HD00 D16x0 D16x1 D16x2 D16x3 D16x4 K16x0 K16x1 K16x2 K16x3 K16x4 B16x1 B16x2 B16x3 B16x4 R16x1 R16x2 R16x3 hgl16
  generalize d16x4 = E16 at *
  have BW17 := BW16'
  clear HGE16 HDE16 BW16' BW16 BA16 HPC16 HPI16 HG16 HPQ16 HP HGA hwg
  go_upto_region 18 with (first | (go_at_call 24; refine (HE1.out _).mono ?_; rintro e a17x1 ⟨c17x1, rfl, hf, hz⟩; have R17x1 := Lib.hid hf; have B17x1 := Lib.hid hz; clear hf hz) | (go_at_call 25; refine (HP7.out _).mono ?_; rintro e a17x2 ⟨c17x2, rfl, hf, hz⟩; have R17x2 := Lib.hid hf; have B17x2 := Lib.hid hz; clear hf hz) | (go_at_call 26; refine (HA7.out _).mono ?_; rintro e a17x3 ⟨vv, rfl, hf, hz⟩; obtain ⟨p17x3, k17x3, rfl⟩ := hf.is; have R17x3 := Lib.hid hf; have B17x3 := Lib.hid hz; clear hf hz) | (go_at_call 28; refine (HB7.out _).mono ?_; rintro e a17x4 ⟨vv, rfl, hf, hz⟩; obtain ⟨p17x4, k17x4, rfl⟩ := hf.is; have R17x4 := Lib.hid hf; have B17x4 := Lib.hid hz; clear hf hz; have hk := leaks_any F1 q _ _ 2 _ _ LA LB a17x4 (R17x1.out.keep (bcomp B17x2.out (bcomp B17x3.out B17x4.out))) (R17x2.out.keep (bcomp B17x3.out B17x4.out)) (HL.out.keep (bcomp BW17.out (bcomp B17x1.out (bcomp B17x2.out (bcomp B17x3.out B17x4.out))))) (HT.out.keep (bcomp BW17.out (bcomp B17x1.out (bcomp B17x2.out (bcomp B17x3.out B17x4.out))))) ⟨by decide, by decide⟩ (R17x3.out.keep B17x4.out) R17x4.out HSA.out HSB.out; rw [X9.out, X9e.out] at hk; have HK17 := Lib.hid hk; clear hk) | (go_at_call 22; refine HK17.out.mono ?_; rintro e b17 ⟨rfl, hz⟩; have BW18 := Lib.hid (bcomp BW17.out (bcomp B17x1.out (bcomp B17x2.out (bcomp B17x3.out (bcomp B17x4.out hz))))); clear hz))
  clear HK17 BW17 R17x1 B17x1 R17x2 B17x2 R17x3 B17x3 R17x4 B17x4
  go_upto_region 19 with (first | (go_at_call 25; refine (HP7.out _).mono ?_; rintro e a18x1 ⟨c18x1, rfl, hf, hz⟩; have R18x1 := Lib.hid hf; have B18x1 := Lib.hid hz; clear hf hz) | (go_at_call 26; refine (HA7.out _).mono ?_; rintro e a18x2 ⟨vv, rfl, hf, hz⟩; obtain ⟨p18x2, k18x2, rfl⟩ := hf.is; have R18x2 := Lib.hid hf; have B18x2 := Lib.hid hz; clear hf hz) | (go_at_call 28; refine (HB7.out _).mono ?_; rintro e a18x3 ⟨vv, rfl, hf, hz⟩; obtain ⟨p18x3, k18x3, rfl⟩ := hf.is; have R18x3 := Lib.hid hf; have B18x3 := Lib.hid hz; clear hf hz; have hk := leaks_any zeroD q _ _ 0 _ _ LA LB a18x3 (zero_flat _) (R18x1.out.keep (bcomp B18x2.out B18x3.out)) (HL.out.keep (bcomp BW18.out (bcomp B18x1.out (bcomp B18x2.out B18x3.out)))) (HT.out.keep (bcomp BW18.out (bcomp B18x1.out (bcomp B18x2.out B18x3.out)))) ⟨by decide, by decide⟩ (R18x2.out.keep B18x3.out) R18x3.out HSA.out HSB.out; rw [X10.out, X10e.out] at hk; have HK18 := Lib.hid hk; clear hk) | (go_at_call 22; refine HK18.out.mono ?_; rintro e b18 ⟨rfl, hz⟩; have BW19 := Lib.hid (bcomp BW18.out (bcomp B18x1.out (bcomp B18x2.out (bcomp B18x3.out hz)))); clear hz))
  clear HK18 BW18 R18x1 B18x1 R18x2 B18x2 R18x3 B18x3
  have HAW := Lib.hid (fun (z : World) (hz : Below w.heap.size w z) => awake_any z (HL.out.keep hz) (HT.out.keep hz))
  go_wp2_with (first | (go_at_call 17; refine (prem_nil _).mono ?_; rintro e y1 ⟨rfl, hz⟩; have BY1 := Lib.hid (bcomp BW19.out hz); clear hz) | (go_at_call 19; refine (same_nil _).mono ?_; rintro e y2 ⟨rfl, hz⟩; have BY2 := Lib.hid (bcomp BY1.out hz); clear hz) | (go_at_call 16; refine (HAW.out _ BY2.out).mono ?_; rintro e y3 ⟨rfl, hz⟩; have BY3 := Lib.hid (bcomp BY2.out hz); clear hz))
  go_ret
  exact ⟨rfl, BY3.out⟩
end Go.Proofs.YtkjkpddajjmloaaDoor
