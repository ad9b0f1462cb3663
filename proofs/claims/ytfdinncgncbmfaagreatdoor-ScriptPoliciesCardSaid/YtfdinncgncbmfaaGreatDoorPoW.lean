/- The walk of ScriptPolicies; how many instructions the program of a string has. Conditions: the strings are as long as strings can be; the tables are as laid. -/
import Derived.Test.YtfdinncgncbmfaaGreatDoorScH
import Derived.Test.YtfdinncgncbmfaaGreatDoorScX
import Derived.Test.YtfdinncgncbmfaaGreatDoorSrE
set_option linter.unusedVariables false
set_option linter.unusedSimpArgs false
set_option linter.unnecessarySimpa false
namespace Go.Proofs.YtfdinncgncbmfaaGreatDoor
open Go.ChangeShapes Go.WideShapes Go.ChangeAt Go.RowKit
theorem codeS_lenP (E : EnvS) : ∀ m acc l, (codeS E m acc l).1.length = acc.length + m
  | 0, acc, l => rfl
  | m + 1, acc, l => by
    have h := codeS_lenP E m (acc ++ [(instrS E acc.length l).1]) (instrS E acc.length l).2
    show (codeS E m (acc ++ [(instrS E acc.length l).1]) (instrS E acc.length l).2).1.length = _
    rw [h, List.length_append, List.length_singleton]
    omega
theorem mainS_lenP (E : EnvS) : ∀ m acc l, (mainS E m acc l).1.length ≤ acc.length + m
  | 0, acc, l => Nat.le_refl _
  | m + 1, acc, l => by
    by_cases hl : l = []
    · subst hl
      show acc.length ≤ _
      omega
    · have h := mainS_lenP E m (acc ++ [(instrS E acc.length l).1]) (instrS E acc.length l).2
      have e : mainS E (m + 1) acc l = mainS E m (acc ++ [(instrS E acc.length l).1]) (instrS E acc.length l).2 := by
        show (if l = [] then (acc, l) else _) = _
        rw [if_neg hl]
        rfl
      rw [e]
      rw [List.length_append, List.length_singleton] at h
      omega
theorem flat2_len {α : Type} (f : Nat → List α) (h : ∀ i, (f i).length ≤ 2) : ∀ n, ((List.range n).flatMap f).length ≤ 2 * n
  | 0 => by simp
  | n + 1 => by
    have h1 := flat2_len f h n
    have h2 := h n
    rw [List.range_succ, List.flatMap_append, List.length_append]
    simp only [List.flatMap_cons, List.flatMap_nil, List.append_nil]
    omega
theorem labelled_lenP (c : List (InstrD × Int)) : (labelledS c).length ≤ 2 * (c.length + 1) := by
  unfold labelledS
  refine flat2_len _ (fun i => ?_) _
  unfold atS
  rw [List.length_append]
  have h1 : (if wantS c i then [labelI i] else []).length ≤ 1 := by split <;> simp
  have h2 : (c[i]?.map (fixS c.length)).toList.length ≤ 1 := by cases c[i]? <;> simp
  omega
theorem funcS_lenP (a c i : Nat) (had : List FuncD) (l : List UInt8) : (funcS a c i had l).1.code.length ≤ 16 := by
  have h7 := take_small 7 (takeS 3 l).2 (by omega)
  have h := labelled_lenP (codeS ⟨a, c, (takeS 3 l).1, (had.take i).map (·.params.length), false⟩ (takeS 7 (takeS 3 l).2).1 [] (takeS 7 (takeS 3 l).2).2).1
  rw [codeS_lenP] at h
  show (labelledS (codeS ⟨a, c, (takeS 3 l).1, (had.take i).map (·.params.length), false⟩ (takeS 7 (takeS 3 l).2).1 [] (takeS 7 (takeS 3 l).2).2).1).length ≤ 16
  simp only [List.length_nil] at h
  omega
theorem funcsS_lenP (a c : Nat) : ∀ m acc l, (codesOf (funcsS a c m acc l).1).length ≤ (codesOf acc).length + 16 * m
  | 0, acc, l => Nat.le_refl _
  | m + 1, acc, l => by
    have h := funcsS_lenP a c m (acc ++ [(funcS a c acc.length acc l).1]) (funcS a c acc.length acc l).2
    have h1 := funcS_lenP a c acc.length acc l
    show (codesOf (funcsS a c m (acc ++ [(funcS a c acc.length acc l).1]) (funcS a c acc.length acc l).2).1).length ≤ _
    rw [codesOf_append, List.length_append] at h
    have h2 : (codesOf [(funcS a c acc.length acc l).1]).length ≤ 16 := by simpa [codesOf] using h1
    omega
theorem progS_lenP (l : List UInt8) : (codesOf (progS l).funcs).length + (progS l).main.length ≤ 1000 := by
  have h1 : (codesOf (progS l).funcs).length ≤ 48 := by
    show (codesOf (headS l).1.funcs).length ≤ 48
    unfold headS bindS pureS
    simp only
    refine Nat.le_trans (funcsS_lenP _ _ _ _ _) ?_
    have h3 := fun l => take_small 3 l (by omega)
    simp only [codesOf, List.flatMap_nil, List.length_nil]
    have := h3 (timesS (fun i l => ((⟨nmS 97 i, 1 + ((takeS 4 l).1 : Int)⟩ : ArrD), (takeS 4 l).2)) (takeS 3 (takeS 3 (takeS 4 l).2).2).1 0 [] (takeS 3 (takeS 3 (takeS 4 l).2).2).2).2
    omega
  have h2 := mainS_lenP (mainE (headS l).1) 20 [] (headS l).2
  have h3 := labelled_lenP (mainS (mainE (headS l).1) 20 [] (headS l).2).1
  have h4 : (progS l).main.length = (labelledS (mainS (mainE (headS l).1) 20 [] (headS l).2).1).length := rfl
  simp only [List.length_nil] at h2
  omega
theorem ba_listP (s : ByteArray) : (⟨s.data.toList.toArray⟩ : ByteArray) = s := by
  apply ByteArray.ext
  simp
set_option maxRecDepth 100000 in
set_option maxHeartbeats 6400000 in
theorem policies_walk (s t : ByteArray) (w : World) (hs : s.size ≤ maxLen) (ht : t.size ≤ maxLen) (hL : Laid w) :
    Calls Tryz.prog 3 #[.string s, .string t] w fun e w' => e = .returned (.bool true) ∧ Below w.heap.size w w' := by
  have KN : ∀ z, Hid (Calls Tryz.prog 5 #[] z fun e w' => e = .returned (.bool true) ∧ Below z.heap.size z w') := fun z => known_any z
  by_cases hl1 : 1000 < s.size
  · have hlong1 : (1000 : Int) < (s.size : Int) := by omega
    have HK := Lib.hid (KN w).out
    clear KN
    go_enter Tryz.func3, Tryz.ntmps3
    go_wp2_with (go_at_call 5; refine HK.out.mono ?_; rintro e z ⟨rfl, hz⟩)
    go_ret
    exact ⟨rfl, hz⟩
  have hlong1 : ¬ (1000 : Int) < (s.size : Int) := by omega
  by_cases hl2 : 1000 < t.size
  · have hlong2 : (1000 : Int) < (t.size : Int) := by omega
    have HK := Lib.hid (KN w).out
    clear KN
    go_enter Tryz.func3, Tryz.ntmps3
    go_wp2_with (go_at_call 5; refine HK.out.mono ?_; rintro e z ⟨rfl, hz⟩)
    go_ret
    exact ⟨rfl, hz⟩
  have hlong2 : ¬ (1000 : Int) < (t.size : Int) := by omega
  obtain ⟨P1, hP1⟩ : ∃ P, progS t.data.toList = P := ⟨_, rfl⟩
  have HP1 : ∀ z, Hid (Calls Tryz.prog 6 #[.string t] z fun e w' => ∃ cv av fv mv, e = .returned (progV P1 cv av fv mv) ∧ RdProg (some (upFrom z.heap.size)) w' P1 cv av fv mv ∧ Below z.heap.size z w') := fun z => by
    have h := progR_any t _ z rfl (by omega)
    rw [hP1] at h
    exact h
  obtain ⟨Q, hQ⟩ : ∃ q, policyS s.data.toList P1 = q := ⟨_, rfl⟩
  have HQ1 : Hid (∀ (z : World) (cv av fv mv : Value), RdProg none z P1 cv av fv mv → Laid z → Calls Tryz.prog 8 #[.string s, progV P1 cv av fv mv] z fun e w' => ∃ lv ov cu su, e = .returned (polZV Q lv ov cu su) ∧ RdPolZ w' Q lv ov cu su ∧ Below z.heap.size z w') := fun z cv av fv mv hr hl => by
    have h := policy_any s.data.toList P1 cv av fv mv z hr hl
    rw [ba_listP, hQ] at h
    exact h
  have hln := progS_lenP t.data.toList
  rw [hP1] at hln
  have HQ2 : Hid (∀ (z : World) (cv av fv mv : Value), RdProg none z P1 cv av fv mv → Calls Tryz.prog 9 #[.string s, progV P1 cv av fv mv] z fun e w' => ∃ lv ov cu su, e = .returned (polZV Q lv ov cu su) ∧ RdPolZ w' Q lv ov cu su ∧ Below z.heap.size z w') := fun z cv av fv mv hr => by
    have h := policyR_any s P1 cv av fv mv z hr (by omega) (by omega)
    rw [hQ] at h
    exact h
  have HLD := Lib.hid hL
  clear hP1 hQ hln hL hs ht
  go_enter Tryz.func3, Tryz.ntmps3
  go_upto_region 4 with (go_at_call 6; refine (HP1 _).out.mono ?_; rintro e z1 ⟨cv, av, fv, mv, rfl, hr, hbz⟩; obtain ⟨ac, kc, rfl, -, -⟩ := id hr.1; obtain ⟨aa, ka, rfl, -, -⟩ := id hr.2.1; obtain ⟨af, kf, rfl, -, -⟩ := id hr.2.2.1; obtain ⟨am, km, rfl, -, -⟩ := id hr.2.2.2.1; have HR1 := Lib.hid hr.forget; have HB1 := Lib.hid hbz; clear hr hbz)
  have hal := (Below.refl z1.heap.size z1).alloc (Nat.le_refl _) (.cells #[.int .i64 P1.width, .slice ac P1.chans.length kc, .slice aa P1.arrays.length ka, .slice af P1.funcs.length kf, .slice am P1.main.length km] 28)
  have hnw := heap_alloc_new z1 (.cells #[.int .i64 P1.width, .slice ac P1.chans.length kc, .slice aa P1.arrays.length ka, .slice af P1.funcs.length kf, .slice am P1.main.length km] 28)
  have HRA := Lib.hid (HR1.out.keep hal)
  have HBZ := Lib.hid (bcomp HB1.out hal)
  obtain ⟨pb, hpb⟩ : ∃ x, z1.heap.size = x := ⟨_, rfl⟩
  rw [hpb] at hnw
  try rw [hpb]
  have HA := Lib.hid hnw
  clear hal hnw hpb HR1 HB1
  generalize z1.alloc (.cells #[.int .i64 P1.width, .slice ac P1.chans.length kc, .slice aa P1.arrays.length ka, .slice af P1.funcs.length kf, .slice am P1.main.length km] 28) = W2 at *
  have HLZ := Lib.hid (HLD.out.keep HBZ.out)
  have hpw : pb < W2.heap.size := (Array.getElem?_eq_some_iff.1 HA.out).1
  have q0 := keepS_cell (S := [pb]) (by simp) (row_of HA.out 0 _ rfl)
  have q1 := keepS_cell (S := [pb]) (by simp) (row_of HA.out 1 _ rfl)
  have q2 := keepS_cell (S := [pb]) (by simp) (row_of HA.out 2 _ rfl)
  have q3 := keepS_cell (S := [pb]) (by simp) (row_of HA.out 3 _ rfl)
  have q4 := keepS_cell (S := [pb]) (by simp) (row_of HA.out 4 _ rfl)
  refine wp_region_mixS [pb] (.one [0, 1, 3, 4] 2 (.one [] 5 (.one [] 6 (.one [7] 8 (.fin [9, 10]))))) (fun j => decide (99 ≤ j)) (by kernel_rfl) (by kernel_rfl) rfl (by kernel_rfl) (fun _ d _ _ _ h => by cases d <;> exact h) ?_
  have HBd : Hid (Below W2.heap.size W2 W2.drew) := (Below.refl _ _).drew
  generalize W2.drew = y0 at *
  have ONE : Hid (∀ z : World, Below W2.heap.size W2 z → ∀ b ∈ [pb], z.heap[b]? = W2.heap[b]?) := fun z hz b hb => by
    simp only [List.mem_cons, List.not_mem_nil, or_false] at hb
    subst hb
    exact hz.block _ hpw
  have HK0 := Lib.hid (ONE.out y0 HBd.out)
  refine mix_one (by simp only [opsOf, List.filterMap_cons, List.filterMap_nil, List.getElem?_toArray, List.getElem?_cons_succ, List.getElem?_cons_zero]; rfl) ⟨_, keepS_of HK0.out⟩ ?_
  change wpQuiet _ _ _ _ [_, _, _, _] _
  (repeat (go_big_quiet_step (fail)))
  refine wpQuiet_nil ?_
  clear q0 q1 q2 q3 q4
  have HY1 := Lib.hid (HQ1.out y0 _ _ _ _ (HRA.out.keep HBd.out) (HLZ.out.keep HBd.out))
  refine mix_step rfl ?_
  go_wp2_with (go_at_call 8; refine HY1.out.mono ?_; rintro e y1 ⟨lv, ov, cu, su, rfl, hr1, hb1⟩)
  have HBa := Lib.hid (bcomp HBd.out hb1)
  have HRa := Lib.hid hr1
  have HK1 := Lib.hid (ONE.out y1 HBa.out)
  clear hr1 hb1 HY1
  (first | refine ⟨fun _ => ⟨_, keepS_of HK1.out⟩, ?_⟩ | refine ⟨⟨_, keepS_of HK1.out⟩, ?_⟩)
  have HY2 := Lib.hid (HQ2.out y1 _ _ _ _ (HRA.out.keep HBa.out))
  refine mix_now ?_
  refine mix_step rfl ?_
  go_wp2_with (go_at_call 9; refine HY2.out.mono ?_; rintro e y2 ⟨lu, ou, cv, sv, rfl, hr2, hb2⟩)
  have HBb := Lib.hid (bcomp HBa.out hb2)
  have HSM := Lib.hid (policySame Q lv ov cu su lu ou cv sv y2 (HRa.out.keep hb2) hr2)
  have HK2 := Lib.hid (ONE.out y2 HBb.out)
  clear hr2 hb2 HY2 HRa
  (first | refine ⟨fun _ => ⟨_, keepS_of HK2.out⟩, ?_⟩ | refine ⟨⟨_, keepS_of HK2.out⟩, ?_⟩)
  refine mix_now ?_
  refine mix_step rfl ?_
  go_wp2_with (go_at_call 7; refine HSM.out.mono ?_; rintro e y3 ⟨rfl, hb3⟩)
  have HBc := Lib.hid (bcomp HBb.out hb3)
  have HK3 := Lib.hid (ONE.out y3 HBc.out)
  clear hb3 HSM
  (first | refine ⟨fun _ => ⟨_, keepS_of HK3.out⟩, ?_⟩ | refine ⟨⟨_, keepS_of HK3.out⟩, ?_⟩)
  refine mix_one (by simp only [opsOf, List.filterMap_cons, List.filterMap_nil, List.getElem?_toArray, List.getElem?_cons_succ, List.getElem?_cons_zero]; rfl) ⟨_, keepS_of HK3.out⟩ ?_
  change wpQuiet _ _ _ _ [_] _
  (repeat (go_big_quiet_step (fail)))
  refine wpQuiet_nil ?_
  refine mix_step rfl ?_
  go_wp2_with (go_at_call 5; refine (KN _).out.mono ?_; rintro e y4 ⟨rfl, hb4⟩)
  have HBe := Lib.hid (bcomp HBc.out hb4)
  have HK4 := Lib.hid (ONE.out y4 HBe.out)
  clear hb4
  (first | refine ⟨fun _ => ⟨_, keepS_of HK4.out⟩, ?_⟩ | refine ⟨⟨_, keepS_of HK4.out⟩, ?_⟩)
  refine mix_fin (by simp only [opsOf, List.filterMap_cons, List.filterMap_nil, List.getElem?_toArray, List.getElem?_cons_succ, List.getElem?_cons_zero]; rfl) ⟨_, keepS_of HK4.out⟩ ?_
  change wpQuiet _ _ _ _ [_, _] _
  (repeat (go_big_quiet_step (fail)))
  refine wpQuiet_nil ?_
  go_wp2_with fail
  go_ret
  exact ⟨rfl, bcomp HBZ.out HBe.out⟩
end Go.Proofs.YtfdinncgncbmfaaGreatDoor
