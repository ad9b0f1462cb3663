/- The walk of ScriptOthers. Conditions: the string is as long as strings can be; the program reads as one, and each of its functions has at most 1048576 instructions; the tables are as laid. -/
import Derived.Test.YtfdinncgncbmfaaGreatDoorScH
import Derived.Test.YtfdinncgncbmfaaGreatDoorScX
set_option linter.unusedVariables false
set_option linter.unusedSimpArgs false
set_option linter.unnecessarySimpa false
namespace Go.Proofs.YtfdinncgncbmfaaGreatDoor
open Go.ChangeShapes Go.WideShapes Go.ChangeAt Go.RowKit
theorem eqL_selfO {α : Type} {f : α → α → Bool} (hf : ∀ x, f x x = true) : ∀ l : List α, eqL f l l = true
  | [] => rfl
  | x :: r => by rw [eqL, hf, eqL_selfO hf r]; rfl
theorem eqInstr_selfO (x : InstrD) : eqInstr x x = true := by simp [eqInstr, eqL_selfO (f := eqArg) (fun x => by simp [eqArg])]
theorem eqProg_selfO (x : ProgD) : eqProg x x = true := by
  have hf : ∀ f, eqFunc f f = true := fun f => by simp [eqFunc, eqL_selfO (f := eqS) (fun x => by simp [eqS]), eqL_selfO (f := eqInstr) eqInstr_selfO]
  simp [eqProg, eqL_selfO (f := eqS) (fun x => by simp [eqS]), eqL_selfO (f := eqArr) (fun x => by simp [eqArr]), eqL_selfO (f := eqFunc) hf, eqL_selfO (f := eqInstr) eqInstr_selfO]
theorem ba_listO (s : ByteArray) : (⟨s.data.toList.toArray⟩ : ByteArray) = s := by
  apply ByteArray.ext
  simp
theorem codes_le {l : List FuncD} {B : Nat} (h : ∀ f ∈ l, f.code.length ≤ B) : (codesOf l).length ≤ l.length * B := by
  induction l with
  | nil => simp [codesOf]
  | cons f r ih =>
    have h1 := ih fun g hg => h g (List.mem_cons_of_mem _ hg)
    have h2 := h f List.mem_cons_self
    have h3 : (codesOf (f :: r)).length = f.code.length + (codesOf r).length := by simp [codesOf]
    rw [h3, List.length_cons, Nat.add_mul]
    omega
set_option maxRecDepth 100000 in
set_option maxHeartbeats 12800000 in
theorem others_walk (s : ByteArray) (p : ProgD) (cv av fv mv : Value) (w : World) (hs : s.size ≤ maxLen) (h : RdProg none w p cv av fv mv) (hcodes : ∀ f ∈ p.funcs, f.code.length ≤ 1048576) (hL : Laid w) :
    Calls Tryz.prog 4 #[.string s, progV p cv av fv mv] w fun e w' => e = .returned (.bool true) ∧ Below w.heap.size w w' := by
  have KN : ∀ z, Hid (Calls Tryz.prog 5 #[] z fun e w' => e = .returned (.bool true) ∧ Below z.heap.size z w') := fun z => known_any z
  obtain ⟨ac, kc, rfl, -, -⟩ := id h.1
  obtain ⟨aa, ka, rfl, -, -⟩ := id h.2.1
  obtain ⟨af, kf, rfl, -, -⟩ := id h.2.2.1
  obtain ⟨am, km, rfl, -, -⟩ := id h.2.2.2.1
  by_cases hl0 : 300 < s.size
  · have hg0 : (300 : Int) < (s.size : Int) := by omega
    have HK := Lib.hid (KN (w.alloc (.cells #[.int .i64 p.width, .slice ac p.chans.length kc, .slice aa p.arrays.length ka, .slice af p.funcs.length kf, .slice am p.main.length km] 28))).out
    have hb0 := (Below.refl w.heap.size w).alloc (Nat.le_refl _) (.cells #[.int .i64 p.width, .slice ac p.chans.length kc, .slice aa p.arrays.length ka, .slice af p.funcs.length kf, .slice am p.main.length km] 28)
    have hn0 := heap_alloc_new w (.cells #[.int .i64 p.width, .slice ac p.chans.length kc, .slice aa p.arrays.length ka, .slice af p.funcs.length kf, .slice am p.main.length km] 28)
    have p1 := row_of hn0 1 _ rfl
    have p2 := row_of hn0 2 _ rfl
    have p3 := row_of hn0 3 _ rfl
    have p4 := row_of hn0 4 _ rfl
    clear KN h hcodes hL hn0
    go_enter Tryz.func4, Tryz.ntmps4
    go_wp2_with (go_at_call 5; refine HK.out.mono ?_; rintro e z ⟨rfl, hz⟩)
    go_ret
    exact ⟨rfl, bcomp hb0 hz⟩
  have hg0 : ¬ (300 : Int) < (s.size : Int) := by omega
  by_cases hl1 : 60 < p.main.length
  · have hg1 : (60 : Int) < (p.main.length : Int) := by omega
    have HK := Lib.hid (KN (w.alloc (.cells #[.int .i64 p.width, .slice ac p.chans.length kc, .slice aa p.arrays.length ka, .slice af p.funcs.length kf, .slice am p.main.length km] 28))).out
    have hb0 := (Below.refl w.heap.size w).alloc (Nat.le_refl _) (.cells #[.int .i64 p.width, .slice ac p.chans.length kc, .slice aa p.arrays.length ka, .slice af p.funcs.length kf, .slice am p.main.length km] 28)
    have hn0 := heap_alloc_new w (.cells #[.int .i64 p.width, .slice ac p.chans.length kc, .slice aa p.arrays.length ka, .slice af p.funcs.length kf, .slice am p.main.length km] 28)
    have p1 := row_of hn0 1 _ rfl
    have p2 := row_of hn0 2 _ rfl
    have p3 := row_of hn0 3 _ rfl
    have p4 := row_of hn0 4 _ rfl
    clear KN h hcodes hL hn0
    go_enter Tryz.func4, Tryz.ntmps4
    go_wp2_with (go_at_call 5; refine HK.out.mono ?_; rintro e z ⟨rfl, hz⟩)
    go_ret
    exact ⟨rfl, bcomp hb0 hz⟩
  have hg1 : ¬ (60 : Int) < (p.main.length : Int) := by omega
  by_cases hl2 : 60 < p.chans.length
  · have hg2 : (60 : Int) < (p.chans.length : Int) := by omega
    have HK := Lib.hid (KN (w.alloc (.cells #[.int .i64 p.width, .slice ac p.chans.length kc, .slice aa p.arrays.length ka, .slice af p.funcs.length kf, .slice am p.main.length km] 28))).out
    have hb0 := (Below.refl w.heap.size w).alloc (Nat.le_refl _) (.cells #[.int .i64 p.width, .slice ac p.chans.length kc, .slice aa p.arrays.length ka, .slice af p.funcs.length kf, .slice am p.main.length km] 28)
    have hn0 := heap_alloc_new w (.cells #[.int .i64 p.width, .slice ac p.chans.length kc, .slice aa p.arrays.length ka, .slice af p.funcs.length kf, .slice am p.main.length km] 28)
    have p1 := row_of hn0 1 _ rfl
    have p2 := row_of hn0 2 _ rfl
    have p3 := row_of hn0 3 _ rfl
    have p4 := row_of hn0 4 _ rfl
    clear KN h hcodes hL hn0
    go_enter Tryz.func4, Tryz.ntmps4
    go_wp2_with (go_at_call 5; refine HK.out.mono ?_; rintro e z ⟨rfl, hz⟩)
    go_ret
    exact ⟨rfl, bcomp hb0 hz⟩
  have hg2 : ¬ (60 : Int) < (p.chans.length : Int) := by omega
  by_cases hl3 : 60 < p.arrays.length
  · have hg3 : (60 : Int) < (p.arrays.length : Int) := by omega
    have HK := Lib.hid (KN (w.alloc (.cells #[.int .i64 p.width, .slice ac p.chans.length kc, .slice aa p.arrays.length ka, .slice af p.funcs.length kf, .slice am p.main.length km] 28))).out
    have hb0 := (Below.refl w.heap.size w).alloc (Nat.le_refl _) (.cells #[.int .i64 p.width, .slice ac p.chans.length kc, .slice aa p.arrays.length ka, .slice af p.funcs.length kf, .slice am p.main.length km] 28)
    have hn0 := heap_alloc_new w (.cells #[.int .i64 p.width, .slice ac p.chans.length kc, .slice aa p.arrays.length ka, .slice af p.funcs.length kf, .slice am p.main.length km] 28)
    have p1 := row_of hn0 1 _ rfl
    have p2 := row_of hn0 2 _ rfl
    have p3 := row_of hn0 3 _ rfl
    have p4 := row_of hn0 4 _ rfl
    clear KN h hcodes hL hn0
    go_enter Tryz.func4, Tryz.ntmps4
    go_wp2_with (go_at_call 5; refine HK.out.mono ?_; rintro e z ⟨rfl, hz⟩)
    go_ret
    exact ⟨rfl, bcomp hb0 hz⟩
  have hg3 : ¬ (60 : Int) < (p.arrays.length : Int) := by omega
  by_cases hl4 : 60 < p.funcs.length
  · have hg4 : (60 : Int) < (p.funcs.length : Int) := by omega
    have HK := Lib.hid (KN (w.alloc (.cells #[.int .i64 p.width, .slice ac p.chans.length kc, .slice aa p.arrays.length ka, .slice af p.funcs.length kf, .slice am p.main.length km] 28))).out
    have hb0 := (Below.refl w.heap.size w).alloc (Nat.le_refl _) (.cells #[.int .i64 p.width, .slice ac p.chans.length kc, .slice aa p.arrays.length ka, .slice af p.funcs.length kf, .slice am p.main.length km] 28)
    have hn0 := heap_alloc_new w (.cells #[.int .i64 p.width, .slice ac p.chans.length kc, .slice aa p.arrays.length ka, .slice af p.funcs.length kf, .slice am p.main.length km] 28)
    have p1 := row_of hn0 1 _ rfl
    have p2 := row_of hn0 2 _ rfl
    have p3 := row_of hn0 3 _ rfl
    have p4 := row_of hn0 4 _ rfl
    clear KN h hcodes hL hn0
    go_enter Tryz.func4, Tryz.ntmps4
    go_wp2_with (go_at_call 5; refine HK.out.mono ?_; rintro e z ⟨rfl, hz⟩)
    go_ret
    exact ⟨rfl, bcomp hb0 hz⟩
  have hg4 : ¬ (60 : Int) < (p.funcs.length : Int) := by omega
  have hN : (codesOf p.funcs).length + p.main.length ≤ 1759218604440 := by
    have h1 := codes_le hcodes
    have h2 : p.funcs.length * 1048576 ≤ 60 * 1048576 := Nat.mul_le_mul_right _ (by omega)
    omega
  obtain ⟨Q, hQ⟩ : ∃ q, policyS s.data.toList p = q := ⟨_, rfl⟩
  have HQ1 : Hid (∀ (z : World) (cv av fv mv : Value), RdProg none z p cv av fv mv → Laid z → Calls Tryz.prog 8 #[.string s, progV p cv av fv mv] z fun e w' => ∃ lv ov cu su, e = .returned (polZV Q lv ov cu su) ∧ RdPolZ w' Q lv ov cu su ∧ Below z.heap.size z w') := fun z cv av fv mv hr hl => by
    have h := policy_any s.data.toList p cv av fv mv z hr hl
    rw [ba_listO, hQ] at h
    exact h
  have HQ2 : Hid (∀ (z : World) (cv av fv mv : Value), RdProg none z p cv av fv mv → Calls Tryz.prog 9 #[.string s, progV p cv av fv mv] z fun e w' => ∃ lv ov cu su, e = .returned (polZV Q lv ov cu su) ∧ RdPolZ w' Q lv ov cu su ∧ Below z.heap.size z w') := fun z cv av fv mv hr => by
    have h := policyR_any s p cv av fv mv z hr (by omega) hN
    rw [hQ] at h
    exact h
  have H := Lib.hid h
  have HLD := Lib.hid hL
  have hb0 := (Below.refl w.heap.size w).alloc (Nat.le_refl _) (.cells #[.int .i64 p.width, .slice ac p.chans.length kc, .slice aa p.arrays.length ka, .slice af p.funcs.length kf, .slice am p.main.length km] 28)
  have hn0 := heap_alloc_new w (.cells #[.int .i64 p.width, .slice ac p.chans.length kc, .slice aa p.arrays.length ka, .slice af p.funcs.length kf, .slice am p.main.length km] 28)
  have HB0 := Lib.hid hb0
  have HN0 := Lib.hid hn0
  clear h hcodes hL hQ hN hl0 hl1 hl2 hl3 hl4 hs hb0 hn0
  go_enter Tryz.func4, Tryz.ntmps4
  go_upto_region 1 with fail
  generalize w.alloc (.cells #[.int .i64 p.width, .slice ac p.chans.length kc, .slice aa p.arrays.length ka, .slice af p.funcs.length kf, .slice am p.main.length km] 28) = W0 at *
  obtain ⟨r, hr⟩ : ∃ r, w.heap.size = r := ⟨_, rfl⟩
  rw [hr] at HN0
  try rw [hr]
  have HRR := Lib.hid hr
  clear hr
  have HCP := Lib.hid (copyProg p _ _ _ _ W0 (H.out.keep HB0.out))
  have p0 := row_of HN0.out 0 _ rfl
  have p1 := row_of HN0.out 1 _ rfl
  have p2 := row_of HN0.out 2 _ rfl
  have p3 := row_of HN0.out 3 _ rfl
  have p4 := row_of HN0.out 4 _ rfl
  go_upto_region 4 with (go_at_call 10; refine HCP.out.mono ?_; rintro e z ⟨cv', av', fv', mv', m, rfl, h1, h2, h3, h4, -, hz⟩; obtain ⟨bc, lc, rfl, -, -⟩ := id h1; obtain ⟨ba, la, rfl, -, -⟩ := id h2; obtain ⟨bf, lf, rfl, -, -⟩ := id h3; obtain ⟨bm, lm, rfl, -, -⟩ := id h4; have HRI : Hid (RdProg none z p _ _ _ _) := ⟨h1.forget, h2.forget, h3.forget, h4.forget, H.out.2.2.2.2⟩; have HBZ := Lib.hid hz; clear h1 h2 h3 h4 hz)
  clear p0 p1 p2 p3 p4 HCP hg0 hg1 hg2 hg3 hg4
  have hal := (Below.refl z.heap.size z).alloc (Nat.le_refl _) (.cells #[.int .i64 p.width, .slice bc p.chans.length lc, .slice ba p.arrays.length la, .slice bf p.funcs.length lf, .slice bm p.main.length lm] 28)
  have hnw := heap_alloc_new z (.cells #[.int .i64 p.width, .slice bc p.chans.length lc, .slice ba p.arrays.length la, .slice bf p.funcs.length lf, .slice bm p.main.length lm] 28)
  have HRI2 := Lib.hid (HRI.out.keep hal)
  have HBY := Lib.hid (bcomp HBZ.out hal)
  obtain ⟨qb, hqb⟩ : ∃ x, z.heap.size = x := ⟨_, rfl⟩
  rw [hqb] at hnw
  try rw [hqb]
  have HC := Lib.hid hnw
  clear hal hnw hqb HRI HBZ
  generalize z.alloc (.cells #[.int .i64 p.width, .slice bc p.chans.length lc, .slice ba p.arrays.length la, .slice bf p.funcs.length lf, .slice bm p.main.length lm] 28) = W2 at *
  have HA := Lib.hid ((HBY.out.block r (Array.getElem?_eq_some_iff.1 HN0.out).1).trans HN0.out)
  have HBX := Lib.hid (HB0.out.trans (HBY.out.mono HB0.out.size))
  have HRP := Lib.hid (H.out.keep HBX.out)
  have HLZ := Lib.hid (HLD.out.keep HBX.out)
  clear HN0 HBY HB0
  have gr : r < W2.heap.size := (Array.getElem?_eq_some_iff.1 HA.out).1
  have gq : qb < W2.heap.size := (Array.getElem?_eq_some_iff.1 HC.out).1
  have q0 := keepS_cell (S := [r, qb]) (by simp) (row_of HA.out 0 _ rfl)
  have q1 := keepS_cell (S := [r, qb]) (by simp) (row_of HA.out 1 _ rfl)
  have q2 := keepS_cell (S := [r, qb]) (by simp) (row_of HA.out 2 _ rfl)
  have q3 := keepS_cell (S := [r, qb]) (by simp) (row_of HA.out 3 _ rfl)
  have q4 := keepS_cell (S := [r, qb]) (by simp) (row_of HA.out 4 _ rfl)
  have s0 := keepS_cell (S := [r, qb]) (by simp) (row_of HC.out 0 _ rfl)
  have s1 := keepS_cell (S := [r, qb]) (by simp) (row_of HC.out 1 _ rfl)
  have s2 := keepS_cell (S := [r, qb]) (by simp) (row_of HC.out 2 _ rfl)
  have s3 := keepS_cell (S := [r, qb]) (by simp) (row_of HC.out 3 _ rfl)
  have s4 := keepS_cell (S := [r, qb]) (by simp) (row_of HC.out 4 _ rfl)
  refine wp_region_mixS [r, qb] (.one [0, 1, 3, 4] 2 (.one [] 5 (.one [] 6 (.one [7, 8, 9] 10 (.one [11, 12] 13 (.fin [14, 15])))))) (fun j => decide (99 ≤ j)) (by kernel_rfl) (by kernel_rfl) rfl (by kernel_rfl) (fun _ d _ _ _ h => by cases d <;> exact h) ?_
  have HBd : Hid (Below W2.heap.size W2 W2.drew) := (Below.refl _ _).drew
  generalize W2.drew = y0 at *
  have ONE : Hid (∀ z : World, Below W2.heap.size W2 z → ∀ b ∈ [r, qb], z.heap[b]? = W2.heap[b]?) := fun z hz b hb => by
    simp only [List.mem_cons, List.not_mem_nil, or_false] at hb
    rcases hb with rfl | rfl
    · exact hz.block _ gr
    · exact hz.block _ gq
  have HK0 := Lib.hid (ONE.out y0 HBd.out)
  refine mix_one (by simp only [opsOf, List.filterMap_cons, List.filterMap_nil, List.getElem?_toArray, List.getElem?_cons_succ, List.getElem?_cons_zero]; rfl) ⟨_, keepS_of HK0.out⟩ ?_
  change wpQuiet _ _ _ _ [_, _, _, _] _
  (repeat (go_big_quiet_step (fail)))
  refine wpQuiet_nil ?_
  have HY1 := Lib.hid (HQ1.out y0 _ _ _ _ (HRI2.out.keep HBd.out) (HLZ.out.keep HBd.out))
  refine mix_step rfl ?_
  go_wp2_with (go_at_call 8; refine HY1.out.mono ?_; rintro e y1 ⟨lv, ov, cu, su, rfl, hr1, hb1⟩)
  have HBa := Lib.hid (bcomp HBd.out hb1)
  have HRa := Lib.hid hr1
  have HK1 := Lib.hid (ONE.out y1 HBa.out)
  clear hr1 hb1 HY1
  (first | refine ⟨fun _ => ⟨_, keepS_of HK1.out⟩, ?_⟩ | refine ⟨⟨_, keepS_of HK1.out⟩, ?_⟩)
  have HY2 := Lib.hid (HQ2.out y1 _ _ _ _ (HRP.out.keep HBa.out))
  refine mix_now ?_
  refine mix_step rfl ?_
  go_wp2_with (go_at_call 9; refine HY2.out.mono ?_; rintro e y2 ⟨lu, ou, cv, sv, rfl, hr2, hb2⟩)
  have HBb := Lib.hid (bcomp HBa.out hb2)
  have HSM := Lib.hid (policySame Q lv ov cu su lu ou cv sv y2 (HRa.out.keep hb2) hr2)
  have HK2 := Lib.hid (ONE.out y2 HBb.out)
  clear hr2 hb2 HY2 HRa
  (first | refine ⟨fun _ => ⟨_, keepS_of HK2.out⟩, ?_⟩ | refine ⟨⟨_, keepS_of HK2.out⟩, ?_⟩)
  refine mix_now ?_
  refine mix_step rfl ?_
  go_wp2_with (go_at_call 7; refine HSM.out.mono ?_; rintro e y3 ⟨rfl, hb3⟩)
  have HBc := Lib.hid (bcomp HBb.out hb3)
  have HK3 := Lib.hid (ONE.out y3 HBc.out)
  clear hb3 HSM
  (first | refine ⟨fun _ => ⟨_, keepS_of HK3.out⟩, ?_⟩ | refine ⟨⟨_, keepS_of HK3.out⟩, ?_⟩)
  refine mix_one (by simp only [opsOf, List.filterMap_cons, List.filterMap_nil, List.getElem?_toArray, List.getElem?_cons_succ, List.getElem?_cons_zero]; rfl) ⟨_, keepS_of HK3.out⟩ ?_
  change wpQuiet _ _ _ _ [_, _, _] _
  (repeat (go_big_quiet_step (fail)))
  refine wpQuiet_nil ?_
  have heq := equalProg p p _ _ _ _ _ _ _ _ y3 (HRI2.out.keep HBc.out) (HRP.out.keep HBc.out)
  rw [eqProg_selfO] at heq
  have HEQ := Lib.hid heq
  clear heq q0 q1 q2 q3 q4 s0 s1 s2 s3 s4
  refine mix_step rfl ?_
  go_wp2_with (go_at_call 11; refine HEQ.out.mono ?_; rintro e y4 ⟨rfl, hb4⟩)
  have HBe := Lib.hid (bcomp HBc.out hb4)
  have HK4 := Lib.hid (ONE.out y4 HBe.out)
  clear hb4 HEQ
  (first | refine ⟨fun _ => ⟨_, keepS_of HK4.out⟩, ?_⟩ | refine ⟨⟨_, keepS_of HK4.out⟩, ?_⟩)
  refine mix_one (by simp only [opsOf, List.filterMap_cons, List.filterMap_nil, List.getElem?_toArray, List.getElem?_cons_succ, List.getElem?_cons_zero]; rfl) ⟨_, keepS_of HK4.out⟩ ?_
  change wpQuiet _ _ _ _ [_, _] _
  (repeat (go_big_quiet_step (fail)))
  refine wpQuiet_nil ?_
  refine mix_step rfl ?_
  go_wp2_with (go_at_call 5; refine (KN _).out.mono ?_; rintro e y5 ⟨rfl, hb5⟩)
  have HBf := Lib.hid (bcomp HBe.out hb5)
  have HK5 := Lib.hid (ONE.out y5 HBf.out)
  clear hb5
  (first | refine ⟨fun _ => ⟨_, keepS_of HK5.out⟩, ?_⟩ | refine ⟨⟨_, keepS_of HK5.out⟩, ?_⟩)
  refine mix_fin (by simp only [opsOf, List.filterMap_cons, List.filterMap_nil, List.getElem?_toArray, List.getElem?_cons_succ, List.getElem?_cons_zero]; rfl) ⟨_, keepS_of HK5.out⟩ ?_
  change wpQuiet _ _ _ _ [_, _] _
  (repeat (go_big_quiet_step (fail)))
  refine wpQuiet_nil ?_
  go_wp2_with fail
  go_ret
  exact ⟨rfl, bcomp HBX.out HBf.out⟩
end Go.Proofs.YtfdinncgncbmfaaGreatDoor
