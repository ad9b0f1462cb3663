/- The walk of ScriptZeros. Conditions: the strings are as long as strings can be; the number is a byte; the tables are as laid. -/
import Derived.Test.YtfdinncgncbmfaaDoorScS
import Derived.Test.YtfdinncgncbmfaaDoorScX
set_option linter.unusedVariables false
set_option linter.unusedSimpArgs false
set_option linter.unnecessarySimpa false
namespace Go.Proofs.YtfdinncgncbmfaaDoor
open Go.ChangeShapes Go.WideShapes Go.ChangeAt Go.RowKit
theorem addNoneZ (b o i : Nat) : (⟨b, o, none⟩ : Addr).add i = ⟨b, o + i, none⟩ := by
  unfold Addr.add
  split
  · rename_i h; subst h; rfl
  · rfl
theorem infoU8Z : (Tryd.prog.info? 5).map (fun i => (i.zero, i.size, i.bytes)) = some (some (.int .u8 0), 1, 1) := by kernel_rfl
theorem makeBytesZ (n : Nat) (h : n ≤ 2097152) (w : World) : (Instr.makeSlice 52 (.int .i64 n) (.int .i64 n)).run Tryd.prog w = .ok (.slice (some ⟨w.heap.size, 0, none⟩) n n) (w.alloc (.cells (madeCells #[.int .u8 0] n) 5)) := by
  obtain ⟨i0, hi, hz0, hz1, hz2⟩ := info_parts infoU8Z
  have := run_make (P := Tryd.prog) w 52 5 i0 (.int .u8 0) Tryd.underlying52 hi hz0 .i64 .i64 n n (by omega) (Int.le_refl _) (by rw [hz2]; omega) (by omega)
  rw [hz1, Int.toNat_natCast, show (Value.int .u8 0).cells = #[Value.int .u8 0] from rfl, Nat.mul_one] at this
  exact this
theorem zerosStr (k : Nat) (W : World) : (convert 52 9 (.slice (some ⟨W.heap.size, 0, none⟩) k k)).run Tryd.prog (W.alloc (.cells (madeCells #[.int .u8 0] k) 5)) = .ok (.string ⟨(List.replicate k 0).toArray⟩) (W.alloc (.cells (madeCells #[.int .u8 0] k) 5)) := by
  have hn := heap_alloc_new W (.cells (madeCells #[.int .u8 0] k) 5)
  have hlen : (List.replicate k (0 : UInt8)).length = k := List.length_replicate
  have h := run_convert_bytes_back (P := Tryd.prog) (W.alloc (.cells (madeCells #[.int .u8 0] k) 5)) 52 9 5 ⟨W.heap.size, 0, none⟩ k (List.replicate k 0) Tryd.underlying52 Tryd.underlying5 Tryd.underlying9 (fun j hj => ?_)
  · rw [hlen] at h
    exact h
  · have hjk : j < k := by rwa [hlen] at hj
    have hc : (madeCells #[Value.int .u8 0] k)[j]? = some (.int .u8 0) := by
      simp [madeCells, hjk, Nat.mod_one]
    have h1 := row_of hn j _ hc
    rw [addNoneZ, Nat.zero_add, List.getElem_replicate]
    exact h1
theorem ba_listZ (s : ByteArray) : (⟨s.data.toList.toArray⟩ : ByteArray) = s := by
  apply ByteArray.ext
  simp
theorem ba_twoZ (s : ByteArray) (l : List UInt8) : (⟨(s.data.toList ++ l).toArray⟩ : ByteArray) = s ++ ⟨l.toArray⟩ := by
  apply ByteArray.ext
  simp
theorem eqL_selfZ {α : Type} {f : α → α → Bool} (hf : ∀ x, f x x = true) : ∀ l : List α, eqL f l l = true
  | [] => rfl
  | x :: r => by rw [eqL, hf, eqL_selfZ hf r]; rfl
theorem eqInstr_selfZ (x : InstrD) : eqInstr x x = true := by simp [eqInstr, eqL_selfZ (f := eqArg) (fun x => by simp [eqArg])]
theorem eqProg_selfZ (x : ProgD) : eqProg x x = true := by
  have hf : ∀ f, eqFunc f f = true := fun f => by simp [eqFunc, eqL_selfZ (f := eqS) (fun x => by simp [eqS]), eqL_selfZ (f := eqInstr) eqInstr_selfZ]
  simp [eqProg, eqL_selfZ (f := eqS) (fun x => by simp [eqS]), eqL_selfZ (f := eqArr) (fun x => by simp [eqArr]), eqL_selfZ (f := eqFunc) hf, eqL_selfZ (f := eqInstr) eqInstr_selfZ]
theorem rd_bare {w : World} {p : ProgD} {cv av fv mv : Value} (h : RdProg none w p cv av fv mv) : RdProg none w { p with main := [] } cv av fv (.slice none 0 0) :=
  ⟨h.1, h.2.1, h.2.2.1, ⟨none, 0, rfl, ⟨by simp, by simp⟩, fun i s hi => by simp at hi⟩, h.2.2.2.2⟩
set_option maxRecDepth 100000 in
set_option maxHeartbeats 6400000 in
theorem zeros_walk (s t : ByteArray) (n : Int) (w : World) (hs : s.size ≤ maxLen) (ht : t.size ≤ maxLen) (hn : InU8 n) (hL : Laid w) :
    Calls Tryd.prog 4 #[.string s, .string t, .int .u8 n] w fun e w' => e = .returned (.bool true) ∧ Below w.heap.size w w' := by
  have KN : ∀ z, Hid (Calls Tryd.prog 10 #[] z fun e w' => e = .returned (.bool true) ∧ Below z.heap.size z w') := fun z => known_any z
  by_cases hl1 : 500 < s.size
  · have hlong1 : (500 : Int) < (s.size : Int) := by omega
    have HK := Lib.hid (KN w).out
    clear KN
    go_enter Tryd.func4, Tryd.ntmps4
    go_wp2_with (go_at_call 10; refine HK.out.mono ?_; rintro e z ⟨rfl, hz⟩)
    go_ret
    exact ⟨rfl, hz⟩
  have hlong1 : ¬ (500 : Int) < (s.size : Int) := by omega
  by_cases hl2 : 500 < t.size
  · have hlong2 : (500 : Int) < (t.size : Int) := by omega
    have HK := Lib.hid (KN w).out
    clear KN
    go_enter Tryd.func4, Tryd.ntmps4
    go_wp2_with (go_at_call 10; refine HK.out.mono ?_; rintro e z ⟨rfl, hz⟩)
    go_ret
    exact ⟨rfl, hz⟩
  have hlong2 : ¬ (500 : Int) < (t.size : Int) := by omega
  unfold InU8 at hn
  obtain ⟨nn, rfl⟩ : ∃ m : Nat, n = m := ⟨n.toNat, by omega⟩
  have hn : nn < 256 := by omega
  obtain ⟨k, hk⟩ : ∃ x, nn % 41 = x := ⟨_, rfl⟩
  have htk : Int.tmod (nn : Int) 41 = (k : Int) := by rw [← hk]; exact tmod_nat nn 41
  have hk41 : k < 41 := by omega
  have hmk := fun z => makeBytesZ k (by omega) z
  have hcv := fun z => zerosStr k z
  obtain ⟨zs, hzs⟩ : ∃ x : ByteArray, ⟨(List.replicate k 0).toArray⟩ = x := ⟨_, rfl⟩
  have hzl : zs.size = k := by rw [← hzs]; show (List.replicate k (0 : UInt8)).toArray.size = k; simp
  obtain ⟨P1, hP1⟩ : ∃ P, progS s.data.toList = P := ⟨_, rfl⟩
  obtain ⟨P2, hP2⟩ : ∃ P, progS (s.data.toList ++ List.replicate k 0) = P := ⟨_, rfl⟩
  obtain ⟨st, hst⟩ : ∃ st, s ++ zs = st := ⟨_, rfl⟩
  obtain ⟨tt, htt⟩ : ∃ st, t ++ zs = st := ⟨_, rfl⟩
  have hadd1 : ∀ z, (Op.stringOp .add s zs).run Tryd.prog z = .ok (.string st) z := fun z => by rw [← hst]; exact run_string_add_sum (P := Tryd.prog) (w := z) s zs (by omega)
  have hadd2 : ∀ z, (Op.stringOp .add t zs).run Tryd.prog z = .ok (.string tt) z := fun z => by rw [← htt]; exact run_string_add_sum (P := Tryd.prog) (w := z) t zs (by omega)
  have HP1 : ∀ z, Hid (Calls Tryd.prog 7 #[.string s] z fun e w' => ∃ cv av fv mv, e = .returned (progV P1 cv av fv mv) ∧ RdProg (some (upFrom z.heap.size)) w' P1 cv av fv mv ∧ Below z.heap.size z w') := fun z => by
    have h := prog_any s.data.toList z
    rw [ba_listZ, hP1] at h
    exact h
  have HP2 : ∀ z, Hid (Calls Tryd.prog 7 #[.string st] z fun e w' => ∃ cv av fv mv, e = .returned (progV P2 cv av fv mv) ∧ RdProg (some (upFrom z.heap.size)) w' P2 cv av fv mv ∧ Below z.heap.size z w') := fun z => by
    have h := prog_any (s.data.toList ++ List.replicate k 0) z
    rw [ba_twoZ, hzs, hst, hP2] at h
    exact h
  obtain ⟨Q, hQ⟩ : ∃ q, policyS t.data.toList P1 = q := ⟨_, rfl⟩
  have HQ1 : Hid (∀ (z : World) (cv av fv mv : Value), RdProg none z P1 cv av fv mv → Laid z → Calls Tryd.prog 9 #[.string t, progV P1 cv av fv mv] z fun e w' => ∃ lv ov cu su, e = .returned (polZV Q lv ov cu su) ∧ RdPolZ w' Q lv ov cu su ∧ Below z.heap.size z w') := fun z cv av fv mv hr hl => by
    have h := policy_any t.data.toList P1 cv av fv mv z hr hl
    rw [ba_listZ, hQ] at h
    exact h
  have HQ2 : Hid (∀ (z : World) (cv av fv mv : Value), RdProg none z P1 cv av fv mv → Laid z → Calls Tryd.prog 9 #[.string tt, progV P1 cv av fv mv] z fun e w' => ∃ lv ov cu su, e = .returned (polZV Q lv ov cu su) ∧ RdPolZ w' Q lv ov cu su ∧ Below z.heap.size z w') := fun z cv av fv mv hr hl => by
    have h := policy_any (t.data.toList ++ List.replicate k 0) P1 cv av fv mv z hr hl
    rw [ba_twoZ, hzs, htt, policy_zeros, hQ] at h
    exact h
  have HE : Hid ({ P2 with main := [] } = { P1 with main := [] }) := by
    show _ = _
    rw [← hP1, ← hP2]
    exact zeros_law _ k
  have HLD := Lib.hid hL
  rw [hzs] at hcv
  have HBW := Lib.hid ((Below.refl w.heap.size w).alloc (Nat.le_refl _) (.cells (madeCells #[.int .u8 0] k) 5))
  clear hk hzl hP1 hP2 hst htt hQ hzs hL hs ht
  go_enter Tryd.func4, Tryd.ntmps4
  go_upto_region 4 with fail
  clear hmk hcv
  generalize w.alloc (.cells (madeCells #[.int .u8 0] k) 5) = W at *
  go_upto_region 5 with (first | (go_at_call_of 7 (Value.string s); refine (HP1 _).out.mono ?_; rintro e z1 ⟨cv, av, fv, mv, rfl, hr, hbz⟩; obtain ⟨ac, kc, rfl, -, -⟩ := id hr.1; obtain ⟨aa, ka, rfl, -, -⟩ := id hr.2.1; obtain ⟨af, kf, rfl, -, -⟩ := id hr.2.2.1; obtain ⟨am, km, rfl, -, -⟩ := id hr.2.2.2.1; have HR1 := Lib.hid hr.forget; have HB1 := Lib.hid hbz; clear hr hbz) | (go_at_call_of 7 (Value.string st); refine (HP2 _).out.mono ?_; rintro e z2 ⟨cv, av, fv, mv, rfl, hr, hbz⟩; obtain ⟨bc, lc, rfl, -, -⟩ := id hr.1; obtain ⟨ba, la, rfl, -, -⟩ := id hr.2.1; obtain ⟨bf, lf, rfl, -, -⟩ := id hr.2.2.1; obtain ⟨bm, lm, rfl, -, -⟩ := id hr.2.2.2.1; have HR2 := Lib.hid hr.forget; have HB2 := Lib.hid hbz; clear hr hbz))
  clear HP1 HP2 hadd1
  have g2 := heap2_of (w := z2) (A := .cells #[.int .i64 P1.width, .slice ac P1.chans.length kc, .slice aa P1.arrays.length ka, .slice af P1.funcs.length kf, .slice am P1.main.length km] 28 (0, 0)) (B := .cells #[.int .i64 P2.width, .slice bc P2.chans.length lc, .slice ba P2.arrays.length la, .slice bf P2.funcs.length lf, .slice bm P2.main.length lm] 28 (0, 0)) (Below.refl _ _)
  have HK12 := Lib.hid (((Below.refl z2.heap.size z2).alloc (Nat.le_refl _) (.cells #[.int .i64 P1.width, .slice ac P1.chans.length kc, .slice aa P1.arrays.length ka, .slice af P1.funcs.length kf, .slice am P1.main.length km] 28)).alloc (by simp) (.cells #[.int .i64 P2.width, .slice bc P2.chans.length lc, .slice ba P2.arrays.length la, .slice bf P2.funcs.length lf, .slice bm P2.main.length lm] 28))
  have HA := Lib.hid g2.1
  have HC := Lib.hid g2.2.1
  clear g2
  generalize (z2.alloc (.cells #[.int .i64 P1.width, .slice ac P1.chans.length kc, .slice aa P1.arrays.length ka, .slice af P1.funcs.length kf, .slice am P1.main.length km] 28)).alloc (.cells #[.int .i64 P2.width, .slice bc P2.chans.length lc, .slice ba P2.arrays.length la, .slice bf P2.funcs.length lf, .slice bm P2.main.length lm] 28) = W2 at *
  obtain ⟨pb, hpb⟩ : ∃ x, z2.heap.size = x := ⟨_, rfl⟩
  rw [hpb] at HA HC
  try rw [hpb]
  have HPB := Lib.hid hpb
  clear hpb
  have HRZ := Lib.hid (HR1.out.keep HB2.out)
  have HRA := Lib.hid (HRZ.out.keep HK12.out)
  have HBZ := Lib.hid (bcomp (bcomp (bcomp HBW.out HB1.out) HB2.out) HK12.out)
  have HLZ := Lib.hid (HLD.out.keep HBZ.out)
  clear HR1
  have hpw : pb < W2.heap.size := (Array.getElem?_eq_some_iff.1 HA.out).1
  have q0 := keepS_cell (S := [pb]) (by simp) (row_of HA.out 0 _ rfl)
  have q1 := keepS_cell (S := [pb]) (by simp) (row_of HA.out 1 _ rfl)
  have q2 := keepS_cell (S := [pb]) (by simp) (row_of HA.out 2 _ rfl)
  have q3 := keepS_cell (S := [pb]) (by simp) (row_of HA.out 3 _ rfl)
  have q4 := keepS_cell (S := [pb]) (by simp) (row_of HA.out 4 _ rfl)
  refine wp_region_mixS [pb] (.one [0, 1, 3, 4, 5, 6] 2 (.one [] 7 (.one [] 8 (.fin [9])))) (fun j => decide (99 ≤ j)) (by kernel_rfl) (by kernel_rfl) rfl (by kernel_rfl) (fun _ d _ _ _ h => by cases d <;> exact h) ?_
  have HBd : Hid (Below W2.heap.size W2 W2.drew) := (Below.refl _ _).drew
  generalize W2.drew = y0 at *
  have ONE : Hid (∀ z : World, Below W2.heap.size W2 z → ∀ b ∈ [pb], z.heap[b]? = W2.heap[b]?) := fun z hz b hb => by
    simp only [List.mem_cons, List.not_mem_nil, or_false] at hb
    subst hb
    exact hz.block _ hpw
  have HK0 := Lib.hid (ONE.out y0 HBd.out)
  refine mix_one (by simp only [opsOf, List.filterMap_cons, List.filterMap_nil, List.getElem?_toArray, List.getElem?_cons_succ, List.getElem?_cons_zero]; rfl) ⟨_, keepS_of HK0.out⟩ ?_
  change wpQuiet _ _ _ _ [_, _, _, _, _, _] _
  (repeat (go_big_quiet_step (fail)))
  refine wpQuiet_nil ?_
  have HY1 := Lib.hid (HQ1.out y0 _ _ _ _ (HRA.out.keep HBd.out) (HLZ.out.keep HBd.out))
  refine mix_step rfl ?_
  go_wp2_with (go_at_call 9; refine HY1.out.mono ?_; rintro e y1 ⟨lv, ov, cu, su, rfl, hr1, hb1⟩)
  have HBa := Lib.hid (bcomp HBd.out hb1)
  have HRa := Lib.hid hr1
  have HK1 := Lib.hid (ONE.out y1 HBa.out)
  clear hr1 hb1 HY1
  (first | refine ⟨fun _ => ⟨_, keepS_of HK1.out⟩, ?_⟩ | refine ⟨⟨_, keepS_of HK1.out⟩, ?_⟩)
  clear q0 q1 q2 q3 q4
  have HY2 := Lib.hid (HQ2.out y1 _ _ _ _ (HRA.out.keep HBa.out) (HLZ.out.keep HBa.out))
  refine mix_now ?_
  refine mix_step rfl ?_
  go_wp2_with (go_at_call 9; refine HY2.out.mono ?_; rintro e y2 ⟨lu, ou, cv, sv, rfl, hr2, hb2⟩)
  have HBb := Lib.hid (bcomp HBa.out hb2)
  have HSM := Lib.hid (policySame Q lv ov cu su lu ou cv sv y2 (HRa.out.keep hb2) hr2)
  have HK2 := Lib.hid (ONE.out y2 HBb.out)
  clear hr2 hb2 HY2 HRa
  (first | refine ⟨fun _ => ⟨_, keepS_of HK2.out⟩, ?_⟩ | refine ⟨⟨_, keepS_of HK2.out⟩, ?_⟩)
  refine mix_now ?_
  refine mix_step rfl ?_
  go_wp2_with (go_at_call 8; refine HSM.out.mono ?_; rintro e y3 ⟨rfl, hb3⟩)
  have HBc := Lib.hid (bcomp HBb.out hb3)
  have HK3 := Lib.hid (ONE.out y3 HBc.out)
  clear hb3 HSM
  (first | refine ⟨fun _ => ⟨_, keepS_of HK3.out⟩, ?_⟩ | refine ⟨⟨_, keepS_of HK3.out⟩, ?_⟩)
  refine mix_fin (by simp only [opsOf, List.filterMap_cons, List.filterMap_nil, List.getElem?_toArray, List.getElem?_cons_succ, List.getElem?_cons_zero]; rfl) ⟨_, keepS_of HK3.out⟩ ?_
  change wpQuiet _ _ _ _ [_] _
  (repeat (go_big_quiet_step (fail)))
  refine wpQuiet_nil ?_
  have HA3 := Lib.hid ((HBc.out.block pb hpw).trans HA.out)
  have HC3 := Lib.hid ((HBc.out.block (pb + 1) (Array.getElem?_eq_some_iff.1 HC.out).1).trans HC.out)
  have c4 := row_of HA3.out 4 _ rfl
  have f4 := frozen_of_row y3 pb 4 _ _ HA3.out
  have d4 := row_of HC3.out 4 _ rfl
  have e4 := frozen_of_row y3 (pb + 1) 4 _ _ HC3.out
  go_upto_region 8 with fail
  clear c4 f4 d4 e4
  have ha4 := (heap_setCell_other (y3.setCell ⟨pb, 4, none⟩ (.slice none 0 0)) ⟨pb + 1, 4, none⟩ pb (.slice none 0 0) (by show ¬ pb = pb + 1; omega)).trans (heap_setCell_same y3 pb 4 _ _ (.slice none 0 0) HA3.out)
  have hc4 := heap_setCell_same (y3.setCell ⟨pb, 4, none⟩ (.slice none 0 0)) (pb + 1) 4 _ _ (.slice none 0 0) ((heap_setCell_other y3 ⟨pb, 4, none⟩ (pb + 1) (.slice none 0 0) (by show ¬ pb + 1 = pb; omega)).trans HC3.out)
  simp only [List.setIfInBounds_toArray, List.set_cons_succ, List.set_cons_zero] at ha4 hc4
  have hle : z2.heap.size ≤ pb := by have := HPB.out; omega
  have HB4 : Hid (Below z2.heap.size z2 ((y3.setCell ⟨pb, 4, none⟩ (.slice none 0 0)).setCell ⟨pb + 1, 4, none⟩ (.slice none 0 0))) := ((bcomp HK12.out HBc.out).setCell hle _).setCell (Nat.le_succ_of_le hle) _
  generalize (y3.setCell ⟨pb, 4, none⟩ (.slice none 0 0)).setCell ⟨pb + 1, 4, none⟩ (.slice none 0 0) = W4 at *
  have heq : eqProg { P1 with main := [] } { P2 with main := [] } = true := by rw [HE.out]; exact eqProg_selfZ _
  have HEQ : Hid (Calls Tryd.prog 6 #[.agg #[.int .i64 P1.width, .slice ac P1.chans.length kc, .slice aa P1.arrays.length ka, .slice af P1.funcs.length kf, .slice none 0 0], .agg #[.int .i64 P2.width, .slice bc P2.chans.length lc, .slice ba P2.arrays.length la, .slice bf P2.funcs.length lf, .slice none 0 0]] W4 fun e w' => e = .returned (.bool true) ∧ Below W4.heap.size W4 w') := by
    have h := equalProg { P1 with main := [] } { P2 with main := [] } _ _ _ _ _ _ _ _ W4 (rd_bare (HRZ.out.keep HB4.out)) (rd_bare (HR2.out.keep HB4.out))
    rw [heq] at h
    exact h
  clear heq
  have p0 := row_of ha4 0 _ rfl
  have p1 := row_of ha4 1 _ rfl
  have p2 := row_of ha4 2 _ rfl
  have p3 := row_of ha4 3 _ rfl
  have p4 := row_of ha4 4 _ rfl
  have q0 := row_of hc4 0 _ rfl
  have q1 := row_of hc4 1 _ rfl
  have q2 := row_of hc4 2 _ rfl
  have q3 := row_of hc4 3 _ rfl
  have q4 := row_of hc4 4 _ rfl
  have HBF := Lib.hid ((bcomp (bcomp HBW.out HB1.out) HB2.out).trans (HB4.out.mono (bcomp (bcomp HBW.out HB1.out) HB2.out).size))
  clear ha4 hc4 hle hlong1 hlong2 hl1 hl2 htk hadd2
  go_wp2_with (first | (go_at_call 6; refine HEQ.out.mono ?_; rintro e y4 ⟨rfl, hb4⟩; have HBY := Lib.hid (bcomp HBF.out hb4); clear hb4) | (go_at_call 10; refine (KN _).out.mono ?_; rintro e y5 ⟨rfl, hb5⟩))
  go_ret
  exact ⟨rfl, bcomp HBY.out hb5⟩
end Go.Proofs.YtfdinncgncbmfaaDoor
