/- The walk of awake: the chapter's examples hold. Condition: the tables are laid. -/
import Derived.Test.YteeebofjlchndaaDoorAwk
set_option linter.unusedVariables false
set_option linter.unusedSimpArgs false
namespace Go.Proofs.YteeebofjlchndaaDoor
open Go.ChangeShapes Go.WideShapes Go.ChangeAt Go.RowKit
instance (n : Int) : Decidable (InI64 n) := by unfold InI64; infer_instance
instance (n : Int) : Decidable (InU64 n) := by unfold InU64; infer_instance
instance (n : Int) : Decidable (InU8 n) := by unfold InU8; infer_instance
theorem rdArrs_nil (lo : Option (Nat → Prop)) (w : World) : RdArrs lo w (.slice none 0 0) [] := ⟨none, 0, rfl, by simp, fun i s h => by simp at h⟩
theorem rdArgs_nil (lo : Option (Nat → Prop)) (w : World) : RdArgs lo w (.slice none 0 0) [] := ⟨none, 0, rfl, by simp, fun i s h => by simp at h⟩
theorem rdInstrs_nil (lo : Option (Nat → Prop)) (w : World) : RdInstrs lo w (.slice none 0 0) [] := ⟨none, 0, rfl, by simp, fun i s h => by simp at h⟩
theorem rdFuncs_nil (lo : Option (Nat → Prop)) (w : World) : RdFuncs lo w (.slice none 0 0) [] := ⟨none, 0, rfl, by simp, fun i s h => by simp at h⟩
theorem rd_main {w : World} {lv : Value} {l : List InstrD} (h : RdInstrs none w lv l) : RdProg none w (pMain l) (.slice none 0 0) (.slice none 0 0) (.slice none 0 0) lv :=
  ⟨rdStrs_nil _ _, rdArrs_nil _ _, rdFuncs_nil _ _, h, (by unfold InI64; simp [pMain])⟩
theorem rdI {w : World} {g c : Nat} {l : List (InstrD × Value)} (hg : w.heap[g]? = some (.cells (l.flatMap insCells).toArray 40 (0, 0))) (hl : l.length ≤ 1000) (hx : ∀ p ∈ l, RdInstr none w p.1 p.2) (hcap : l.length ≤ c := by simp) : RdInstrs none w (.slice (some ⟨g, 0, none⟩) l.length c) (l.map Prod.fst) := by
  refine ⟨some ⟨g, 0, none⟩, c, by rw [List.length_map], by rw [List.length_map]; omega, fun i s hs => ?_⟩
  rw [List.getElem?_map] at hs
  cases hp : l[i]? with
  | none => rw [hp] at hs; cases hs
  | some p =>
    rw [hp] at hs
    cases hs
    have hcell : ∀ j v, j < 7 → (insCells p)[j]? = some v → w.cell? ⟨g, 0 + i * 7 + j, none⟩ = some v := fun j v hj hv => by
      refine row_of hg (0 + i * 7 + j) v ?_
      have := flat_get insCells 7 (fun _ => rfl) l i j p hp hj
      rw [Nat.zero_add, List.getElem?_toArray, this]
      exact hv
    exact ⟨g, 0, p.2, rfl, Free.none _ _ _, hcell 0 _ (by omega) rfl, hcell 1 _ (by omega) rfl, hcell 2 _ (by omega) rfl, hcell 3 _ (by omega) rfl, hcell 4 _ (by omega) rfl, hcell 5 _ (by omega) rfl, hcell 6 _ (by omega) rfl, hx p (List.mem_of_getElem? hp)⟩
theorem rdA {w : World} {g c : Nat} {l : List ArgD} (hg : w.heap[g]? = some (.cells (l.flatMap argCells).toArray 43 (0, 0))) (hl : l.length ≤ 1000) (hx : ∀ s ∈ l, InU64 s.num ∧ s.name.size ≤ maxLen) (hcap : l.length ≤ c := by simp) : RdArgs none w (.slice (some ⟨g, 0, none⟩) l.length c) l := by
  refine ⟨some ⟨g, 0, none⟩, c, rfl, by omega, fun i s hs => ⟨g, 0, rfl, Free.none _ _ _, row_of hg (0 + i * 2) _ ?_, row_of hg (0 + i * 2 + 1) _ ?_, hx s (List.mem_of_getElem? hs)⟩⟩
  · have := flat_get argCells 2 (fun _ => rfl) l i 0 s hs (by omega)
    rw [Nat.zero_add, List.getElem?_toArray, ← Nat.add_zero (i * 2), this]; rfl
  · have := flat_get argCells 2 (fun _ => rfl) l i 1 s hs (by omega)
    rw [Nat.zero_add, List.getElem?_toArray, this]; rfl
theorem ok_iRet {w : World} {av : Value} (h : RdArgs none w av [aZero]) : RdInstr none w iRet av := ⟨h, by decide, by decide, by decide, by decide, by decide, by decide⟩
theorem ok_iIte {w : World} {av : Value} (h : RdArgs none w av [aZero, aZero, aZero]) : RdInstr none w iIte av := ⟨h, by decide, by decide, by decide, by decide, by decide, by decide⟩
theorem ok_iAdd {w : World} {av : Value} (h : RdArgs none w av [⟨bs [121], 0⟩, ⟨bs [120], 0⟩]) : RdInstr none w iAdd av := ⟨h, by decide, by decide, by decide, by decide, by decide, by decide⟩
theorem make3 (w : World) : (Instr.makeSlice 36 (.int .i64 3) (.int .i64 3)).run Tryd.prog w = .ok (.slice (some ⟨w.heap.size, 0, none⟩) 3 3) (w.alloc (.cells #[.string ⟨#[]⟩, .int .u64 0, .string ⟨#[]⟩, .int .u64 0, .string ⟨#[]⟩, .int .u64 0] 43)) := by kernel_rfl
theorem rdS {w : World} {g c : Nat} {l : List ByteArray} (hg : w.heap[g]? = some (.cells (l.flatMap strCells).toArray 9 (0, 0))) (hl : l.length ≤ 1000) (hx : ∀ s ∈ l, s.size ≤ maxLen) (hcap : l.length ≤ c := by simp) : RdStrs none w (.slice (some ⟨g, 0, none⟩) l.length c) l := by
  refine ⟨some ⟨g, 0, none⟩, c, rfl, by omega, fun i s hs => ⟨g, 0, rfl, Free.none _ _ _, row_of hg (0 + i) _ ?_, hx s (List.mem_of_getElem? hs)⟩⟩
  have := flat_get strCells 1 (fun _ => rfl) l i 0 s hs (by omega)
  rw [Nat.mul_one, Nat.add_zero] at this
  rw [Nat.zero_add, List.getElem?_toArray, this]; rfl
set_option maxRecDepth 100000 in
set_option maxHeartbeats 12800000 in
theorem awake_any (w : World) (hL : Laid w) : Calls Tryd.prog 7 #[] w fun e w' => e = .returned (.bool true) ∧ Below w.heap.size w w' := by
  have HL := Lib.hid hL
  clear hL
  go_enter Tryd.func7, Tryd.ntmps7
  go_upto_region 3 with fail
  have hb1 := ((Below.refl w.heap.size w).alloc (Nat.le_refl _) (.cells #[.int .u8 8, .int .u8 0, .string ⟨#[]⟩, .string ⟨#[76]⟩, .slice none 0 0, .int .i64 0, .int .i64 0] 40)).alloc (by simp) (.cells #[.int .u8 8, .int .u8 0, .string ⟨#[]⟩, .string ⟨#[76]⟩, .slice none 0 0, .int .i64 0, .int .i64 0] 40)
  have q0 := heap_alloc2_old w (.cells #[.int .u8 8, .int .u8 0, .string ⟨#[]⟩, .string ⟨#[76]⟩, .slice none 0 0, .int .i64 0, .int .i64 0] 40) (.cells #[.int .u8 8, .int .u8 0, .string ⟨#[]⟩, .string ⟨#[76]⟩, .slice none 0 0, .int .i64 0, .int .i64 0] 40)
  have q1 := heap_alloc2_new w (.cells #[.int .u8 8, .int .u8 0, .string ⟨#[]⟩, .string ⟨#[76]⟩, .slice none 0 0, .int .i64 0, .int .i64 0] 40) (.cells #[.int .u8 8, .int .u8 0, .string ⟨#[]⟩, .string ⟨#[76]⟩, .slice none 0 0, .int .i64 0, .int .i64 0] 40)
  generalize ((w.alloc (.cells #[.int .u8 8, .int .u8 0, .string ⟨#[]⟩, .string ⟨#[76]⟩, .slice none 0 0, .int .i64 0, .int .i64 0] 40)).alloc (.cells #[.int .u8 8, .int .u8 0, .string ⟨#[]⟩, .string ⟨#[76]⟩, .slice none 0 0, .int .i64 0, .int .i64 0] 40)) = W1 at *
  have Q0 := Lib.hid q0
  have Q1 := Lib.hid q1
  have HB1 := Lib.hid hb1
  have f5 := row_of q1 5 (.int .i64 0) rfl
  have f6 := row_of q1 6 (.int .i64 0) rfl
  have g5 := frozen_of_row W1 _ 5 _ _ q1
  have g6 := frozen_of_row W1 _ 6 _ _ q1
  clear q0 q1 hb1
  go_upto_region 4 with (go_at_call 22; refine (at_any _ _ _).mono ?_; rintro e w2 ⟨rfl, hb2⟩; have f5' := cell_keep hb2 f5; have f6' := cell_keep hb2 f6; have g5' := free_keep hb2 f5 g5; have g6' := free_keep hb2 f6 g6; clear f5 f6 g5 g6)
  have hlt1 : w.heap.size + 1 < W1.heap.size := (Array.getElem?_eq_some_iff.1 Q1.out).1
  have n0 := (hb2.block w.heap.size (by omega)).trans Q0.out
  have n1 := (hb2.block (w.heap.size + 1) hlt1).trans Q1.out
  have hb3 : Below w.heap.size w ((w2.setCell ⟨w.heap.size + 1, 5, none⟩ (.int .i64 3)).setCell ⟨w.heap.size + 1, 6, none⟩ (.int .i64 1)) := ((bcomp HB1.out hb2).setCell (by simp) _).setCell (by simp) _
  have m1 := setCell_heap (o := 6) (v := .int .i64 1) (setCell_heap (o := 5) (v := .int .i64 3) n1)
  have m0 := ((setCell_turned (w2.setCell ⟨w.heap.size + 1, 5, none⟩ (.int .i64 3)) ⟨w.heap.size + 1, 6, none⟩ (.int .i64 1)).block w.heap.size (by have := hb2.size; simp; omega) (by simp)).trans (((setCell_turned w2 ⟨w.heap.size + 1, 5, none⟩ (.int .i64 3)).block w.heap.size (by have := hb2.size; omega) (by simp)).trans n0)
  generalize ((w2.setCell ⟨w.heap.size + 1, 5, none⟩ (.int .i64 3)).setCell ⟨w.heap.size + 1, 6, none⟩ (.int .i64 1)) = W3 at *
  have M0 := Lib.hid m0
  have M1 : Hid (W3.heap[w.heap.size + 1]? = some (.cells #[.int .u8 8, .int .u8 0, .string ⟨#[]⟩, .string ⟨#[76]⟩, .slice none 0 0, .int .i64 3, .int .i64 1] 40 (0, 0))) := m1
  have HB3 := Lib.hid hb3
  clear f5' f6' g5' g6' hb2 hlt1 n0 n1 hb3 m0 m1 Q0 Q1 HB1
  go_wp2_with (go_at_call 22; refine (at_any _ _ _).mono ?_; rintro e w4 ⟨rfl, hb4⟩)
  have hb5 : Below W3.heap.size W3 ((w4.alloc (.cells #[.string ⟨#[102]⟩, .slice none 0 0, .slice (some ⟨W3.heap.size, 0, none⟩) 1 1, .int .i64 2, .int .i64 1] 51)).alloc (.cells #[.int .i64 1, .slice none 0 0, .slice none 0 0, .slice (some ⟨w4.heap.size, 0, none⟩) 1 1, .slice none 0 0] 27)) := bcomp ((Below.refl _ _).alloc (Nat.le_refl _) _) (bcomp hb4 (((Below.refl _ _).alloc (Nat.le_refl _) _).alloc (by simp) _))
  have r0 := heap_alloc_new W3 (.cells #[.int .u8 4, .int .u8 0, .string ⟨#[120]⟩, .string ⟨#[102]⟩, .slice none 0 0, .int .i64 0, .int .i64 0] 40)
  have hs4 : W3.heap.size + 1 ≤ w4.heap.size := by have := hb4.size; simpa using this
  have r1 := (hb4.block W3.heap.size (by simp)).trans r0
  have hb6 : Below w4.heap.size w4 ((w4.alloc (.cells #[.string ⟨#[102]⟩, .slice none 0 0, .slice (some ⟨W3.heap.size, 0, none⟩) 1 1, .int .i64 2, .int .i64 1] 51)).alloc (.cells #[.int .i64 1, .slice none 0 0, .slice none 0 0, .slice (some ⟨w4.heap.size, 0, none⟩) 1 1, .slice none 0 0] 27)) := ((Below.refl _ _).alloc (Nat.le_refl _) _).alloc (by simp) _
  have r2 := (hb6.block W3.heap.size (by omega)).trans r1
  have r3 := heap_alloc2_old w4 (.cells #[.string ⟨#[102]⟩, .slice none 0 0, .slice (some ⟨W3.heap.size, 0, none⟩) 1 1, .int .i64 2, .int .i64 1] 51) (.cells #[.int .i64 1, .slice none 0 0, .slice none 0 0, .slice (some ⟨w4.heap.size, 0, none⟩) 1 1, .slice none 0 0] 27)
  have r4 := heap_alloc2_new w4 (.cells #[.string ⟨#[102]⟩, .slice none 0 0, .slice (some ⟨W3.heap.size, 0, none⟩) 1 1, .int .i64 2, .int .i64 1] 51) (.cells #[.int .i64 1, .slice none 0 0, .slice none 0 0, .slice (some ⟨w4.heap.size, 0, none⟩) 1 1, .slice none 0 0] 27)
  generalize ((w4.alloc (.cells #[.string ⟨#[102]⟩, .slice none 0 0, .slice (some ⟨W3.heap.size, 0, none⟩) 1 1, .int .i64 2, .int .i64 1] 51)).alloc (.cells #[.int .i64 1, .slice none 0 0, .slice none 0 0, .slice (some ⟨w4.heap.size, 0, none⟩) 1 1, .slice none 0 0] 27)) = W5 at *
  have M0 := Lib.hid ((hb5.block _ (Array.getElem?_eq_some_iff.1 M0.out).1).trans M0.out)
  have M1 := Lib.hid ((hb5.block _ (Array.getElem?_eq_some_iff.1 M1.out).1).trans M1.out)
  have HB5 := Lib.hid (bcomp HB3.out hb5)
  have HLD := Lib.hid (HL.out.keep HB5.out)
  have HE5 : Hid (RdProg none W5 e5 (.slice none 0 0) (.slice none 0 0) (.slice (some ⟨w4.heap.size, 0, none⟩) 1 1) (.slice none 0 0)) := by
    have hcode : RdInstrs none W5 (.slice (some ⟨W3.heap.size, 0, none⟩) 1 1) [iCall] := rdI (l := [(iCall, .slice none 0 0)]) r2 (by simp) (fun p hp => by
      rw [List.mem_singleton] at hp; subst hp
      exact ⟨rdArgs_nil _ _, by decide, by decide, by decide, by decide, by decide, by decide⟩)
    refine ⟨rdStrs_nil _ _, rdArrs_nil _ _, ⟨_, 1, rfl, by decide, fun i s hs => ?_⟩, rdInstrs_nil _ _, by decide⟩
    have hi : i = 0 := by
      have := (List.getElem?_eq_some_iff.1 hs).1
      simp [e5] at this
      omega
    subst hi
    have : s = fLoop := by simpa [e5] using hs.symm
    subst this
    exact ⟨_, 0, .slice none 0 0, .slice (some ⟨W3.heap.size, 0, none⟩) 1 1, rfl, Free.none _ _ _, row_of r3 0 _ rfl, row_of r3 1 _ rfl, row_of r3 2 _ rfl, row_of r3 3 _ rfl, row_of r3 4 _ rfl, rdStrs_nil _ _, hcode, by decide, by decide, by decide⟩
  have R4 := Lib.hid r4
  clear hb4 hb5 hb6 r0 r1 r2 r3 r4 hs4
  -- MIX
  go_cut [65] from 19 to 114 (fun cc wx => cc = .bool false ∧ Below W5.heap.size W5 wx)
  case first =>
    refine wp_region_mix (.one [1] 0 (.one [] 2 (.one [3,4,5,6] 7 (.one [8,9,10,11,12,15] 13 (.one [] 14 (.one [] 16 (.one [17,18,19,20] 21 (.one [] 22 (.one [] 23 (.one [] 24 (.one [25,26,27,28] 29 (.one [] 30 (.one [31,32,33,36] 34 (.one [35] 37 (.one [38,39,40,43] 41 (.one [42] 44 (.fin [45,46]))))))))))))))))) (fun _ => false) (by kernel_rfl) (by kernel_rfl) rfl (by kernel_rfl) (fun _ d _ _ _ h => by cases d <;> exact h) ?_
    have HB : Hid (Below W5.heap.size W5 W5.drew) := (Below.refl _ _).drew
    generalize W5.drew = wn at *
    refine mix_one (by simp only [opsOf, List.filterMap_cons, List.filterMap_nil, List.getElem?_toArray, List.getElem?_cons_succ, List.getElem?_cons_zero]; rfl) ⟨_, ext_of HB.out⟩ ?_
    change wpQuiet _ _ _ _ [_] _
    (repeat (go_big_quiet_step (fail)))
    refine wpQuiet_nil ?_
    refine mix_step rfl ?_
    go_wp2_with (go_at_call 24; refine (main_any _ _ _ _ rfl _).mono ?_; rintro e wn ⟨rfl, hbn⟩)
    have HB := Lib.hid (bcomp HB.out hbn)
    clear hbn
    refine ⟨fun _ => ⟨_, ext_of HB.out⟩, ?_⟩
    refine mix_now ?_
    refine mix_step rfl ?_
    go_wp2_with (go_at_call 23; refine (is_any e1 _ _ _ _ none _ (rd_main (rdInstrs_nil _ _)) (HLD.out.keep HB.out) ck1).mono ?_; rintro e wn ⟨rfl, hbn⟩)
    have HB := Lib.hid (bcomp HB.out hbn)
    clear hbn
    refine ⟨fun _ => ⟨_, ext_of HB.out⟩, ?_⟩
    refine mix_one (by simp only [opsOf, List.filterMap_cons, List.filterMap_nil, List.getElem?_toArray, List.getElem?_cons_succ, List.getElem?_cons_zero]; rfl) ⟨_, ext_of HB.out⟩ ?_
    change wpQuiet _ _ _ _ [_, _, _, _] _
    (repeat (go_big_quiet_step (fail)))
    refine wpQuiet_nil ?_
    refine mix_step rfl ?_
    go_wp2_with (go_at_call 23; refine (is_any e2 _ _ _ _ (some ⟨0, 0, 3⟩) _ ⟨rdStrs_nil _ _, rdArrs_nil _ _, rdFuncs_nil _ _, rdInstrs_nil _ _, by decide⟩ (HLD.out.keep HB.out) ck2).mono ?_; rintro e wn ⟨rfl, hbn⟩)
    have HB := Lib.hid (bcomp HB.out hbn)
    clear hbn
    refine ⟨fun _ => ⟨_, ext_of HB.out⟩, ?_⟩
    refine mix_one (by simp only [opsOf, List.filterMap_cons, List.filterMap_nil, List.getElem?_toArray, List.getElem?_cons_succ, List.getElem?_cons_zero]; rfl) ⟨_, ext_of HB.out⟩ ?_
    change wpQuiet _ _ _ _ [_, _, _, _, _, _] _
    have l0 := ext_cell (row_of M0.out 0 _ rfl)
    have l1 := ext_cell (row_of M0.out 1 _ rfl)
    have l2 := ext_cell (row_of M0.out 2 _ rfl)
    have l3 := ext_cell (row_of M0.out 3 _ rfl)
    have l4 := ext_cell (row_of M0.out 4 _ rfl)
    have l5 := ext_cell (row_of M0.out 5 _ rfl)
    have l6 := ext_cell (row_of M0.out 6 _ rfl)
    (repeat (go_big_quiet_step (fail)))
    refine wpQuiet_nil ?_
    clear l0 l1 l2 l3 l4 l5 l6
    refine mix_step rfl ?_
    go_wp2_with fail
    have hbn : Below wn.heap.size wn (wn.alloc (.cells #[.int .u8 10, .int .u8 0, .string ⟨#[]⟩, .string ⟨#[76]⟩, .slice none 0 0, .int .i64 0, .int .i64 0, .int .u8 8, .int .u8 0, .string ⟨#[]⟩, .string ⟨#[76]⟩, .slice none 0 0, .int .i64 0, .int .i64 0] 40)) := (Below.refl _ _).alloc (Nat.le_refl _) _
    have HN := Lib.hid (heap_alloc_new wn (.cells #[.int .u8 10, .int .u8 0, .string ⟨#[]⟩, .string ⟨#[76]⟩, .slice none 0 0, .int .i64 0, .int .i64 0, .int .u8 8, .int .u8 0, .string ⟨#[]⟩, .string ⟨#[76]⟩, .slice none 0 0, .int .i64 0, .int .i64 0] 40))
    generalize wn.alloc (.cells #[.int .u8 10, .int .u8 0, .string ⟨#[]⟩, .string ⟨#[76]⟩, .slice none 0 0, .int .i64 0, .int .i64 0, .int .u8 8, .int .u8 0, .string ⟨#[]⟩, .string ⟨#[76]⟩, .slice none 0 0, .int .i64 0, .int .i64 0] 40) = wm at *
    have HB := Lib.hid (bcomp HB.out hbn)
    have HQ : Hid (RdInstrs none wm (.slice (some ⟨wn.heap.size, 0, none⟩) 2 2) [iLabel, iJump]) := rdI (l := [(iLabel, .slice none 0 0), (iJump, .slice none 0 0)]) HN.out (by simp) (fun p hp => by
      simp only [List.mem_cons, List.not_mem_nil, or_false] at hp
      rcases hp with rfl | rfl <;> exact ⟨rdArgs_nil _ _, by decide, by decide, by decide, by decide, by decide, by decide⟩)
    clear HN
    generalize wn.heap.size = sq at *
    refine ⟨⟨_, ext_of HB.out⟩, ?_⟩
    clear hbn
    obtain ⟨wn, rfl⟩ : ∃ x : World, x = wm := ⟨_, rfl⟩
    refine mix_now ?_
    have HBO := HB
    refine mix_step rfl ?_
    go_wp2_with (go_at_call 24; refine (main_any _ _ _ _ rfl _).mono ?_; rintro e wn ⟨rfl, hbn⟩)
    have HB := Lib.hid (bcomp HB.out hbn)
    have HQ := Lib.hid (HQ.out.keep hbn)
    clear hbn
    refine ⟨fun _ => ⟨_, ext_of HB.out⟩, ?_⟩
    refine mix_now ?_
    refine mix_step rfl ?_
    go_wp2_with (go_at_call 23; refine (is_any e3 _ _ _ _ none _ (rd_main HQ.out) (HLD.out.keep HB.out) ck3).mono ?_; rintro e wn ⟨rfl, hbn⟩)
    have HB := Lib.hid (bcomp HB.out hbn)
    clear hbn
    refine ⟨fun _ => ⟨_, ext_of HB.out⟩, ?_⟩
    clear HQ
    refine mix_one (by simp only [opsOf, List.filterMap_cons, List.filterMap_nil, List.getElem?_toArray, List.getElem?_cons_succ, List.getElem?_cons_zero]; rfl) ⟨_, ext_of HB.out⟩ ?_
    change wpQuiet _ _ _ _ [_, _, _, _] _
    have l0 := ext_cell (row_of M1.out 0 _ rfl)
    have l1 := ext_cell (row_of M1.out 1 _ rfl)
    have l2 := ext_cell (row_of M1.out 2 _ rfl)
    have l3 := ext_cell (row_of M1.out 3 _ rfl)
    have l4 := ext_cell (row_of M1.out 4 _ rfl)
    have l5 := ext_cell (row_of M1.out 5 _ rfl)
    have l6 := ext_cell (row_of M1.out 6 _ rfl)
    (repeat (go_big_quiet_step (fail)))
    refine wpQuiet_nil ?_
    clear l0 l1 l2 l3 l4 l5 l6
    refine mix_step rfl ?_
    go_wp2_with fail
    have hbn : Below wn.heap.size wn (wn.alloc (.cells #[.int .u8 8, .int .u8 0, .string ⟨#[]⟩, .string ⟨#[76]⟩, .slice none 0 0, .int .i64 3, .int .i64 1] 40)) := (Below.refl _ _).alloc (Nat.le_refl _) _
    have HN := Lib.hid (heap_alloc_new wn (.cells #[.int .u8 8, .int .u8 0, .string ⟨#[]⟩, .string ⟨#[76]⟩, .slice none 0 0, .int .i64 3, .int .i64 1] 40))
    generalize wn.alloc (.cells #[.int .u8 8, .int .u8 0, .string ⟨#[]⟩, .string ⟨#[76]⟩, .slice none 0 0, .int .i64 3, .int .i64 1] 40) = wm at *
    have HB := Lib.hid (bcomp HB.out hbn)
    have HQ : Hid (RdInstrs none wm (.slice (some ⟨wn.heap.size, 0, none⟩) 1 1) [iThere]) := rdI (l := [(iThere, .slice none 0 0)]) HN.out (by simp) (fun p hp => by
      rw [List.mem_singleton] at hp; subst hp
      exact ⟨rdArgs_nil _ _, by decide, by decide, by decide, by decide, by decide, by decide⟩)
    clear HN
    generalize wn.heap.size = sq at *
    refine ⟨⟨_, ext_of HB.out⟩, ?_⟩
    clear hbn
    obtain ⟨wn, rfl⟩ : ∃ x : World, x = wm := ⟨_, rfl⟩
    refine mix_now ?_
    refine mix_step rfl ?_
    go_wp2_with (go_at_call 24; refine (main_any _ _ _ _ rfl _).mono ?_; rintro e wn ⟨rfl, hbn⟩)
    have HB := Lib.hid (bcomp HB.out hbn)
    have HQ := Lib.hid (HQ.out.keep hbn)
    clear hbn
    refine ⟨fun _ => ⟨_, ext_of HB.out⟩, ?_⟩
    refine mix_now ?_
    refine mix_step rfl ?_
    go_wp2_with (go_at_call 22; refine (at_any _ _ _).mono ?_; rintro e wn ⟨rfl, hbn⟩)
    have HB := Lib.hid (bcomp HB.out hbn)
    have HQ := Lib.hid (HQ.out.keep hbn)
    clear hbn
    refine ⟨fun _ => ⟨_, ext_of HB.out⟩, ?_⟩
    refine mix_now ?_
    refine mix_step rfl ?_
    go_wp2_with (go_at_call 23; refine (is_any e4 _ _ _ _ (some ⟨3, 1, 6⟩) _ (rd_main HQ.out) (HLD.out.keep HB.out) ck4).mono ?_; rintro e wn ⟨rfl, hbn⟩)
    have HB := Lib.hid (bcomp HB.out hbn)
    clear hbn
    refine ⟨fun _ => ⟨_, ext_of HB.out⟩, ?_⟩
    clear HQ
    refine mix_one (by simp only [opsOf, List.filterMap_cons, List.filterMap_nil, List.getElem?_toArray, List.getElem?_cons_succ, List.getElem?_cons_zero]; rfl) ⟨_, ext_of HB.out⟩ ?_
    change wpQuiet _ _ _ _ [_, _, _, _] _
    have l0 := ext_cell (row_of R4.out 0 _ rfl)
    have l1 := ext_cell (row_of R4.out 1 _ rfl)
    have l2 := ext_cell (row_of R4.out 2 _ rfl)
    have l3 := ext_cell (row_of R4.out 3 _ rfl)
    have l4 := ext_cell (row_of R4.out 4 _ rfl)
    (repeat (go_big_quiet_step (fail)))
    refine wpQuiet_nil ?_
    clear l0 l1 l2 l3 l4
    refine mix_step rfl ?_
    go_wp2_with (go_at_call 22; refine (at_any _ _ _).mono ?_; rintro e wn ⟨rfl, hbn⟩)
    have HB := Lib.hid (bcomp HB.out hbn)
    clear hbn
    refine ⟨fun _ => ⟨_, ext_of HB.out⟩, ?_⟩
    refine mix_now ?_
    refine mix_step rfl ?_
    go_wp2_with (go_at_call 23; refine (is_any e5 _ _ _ _ (some ⟨2, 1, 9⟩) _ (HE5.out.keep HB.out) (HLD.out.keep HB.out) ck5).mono ?_; rintro e wn ⟨rfl, hbn⟩)
    have HB := Lib.hid (bcomp HB.out hbn)
    clear hbn
    refine ⟨fun _ => ⟨_, ext_of HB.out⟩, ?_⟩
    refine mix_one (by simp only [opsOf, List.filterMap_cons, List.filterMap_nil, List.getElem?_toArray, List.getElem?_cons_succ, List.getElem?_cons_zero]; rfl) ⟨_, ext_of HB.out⟩ ?_
    change wpQuiet _ _ _ _ [_, _, _, _] _
    (repeat (go_big_quiet_step (fail)))
    refine wpQuiet_nil ?_
    refine mix_step rfl ?_
    go_wp2_with fail
    have hbn : Below wn.heap.size wn (wn.alloc (.cells #[.string ⟨#[97]⟩, .string ⟨#[97]⟩] 9)) := (Below.refl _ _).alloc (Nat.le_refl _) _
    have HN := Lib.hid (heap_alloc_new wn (.cells #[.string ⟨#[97]⟩, .string ⟨#[97]⟩] 9))
    generalize wn.alloc (.cells #[.string ⟨#[97]⟩, .string ⟨#[97]⟩] 9) = wm at *
    have HB := Lib.hid (bcomp HB.out hbn)
    have HQ : Hid (RdStrs none wm (.slice (some ⟨wn.heap.size, 0, none⟩) 2 2) [bs [97], bs [97]]) := rdS (l := [bs [97], bs [97]]) HN.out (by simp) (fun s hs => by
      simp only [List.mem_cons, List.not_mem_nil, or_false] at hs
      rcases hs with rfl | rfl <;> decide)
    clear HN
    generalize wn.heap.size = sq at *
    refine ⟨⟨_, ext_of HB.out⟩, ?_⟩
    clear hbn
    obtain ⟨wn, rfl⟩ : ∃ x : World, x = wm := ⟨_, rfl⟩
    refine mix_one (by simp only [opsOf, List.filterMap_cons, List.filterMap_nil, List.getElem?_toArray, List.getElem?_cons_succ, List.getElem?_cons_zero]; rfl) ⟨_, ext_of HB.out⟩ ?_
    change wpQuiet _ _ _ _ [_] _
    (repeat (go_big_quiet_step (fail)))
    refine wpQuiet_nil ?_
    refine mix_step rfl ?_
    go_wp2_with (go_at_call 23; refine (is_any e6 _ _ _ _ (some ⟨0, 0, 8⟩) _ ⟨HQ.out, rdArrs_nil _ _, rdFuncs_nil _ _, rdInstrs_nil _ _, by decide⟩ (HLD.out.keep HB.out) ck6).mono ?_; rintro e wn ⟨rfl, hbn⟩)
    have HB := Lib.hid (bcomp HB.out hbn)
    clear hbn
    refine ⟨fun _ => ⟨_, ext_of HB.out⟩, ?_⟩
    clear HQ
    refine mix_one (by simp only [opsOf, List.filterMap_cons, List.filterMap_nil, List.getElem?_toArray, List.getElem?_cons_succ, List.getElem?_cons_zero]; rfl) ⟨_, ext_of HB.out⟩ ?_
    change wpQuiet _ _ _ _ [_, _, _, _] _
    (repeat (go_big_quiet_step (fail)))
    refine wpQuiet_nil ?_
    refine mix_step rfl ?_
    go_wp2_with fail
    have hbn : Below wn.heap.size wn (wn.alloc (.cells #[.string ⟨#[101, 110, 100]⟩] 9)) := (Below.refl _ _).alloc (Nat.le_refl _) _
    have HN := Lib.hid (heap_alloc_new wn (.cells #[.string ⟨#[101, 110, 100]⟩] 9))
    generalize wn.alloc (.cells #[.string ⟨#[101, 110, 100]⟩] 9) = wm at *
    have HB := Lib.hid (bcomp HB.out hbn)
    have HQ : Hid (RdStrs none wm (.slice (some ⟨wn.heap.size, 0, none⟩) 1 1) [bs [101, 110, 100]]) := rdS (l := [bs [101, 110, 100]]) HN.out (by simp) (fun s hs => by
      rw [List.mem_singleton] at hs; subst hs; decide)
    clear HN
    generalize wn.heap.size = sq at *
    refine ⟨⟨_, ext_of HB.out⟩, ?_⟩
    clear hbn
    obtain ⟨wn, rfl⟩ : ∃ x : World, x = wm := ⟨_, rfl⟩
    refine mix_one (by simp only [opsOf, List.filterMap_cons, List.filterMap_nil, List.getElem?_toArray, List.getElem?_cons_succ, List.getElem?_cons_zero]; rfl) ⟨_, ext_of HB.out⟩ ?_
    change wpQuiet _ _ _ _ [_] _
    (repeat (go_big_quiet_step (fail)))
    refine wpQuiet_nil ?_
    refine mix_step rfl ?_
    go_wp2_with (go_at_call 23; refine (is_any e7 _ _ _ _ (some ⟨0, 0, 4⟩) _ ⟨HQ.out, rdArrs_nil _ _, rdFuncs_nil _ _, rdInstrs_nil _ _, by decide⟩ (HLD.out.keep HB.out) ck7).mono ?_; rintro e wn ⟨rfl, hbn⟩)
    have HB := Lib.hid (bcomp HB.out hbn)
    clear hbn
    refine ⟨fun _ => ⟨_, ext_of HB.out⟩, ?_⟩
    clear HQ
    refine mix_fin (by simp only [opsOf, List.filterMap_cons, List.filterMap_nil, List.getElem?_toArray, List.getElem?_cons_succ, List.getElem?_cons_zero]; rfl) ⟨_, ext_of HB.out⟩ ?_
    change wpQuiet _ _ _ _ [_, _] _
    (repeat (go_big_quiet_step (fail)))
    refine wpQuiet_nil ?_
    go_wp2_with fail
    go_meet
    exact ⟨rfl, HB.out⟩
  case rest =>
    obtain ⟨rfl, hbq⟩ := hcut
    have HB6 := Lib.hid (bcomp HB5.out hbq)
    have HLD := Lib.hid (HLD.out.keep hbq)
    clear hbq M0 M1 R4 HE5 HB5 HB3
    obtain ⟨W6, rfl⟩ : ∃ x : World, x = wc := ⟨_, rfl⟩
    go_upto_region 7 with fail
    go_cut [84] from 66 to 114 (fun cc wx => cc = .bool false ∧ Below W6.heap.size W6 wx)
    case first =>
      refine wp_region_mix (.two [0] 1 2 (.one [] 2 (.one [3] 4 (.one [] 5 (.one [] 6 (.one [] 7 (.two [8, 9] 10 11 (.one [] 11 (.one [12] 13 (.one [] 14 (.one [] 15 (.one [] 16 (.fin [17, 18])))))) (.one [] 10 (.one [12] 13 (.one [] 14 (.one [] 15 (.one [] 16 (.fin [17, 18])))))))))))) (.one [] 1 (.one [3] 4 (.one [] 5 (.one [] 6 (.one [] 7 (.two [8, 9] 10 11 (.one [] 11 (.one [12] 13 (.one [] 14 (.one [] 15 (.one [] 16 (.fin [17, 18])))))) (.one [] 10 (.one [12] 13 (.one [] 14 (.one [] 15 (.one [] 16 (.fin [17, 18]))))))))))))) (fun _ => false) (by kernel_rfl) (by kernel_rfl) rfl (by kernel_rfl) (fun _ d _ _ _ h => by cases d <;> exact h) ?_
      have HB : Hid (Below W6.heap.size W6 W6.drew) := (Below.refl _ _).drew
      generalize W6.drew = wn at *
      have hmk := make3
      refine mix_two (by simp only [opsOf, List.filterMap_cons, List.filterMap_nil, List.getElem?_toArray, List.getElem?_cons_succ, List.getElem?_cons_zero]; rfl) ⟨_, ext_of HB.out⟩ ?_
      change wpQuiet _ _ _ _ [_] _
      (repeat (go_big_quiet_step (fail)))
      refine wpQuiet_nil ?_
      refine ⟨?_, ?_⟩
      · refine mix_step rfl ?_
        go_wp2_with fail
        have hbn : Below wn.heap.size wn (wn.alloc (.cells #[.string ⟨#[]⟩, .int .u64 0] 43)) := (Below.refl _ _).alloc (Nat.le_refl _) _
        have HN := Lib.hid (heap_alloc_new wn (.cells #[.string ⟨#[]⟩, .int .u64 0] 43))
        generalize wn.alloc (.cells #[.string ⟨#[]⟩, .int .u64 0] 43) = wm at *
        have HB := Lib.hid (bcomp HB.out hbn)
        have HQ : Hid (RdArgs none wm (.slice (some ⟨wn.heap.size, 0, none⟩) 1 1) [aZero]) := rdA (l := [aZero]) HN.out (by simp) (fun s hs => by
          rw [List.mem_singleton] at hs; subst hs; exact ⟨by decide, by decide⟩)
        clear HN
        generalize wn.heap.size = sq at *
        refine ⟨⟨_, ext_of HB.out⟩, ?_⟩
        clear hbn
        obtain ⟨wn, rfl⟩ : ∃ x : World, x = wm := ⟨_, rfl⟩
        refine mix_now ?_
        refine mix_step rfl ?_
        go_wp2_with (go_at_call 22; refine (at_any _ _ _).mono ?_; rintro e wn ⟨rfl, hbn⟩)
        have HB := Lib.hid (bcomp HB.out hbn)
        have HQ := Lib.hid (HQ.out.keep hbn)
        clear hbn
        refine ⟨fun _ => ⟨_, ext_of HB.out⟩, ?_⟩
        refine mix_one (by simp only [opsOf, List.filterMap_cons, List.filterMap_nil, List.getElem?_toArray, List.getElem?_cons_succ, List.getElem?_cons_zero]; rfl) ⟨_, ext_of HB.out⟩ ?_
        change wpQuiet _ _ _ _ [_] _
        (repeat (go_big_quiet_step (fail)))
        refine wpQuiet_nil ?_
        refine mix_step rfl ?_
        go_wp2_with fail
        have hbn : Below wn.heap.size wn (wn.alloc (.cells #[.int .u8 12, .int .u8 0, .string ⟨#[]⟩, .string ⟨#[]⟩, .slice (some ⟨sq, 0, none⟩) 1 1, .int .i64 2, .int .i64 1] 40)) := (Below.refl _ _).alloc (Nat.le_refl _) _
        have HN := Lib.hid (heap_alloc_new wn (.cells #[.int .u8 12, .int .u8 0, .string ⟨#[]⟩, .string ⟨#[]⟩, .slice (some ⟨sq, 0, none⟩) 1 1, .int .i64 2, .int .i64 1] 40))
        generalize wn.alloc (.cells #[.int .u8 12, .int .u8 0, .string ⟨#[]⟩, .string ⟨#[]⟩, .slice (some ⟨sq, 0, none⟩) 1 1, .int .i64 2, .int .i64 1] 40) = wm at *
        have HB := Lib.hid (bcomp HB.out hbn)
        have HR : Hid (RdInstrs none wm (.slice (some ⟨wn.heap.size, 0, none⟩) 1 1) [iRet]) := rdI (l := [(iRet, .slice (some ⟨sq, 0, none⟩) 1 1)]) HN.out (by simp) (fun p hp => by
          rw [List.mem_singleton] at hp; subst hp
          exact ok_iRet (HQ.out.keep hbn))
        clear HN HQ
        generalize wn.heap.size = sr at *
        refine ⟨⟨_, ext_of HB.out⟩, ?_⟩
        clear hbn
        obtain ⟨wn, rfl⟩ : ∃ x : World, x = wm := ⟨_, rfl⟩
        refine mix_now ?_
        refine mix_step rfl ?_
        go_wp2_with (go_at_call 24; refine (main_any _ _ _ _ rfl _).mono ?_; rintro e wn ⟨rfl, hbn⟩)
        have HB := Lib.hid (bcomp HB.out hbn)
        have HR := Lib.hid (HR.out.keep hbn)
        clear hbn
        refine ⟨fun _ => ⟨_, ext_of HB.out⟩, ?_⟩
        refine mix_now ?_
        refine mix_step rfl ?_
        go_wp2_with (go_at_call 22; refine (at_any _ _ _).mono ?_; rintro e wn ⟨rfl, hbn⟩)
        have HB := Lib.hid (bcomp HB.out hbn)
        have HR := Lib.hid (HR.out.keep hbn)
        clear hbn
        refine ⟨fun _ => ⟨_, ext_of HB.out⟩, ?_⟩
        refine mix_now ?_
        refine mix_step rfl ?_
        go_wp2_with (go_at_call 23; refine (is_any e8 _ _ _ _ (some ⟨2, 1, 4⟩) _ (rd_main HR.out) (HLD.out.keep HB.out) ck8).mono ?_; rintro e wn ⟨rfl, hbn⟩)
        have HB := Lib.hid (bcomp HB.out hbn)
        clear hbn
        refine ⟨fun _ => ⟨_, ext_of HB.out⟩, ?_⟩
        clear HR
        refine mix_two (by simp only [opsOf, List.filterMap_cons, List.filterMap_nil, List.getElem?_toArray, List.getElem?_cons_succ, List.getElem?_cons_zero]; rfl) ⟨_, ext_of HB.out⟩ ?_
        change wpQuiet _ _ _ _ [_, _] _
        (repeat (go_big_quiet_step (fail)))
        refine wpQuiet_nil ?_
        refine ⟨?_, ?_⟩
        · refine mix_step rfl ?_
          go_wp2_with fail
          have hbn : Below wn.heap.size wn (wn.alloc (.cells #[.string ⟨#[]⟩, .int .u64 0, .string ⟨#[]⟩, .int .u64 0, .string ⟨#[]⟩, .int .u64 0] 43)) := (Below.refl _ _).alloc (Nat.le_refl _) _
          have HN := Lib.hid (heap_alloc_new wn (.cells #[.string ⟨#[]⟩, .int .u64 0, .string ⟨#[]⟩, .int .u64 0, .string ⟨#[]⟩, .int .u64 0] 43))
          generalize wn.alloc (.cells #[.string ⟨#[]⟩, .int .u64 0, .string ⟨#[]⟩, .int .u64 0, .string ⟨#[]⟩, .int .u64 0] 43) = wm at *
          have HB := Lib.hid (bcomp HB.out hbn)
          have HQ : Hid (RdArgs none wm (.slice (some ⟨wn.heap.size, 0, none⟩) 3 3) [aZero, aZero, aZero]) := rdA (l := [aZero, aZero, aZero]) HN.out (by simp) (fun s hs => by
            simp only [List.mem_cons, List.not_mem_nil, or_false, or_self] at hs
            subst hs; exact ⟨by decide, by decide⟩)
          clear HN
          generalize wn.heap.size = sq at *
          refine ⟨⟨_, ext_of HB.out⟩, ?_⟩
          clear hbn
          obtain ⟨wn, rfl⟩ : ∃ x : World, x = wm := ⟨_, rfl⟩
          refine mix_now ?_
          refine mix_step rfl ?_
          go_wp2_with (go_at_call 22; refine (at_any _ _ _).mono ?_; rintro e wn ⟨rfl, hbn⟩)
          have HB := Lib.hid (bcomp HB.out hbn)
          have HQ := Lib.hid (HQ.out.keep hbn)
          clear hbn
          refine ⟨fun _ => ⟨_, ext_of HB.out⟩, ?_⟩
          refine mix_one (by simp only [opsOf, List.filterMap_cons, List.filterMap_nil, List.getElem?_toArray, List.getElem?_cons_succ, List.getElem?_cons_zero]; rfl) ⟨_, ext_of HB.out⟩ ?_
          change wpQuiet _ _ _ _ [_] _
          (repeat (go_big_quiet_step (fail)))
          refine wpQuiet_nil ?_
          refine mix_step rfl ?_
          go_wp2_with fail
          have hbn : Below wn.heap.size wn (wn.alloc (.cells #[.int .u8 1, .int .u8 21, .string ⟨#[120]⟩, .string ⟨#[]⟩, .slice (some ⟨sq, 0, none⟩) 3 3, .int .i64 2, .int .i64 1] 40)) := (Below.refl _ _).alloc (Nat.le_refl _) _
          have HN := Lib.hid (heap_alloc_new wn (.cells #[.int .u8 1, .int .u8 21, .string ⟨#[120]⟩, .string ⟨#[]⟩, .slice (some ⟨sq, 0, none⟩) 3 3, .int .i64 2, .int .i64 1] 40))
          generalize wn.alloc (.cells #[.int .u8 1, .int .u8 21, .string ⟨#[120]⟩, .string ⟨#[]⟩, .slice (some ⟨sq, 0, none⟩) 3 3, .int .i64 2, .int .i64 1] 40) = wm at *
          have HB := Lib.hid (bcomp HB.out hbn)
          have HR : Hid (RdInstrs none wm (.slice (some ⟨wn.heap.size, 0, none⟩) 1 1) [iIte]) := rdI (l := [(iIte, .slice (some ⟨sq, 0, none⟩) 3 3)]) HN.out (by simp) (fun p hp => by
            rw [List.mem_singleton] at hp; subst hp
            exact ok_iIte (HQ.out.keep hbn))
          clear HN HQ
          generalize wn.heap.size = sr at *
          refine ⟨⟨_, ext_of HB.out⟩, ?_⟩
          clear hbn
          obtain ⟨wn, rfl⟩ : ∃ x : World, x = wm := ⟨_, rfl⟩
          refine mix_now ?_
          refine mix_step rfl ?_
          go_wp2_with (go_at_call 24; refine (main_any _ _ _ _ rfl _).mono ?_; rintro e wn ⟨rfl, hbn⟩)
          have HB := Lib.hid (bcomp HB.out hbn)
          have HR := Lib.hid (HR.out.keep hbn)
          clear hbn
          refine ⟨fun _ => ⟨_, ext_of HB.out⟩, ?_⟩
          refine mix_now ?_
          refine mix_step rfl ?_
          go_wp2_with (go_at_call 22; refine (at_any _ _ _).mono ?_; rintro e wn ⟨rfl, hbn⟩)
          have HB := Lib.hid (bcomp HB.out hbn)
          have HR := Lib.hid (HR.out.keep hbn)
          clear hbn
          refine ⟨fun _ => ⟨_, ext_of HB.out⟩, ?_⟩
          refine mix_now ?_
          refine mix_step rfl ?_
          go_wp2_with (go_at_call 23; refine (is_any e9 _ _ _ _ (some ⟨2, 1, 4⟩) _ (rd_main HR.out) (HLD.out.keep HB.out) ck9).mono ?_; rintro e wn ⟨rfl, hbn⟩)
          have HB := Lib.hid (bcomp HB.out hbn)
          clear hbn
          refine ⟨fun _ => ⟨_, ext_of HB.out⟩, ?_⟩
          refine mix_fin (by simp only [opsOf, List.filterMap_cons, List.filterMap_nil, List.getElem?_toArray, List.getElem?_cons_succ, List.getElem?_cons_zero]; rfl) ⟨_, ext_of HB.out⟩ ?_
          change wpQuiet _ _ _ _ [_, _] _
          (repeat (go_big_quiet_step (fail)))
          refine wpQuiet_nil ?_
          go_wp2_with fail
          go_meet
          exact ⟨rfl, HB.out⟩
        · refine mix_step rfl ?_
          go_wp2_with (go_at_call 22; refine (at_any _ _ _).mono ?_; rintro e wn ⟨rfl, hbn⟩)
          have HB := Lib.hid (bcomp HB.out hbn)
          clear hbn
          refine ⟨fun _ => ⟨_, ext_of HB.out⟩, ?_⟩
          refine mix_now ?_
          refine mix_step rfl ?_
          go_wp2_with fail
          have hbn : Below wn.heap.size wn (wn.alloc (.cells #[.string ⟨#[]⟩, .int .u64 0, .string ⟨#[]⟩, .int .u64 0, .string ⟨#[]⟩, .int .u64 0] 43)) := (Below.refl _ _).alloc (Nat.le_refl _) _
          have HN := Lib.hid (heap_alloc_new wn (.cells #[.string ⟨#[]⟩, .int .u64 0, .string ⟨#[]⟩, .int .u64 0, .string ⟨#[]⟩, .int .u64 0] 43))
          generalize wn.alloc (.cells #[.string ⟨#[]⟩, .int .u64 0, .string ⟨#[]⟩, .int .u64 0, .string ⟨#[]⟩, .int .u64 0] 43) = wm at *
          have HB := Lib.hid (bcomp HB.out hbn)
          have HQ : Hid (RdArgs none wm (.slice (some ⟨wn.heap.size, 0, none⟩) 3 3) [aZero, aZero, aZero]) := rdA (l := [aZero, aZero, aZero]) HN.out (by simp) (fun s hs => by
            simp only [List.mem_cons, List.not_mem_nil, or_false, or_self] at hs
            subst hs; exact ⟨by decide, by decide⟩)
          clear HN
          generalize wn.heap.size = sq at *
          refine ⟨⟨_, ext_of HB.out⟩, ?_⟩
          clear hbn
          obtain ⟨wn, rfl⟩ : ∃ x : World, x = wm := ⟨_, rfl⟩
          refine mix_one (by simp only [opsOf, List.filterMap_cons, List.filterMap_nil, List.getElem?_toArray, List.getElem?_cons_succ, List.getElem?_cons_zero]; rfl) ⟨_, ext_of HB.out⟩ ?_
          change wpQuiet _ _ _ _ [_] _
          (repeat (go_big_quiet_step (fail)))
          refine wpQuiet_nil ?_
          refine mix_step rfl ?_
          go_wp2_with fail
          have hbn : Below wn.heap.size wn (wn.alloc (.cells #[.int .u8 1, .int .u8 21, .string ⟨#[120]⟩, .string ⟨#[]⟩, .slice (some ⟨sq, 0, none⟩) 3 3, .int .i64 2, .int .i64 1] 40)) := (Below.refl _ _).alloc (Nat.le_refl _) _
          have HN := Lib.hid (heap_alloc_new wn (.cells #[.int .u8 1, .int .u8 21, .string ⟨#[120]⟩, .string ⟨#[]⟩, .slice (some ⟨sq, 0, none⟩) 3 3, .int .i64 2, .int .i64 1] 40))
          generalize wn.alloc (.cells #[.int .u8 1, .int .u8 21, .string ⟨#[120]⟩, .string ⟨#[]⟩, .slice (some ⟨sq, 0, none⟩) 3 3, .int .i64 2, .int .i64 1] 40) = wm at *
          have HB := Lib.hid (bcomp HB.out hbn)
          have HR : Hid (RdInstrs none wm (.slice (some ⟨wn.heap.size, 0, none⟩) 1 1) [iIte]) := rdI (l := [(iIte, .slice (some ⟨sq, 0, none⟩) 3 3)]) HN.out (by simp) (fun p hp => by
            rw [List.mem_singleton] at hp; subst hp
            exact ok_iIte (HQ.out.keep hbn))
          clear HN HQ
          generalize wn.heap.size = sr at *
          refine ⟨⟨_, ext_of HB.out⟩, ?_⟩
          clear hbn
          obtain ⟨wn, rfl⟩ : ∃ x : World, x = wm := ⟨_, rfl⟩
          refine mix_now ?_
          refine mix_step rfl ?_
          go_wp2_with (go_at_call 24; refine (main_any _ _ _ _ rfl _).mono ?_; rintro e wn ⟨rfl, hbn⟩)
          have HB := Lib.hid (bcomp HB.out hbn)
          have HR := Lib.hid (HR.out.keep hbn)
          clear hbn
          refine ⟨fun _ => ⟨_, ext_of HB.out⟩, ?_⟩
          refine mix_now ?_
          refine mix_step rfl ?_
          go_wp2_with (go_at_call 22; refine (at_any _ _ _).mono ?_; rintro e wn ⟨rfl, hbn⟩)
          have HB := Lib.hid (bcomp HB.out hbn)
          have HR := Lib.hid (HR.out.keep hbn)
          clear hbn
          refine ⟨fun _ => ⟨_, ext_of HB.out⟩, ?_⟩
          refine mix_now ?_
          refine mix_step rfl ?_
          go_wp2_with (go_at_call 23; refine (is_any e9 _ _ _ _ (some ⟨2, 1, 4⟩) _ (rd_main HR.out) (HLD.out.keep HB.out) ck9).mono ?_; rintro e wn ⟨rfl, hbn⟩)
          have HB := Lib.hid (bcomp HB.out hbn)
          clear hbn
          refine ⟨fun _ => ⟨_, ext_of HB.out⟩, ?_⟩
          refine mix_fin (by simp only [opsOf, List.filterMap_cons, List.filterMap_nil, List.getElem?_toArray, List.getElem?_cons_succ, List.getElem?_cons_zero]; rfl) ⟨_, ext_of HB.out⟩ ?_
          change wpQuiet _ _ _ _ [_, _] _
          (repeat (go_big_quiet_step (fail)))
          refine wpQuiet_nil ?_
          go_wp2_with fail
          go_meet
          exact ⟨rfl, HB.out⟩
      · refine mix_step rfl ?_
        go_wp2_with (go_at_call 22; refine (at_any _ _ _).mono ?_; rintro e wn ⟨rfl, hbn⟩)
        have HB := Lib.hid (bcomp HB.out hbn)
        clear hbn
        refine ⟨fun _ => ⟨_, ext_of HB.out⟩, ?_⟩
        refine mix_now ?_
        refine mix_step rfl ?_
        go_wp2_with fail
        have hbn : Below wn.heap.size wn (wn.alloc (.cells #[.string ⟨#[]⟩, .int .u64 0] 43)) := (Below.refl _ _).alloc (Nat.le_refl _) _
        have HN := Lib.hid (heap_alloc_new wn (.cells #[.string ⟨#[]⟩, .int .u64 0] 43))
        generalize wn.alloc (.cells #[.string ⟨#[]⟩, .int .u64 0] 43) = wm at *
        have HB := Lib.hid (bcomp HB.out hbn)
        have HQ : Hid (RdArgs none wm (.slice (some ⟨wn.heap.size, 0, none⟩) 1 1) [aZero]) := rdA (l := [aZero]) HN.out (by simp) (fun s hs => by
          rw [List.mem_singleton] at hs; subst hs; exact ⟨by decide, by decide⟩)
        clear HN
        generalize wn.heap.size = sq at *
        refine ⟨⟨_, ext_of HB.out⟩, ?_⟩
        clear hbn
        obtain ⟨wn, rfl⟩ : ∃ x : World, x = wm := ⟨_, rfl⟩
        refine mix_one (by simp only [opsOf, List.filterMap_cons, List.filterMap_nil, List.getElem?_toArray, List.getElem?_cons_succ, List.getElem?_cons_zero]; rfl) ⟨_, ext_of HB.out⟩ ?_
        change wpQuiet _ _ _ _ [_] _
        (repeat (go_big_quiet_step (fail)))
        refine wpQuiet_nil ?_
        refine mix_step rfl ?_
        go_wp2_with fail
        have hbn : Below wn.heap.size wn (wn.alloc (.cells #[.int .u8 12, .int .u8 0, .string ⟨#[]⟩, .string ⟨#[]⟩, .slice (some ⟨sq, 0, none⟩) 1 1, .int .i64 2, .int .i64 1] 40)) := (Below.refl _ _).alloc (Nat.le_refl _) _
        have HN := Lib.hid (heap_alloc_new wn (.cells #[.int .u8 12, .int .u8 0, .string ⟨#[]⟩, .string ⟨#[]⟩, .slice (some ⟨sq, 0, none⟩) 1 1, .int .i64 2, .int .i64 1] 40))
        generalize wn.alloc (.cells #[.int .u8 12, .int .u8 0, .string ⟨#[]⟩, .string ⟨#[]⟩, .slice (some ⟨sq, 0, none⟩) 1 1, .int .i64 2, .int .i64 1] 40) = wm at *
        have HB := Lib.hid (bcomp HB.out hbn)
        have HR : Hid (RdInstrs none wm (.slice (some ⟨wn.heap.size, 0, none⟩) 1 1) [iRet]) := rdI (l := [(iRet, .slice (some ⟨sq, 0, none⟩) 1 1)]) HN.out (by simp) (fun p hp => by
          rw [List.mem_singleton] at hp; subst hp
          exact ok_iRet (HQ.out.keep hbn))
        clear HN HQ
        generalize wn.heap.size = sr at *
        refine ⟨⟨_, ext_of HB.out⟩, ?_⟩
        clear hbn
        obtain ⟨wn, rfl⟩ : ∃ x : World, x = wm := ⟨_, rfl⟩
        refine mix_now ?_
        refine mix_step rfl ?_
        go_wp2_with (go_at_call 24; refine (main_any _ _ _ _ rfl _).mono ?_; rintro e wn ⟨rfl, hbn⟩)
        have HB := Lib.hid (bcomp HB.out hbn)
        have HR := Lib.hid (HR.out.keep hbn)
        clear hbn
        refine ⟨fun _ => ⟨_, ext_of HB.out⟩, ?_⟩
        refine mix_now ?_
        refine mix_step rfl ?_
        go_wp2_with (go_at_call 22; refine (at_any _ _ _).mono ?_; rintro e wn ⟨rfl, hbn⟩)
        have HB := Lib.hid (bcomp HB.out hbn)
        have HR := Lib.hid (HR.out.keep hbn)
        clear hbn
        refine ⟨fun _ => ⟨_, ext_of HB.out⟩, ?_⟩
        refine mix_now ?_
        refine mix_step rfl ?_
        go_wp2_with (go_at_call 23; refine (is_any e8 _ _ _ _ (some ⟨2, 1, 4⟩) _ (rd_main HR.out) (HLD.out.keep HB.out) ck8).mono ?_; rintro e wn ⟨rfl, hbn⟩)
        have HB := Lib.hid (bcomp HB.out hbn)
        clear hbn
        refine ⟨fun _ => ⟨_, ext_of HB.out⟩, ?_⟩
        clear HR
        refine mix_two (by simp only [opsOf, List.filterMap_cons, List.filterMap_nil, List.getElem?_toArray, List.getElem?_cons_succ, List.getElem?_cons_zero]; rfl) ⟨_, ext_of HB.out⟩ ?_
        change wpQuiet _ _ _ _ [_, _] _
        (repeat (go_big_quiet_step (fail)))
        refine wpQuiet_nil ?_
        refine ⟨?_, ?_⟩
        · refine mix_step rfl ?_
          go_wp2_with fail
          have hbn : Below wn.heap.size wn (wn.alloc (.cells #[.string ⟨#[]⟩, .int .u64 0, .string ⟨#[]⟩, .int .u64 0, .string ⟨#[]⟩, .int .u64 0] 43)) := (Below.refl _ _).alloc (Nat.le_refl _) _
          have HN := Lib.hid (heap_alloc_new wn (.cells #[.string ⟨#[]⟩, .int .u64 0, .string ⟨#[]⟩, .int .u64 0, .string ⟨#[]⟩, .int .u64 0] 43))
          generalize wn.alloc (.cells #[.string ⟨#[]⟩, .int .u64 0, .string ⟨#[]⟩, .int .u64 0, .string ⟨#[]⟩, .int .u64 0] 43) = wm at *
          have HB := Lib.hid (bcomp HB.out hbn)
          have HQ : Hid (RdArgs none wm (.slice (some ⟨wn.heap.size, 0, none⟩) 3 3) [aZero, aZero, aZero]) := rdA (l := [aZero, aZero, aZero]) HN.out (by simp) (fun s hs => by
            simp only [List.mem_cons, List.not_mem_nil, or_false, or_self] at hs
            subst hs; exact ⟨by decide, by decide⟩)
          clear HN
          generalize wn.heap.size = sq at *
          refine ⟨⟨_, ext_of HB.out⟩, ?_⟩
          clear hbn
          obtain ⟨wn, rfl⟩ : ∃ x : World, x = wm := ⟨_, rfl⟩
          refine mix_now ?_
          refine mix_step rfl ?_
          go_wp2_with (go_at_call 22; refine (at_any _ _ _).mono ?_; rintro e wn ⟨rfl, hbn⟩)
          have HB := Lib.hid (bcomp HB.out hbn)
          have HQ := Lib.hid (HQ.out.keep hbn)
          clear hbn
          refine ⟨fun _ => ⟨_, ext_of HB.out⟩, ?_⟩
          refine mix_one (by simp only [opsOf, List.filterMap_cons, List.filterMap_nil, List.getElem?_toArray, List.getElem?_cons_succ, List.getElem?_cons_zero]; rfl) ⟨_, ext_of HB.out⟩ ?_
          change wpQuiet _ _ _ _ [_] _
          (repeat (go_big_quiet_step (fail)))
          refine wpQuiet_nil ?_
          refine mix_step rfl ?_
          go_wp2_with fail
          have hbn : Below wn.heap.size wn (wn.alloc (.cells #[.int .u8 1, .int .u8 21, .string ⟨#[120]⟩, .string ⟨#[]⟩, .slice (some ⟨sq, 0, none⟩) 3 3, .int .i64 2, .int .i64 1] 40)) := (Below.refl _ _).alloc (Nat.le_refl _) _
          have HN := Lib.hid (heap_alloc_new wn (.cells #[.int .u8 1, .int .u8 21, .string ⟨#[120]⟩, .string ⟨#[]⟩, .slice (some ⟨sq, 0, none⟩) 3 3, .int .i64 2, .int .i64 1] 40))
          generalize wn.alloc (.cells #[.int .u8 1, .int .u8 21, .string ⟨#[120]⟩, .string ⟨#[]⟩, .slice (some ⟨sq, 0, none⟩) 3 3, .int .i64 2, .int .i64 1] 40) = wm at *
          have HB := Lib.hid (bcomp HB.out hbn)
          have HR : Hid (RdInstrs none wm (.slice (some ⟨wn.heap.size, 0, none⟩) 1 1) [iIte]) := rdI (l := [(iIte, .slice (some ⟨sq, 0, none⟩) 3 3)]) HN.out (by simp) (fun p hp => by
            rw [List.mem_singleton] at hp; subst hp
            exact ok_iIte (HQ.out.keep hbn))
          clear HN HQ
          generalize wn.heap.size = sr at *
          refine ⟨⟨_, ext_of HB.out⟩, ?_⟩
          clear hbn
          obtain ⟨wn, rfl⟩ : ∃ x : World, x = wm := ⟨_, rfl⟩
          refine mix_now ?_
          refine mix_step rfl ?_
          go_wp2_with (go_at_call 24; refine (main_any _ _ _ _ rfl _).mono ?_; rintro e wn ⟨rfl, hbn⟩)
          have HB := Lib.hid (bcomp HB.out hbn)
          have HR := Lib.hid (HR.out.keep hbn)
          clear hbn
          refine ⟨fun _ => ⟨_, ext_of HB.out⟩, ?_⟩
          refine mix_now ?_
          refine mix_step rfl ?_
          go_wp2_with (go_at_call 22; refine (at_any _ _ _).mono ?_; rintro e wn ⟨rfl, hbn⟩)
          have HB := Lib.hid (bcomp HB.out hbn)
          have HR := Lib.hid (HR.out.keep hbn)
          clear hbn
          refine ⟨fun _ => ⟨_, ext_of HB.out⟩, ?_⟩
          refine mix_now ?_
          refine mix_step rfl ?_
          go_wp2_with (go_at_call 23; refine (is_any e9 _ _ _ _ (some ⟨2, 1, 4⟩) _ (rd_main HR.out) (HLD.out.keep HB.out) ck9).mono ?_; rintro e wn ⟨rfl, hbn⟩)
          have HB := Lib.hid (bcomp HB.out hbn)
          clear hbn
          refine ⟨fun _ => ⟨_, ext_of HB.out⟩, ?_⟩
          refine mix_fin (by simp only [opsOf, List.filterMap_cons, List.filterMap_nil, List.getElem?_toArray, List.getElem?_cons_succ, List.getElem?_cons_zero]; rfl) ⟨_, ext_of HB.out⟩ ?_
          change wpQuiet _ _ _ _ [_, _] _
          (repeat (go_big_quiet_step (fail)))
          refine wpQuiet_nil ?_
          go_wp2_with fail
          go_meet
          exact ⟨rfl, HB.out⟩
        · refine mix_step rfl ?_
          go_wp2_with (go_at_call 22; refine (at_any _ _ _).mono ?_; rintro e wn ⟨rfl, hbn⟩)
          have HB := Lib.hid (bcomp HB.out hbn)
          clear hbn
          refine ⟨fun _ => ⟨_, ext_of HB.out⟩, ?_⟩
          refine mix_now ?_
          refine mix_step rfl ?_
          go_wp2_with fail
          have hbn : Below wn.heap.size wn (wn.alloc (.cells #[.string ⟨#[]⟩, .int .u64 0, .string ⟨#[]⟩, .int .u64 0, .string ⟨#[]⟩, .int .u64 0] 43)) := (Below.refl _ _).alloc (Nat.le_refl _) _
          have HN := Lib.hid (heap_alloc_new wn (.cells #[.string ⟨#[]⟩, .int .u64 0, .string ⟨#[]⟩, .int .u64 0, .string ⟨#[]⟩, .int .u64 0] 43))
          generalize wn.alloc (.cells #[.string ⟨#[]⟩, .int .u64 0, .string ⟨#[]⟩, .int .u64 0, .string ⟨#[]⟩, .int .u64 0] 43) = wm at *
          have HB := Lib.hid (bcomp HB.out hbn)
          have HQ : Hid (RdArgs none wm (.slice (some ⟨wn.heap.size, 0, none⟩) 3 3) [aZero, aZero, aZero]) := rdA (l := [aZero, aZero, aZero]) HN.out (by simp) (fun s hs => by
            simp only [List.mem_cons, List.not_mem_nil, or_false, or_self] at hs
            subst hs; exact ⟨by decide, by decide⟩)
          clear HN
          generalize wn.heap.size = sq at *
          refine ⟨⟨_, ext_of HB.out⟩, ?_⟩
          clear hbn
          obtain ⟨wn, rfl⟩ : ∃ x : World, x = wm := ⟨_, rfl⟩
          refine mix_one (by simp only [opsOf, List.filterMap_cons, List.filterMap_nil, List.getElem?_toArray, List.getElem?_cons_succ, List.getElem?_cons_zero]; rfl) ⟨_, ext_of HB.out⟩ ?_
          change wpQuiet _ _ _ _ [_] _
          (repeat (go_big_quiet_step (fail)))
          refine wpQuiet_nil ?_
          refine mix_step rfl ?_
          go_wp2_with fail
          have hbn : Below wn.heap.size wn (wn.alloc (.cells #[.int .u8 1, .int .u8 21, .string ⟨#[120]⟩, .string ⟨#[]⟩, .slice (some ⟨sq, 0, none⟩) 3 3, .int .i64 2, .int .i64 1] 40)) := (Below.refl _ _).alloc (Nat.le_refl _) _
          have HN := Lib.hid (heap_alloc_new wn (.cells #[.int .u8 1, .int .u8 21, .string ⟨#[120]⟩, .string ⟨#[]⟩, .slice (some ⟨sq, 0, none⟩) 3 3, .int .i64 2, .int .i64 1] 40))
          generalize wn.alloc (.cells #[.int .u8 1, .int .u8 21, .string ⟨#[120]⟩, .string ⟨#[]⟩, .slice (some ⟨sq, 0, none⟩) 3 3, .int .i64 2, .int .i64 1] 40) = wm at *
          have HB := Lib.hid (bcomp HB.out hbn)
          have HR : Hid (RdInstrs none wm (.slice (some ⟨wn.heap.size, 0, none⟩) 1 1) [iIte]) := rdI (l := [(iIte, .slice (some ⟨sq, 0, none⟩) 3 3)]) HN.out (by simp) (fun p hp => by
            rw [List.mem_singleton] at hp; subst hp
            exact ok_iIte (HQ.out.keep hbn))
          clear HN HQ
          generalize wn.heap.size = sr at *
          refine ⟨⟨_, ext_of HB.out⟩, ?_⟩
          clear hbn
          obtain ⟨wn, rfl⟩ : ∃ x : World, x = wm := ⟨_, rfl⟩
          refine mix_now ?_
          refine mix_step rfl ?_
          go_wp2_with (go_at_call 24; refine (main_any _ _ _ _ rfl _).mono ?_; rintro e wn ⟨rfl, hbn⟩)
          have HB := Lib.hid (bcomp HB.out hbn)
          have HR := Lib.hid (HR.out.keep hbn)
          clear hbn
          refine ⟨fun _ => ⟨_, ext_of HB.out⟩, ?_⟩
          refine mix_now ?_
          refine mix_step rfl ?_
          go_wp2_with (go_at_call 22; refine (at_any _ _ _).mono ?_; rintro e wn ⟨rfl, hbn⟩)
          have HB := Lib.hid (bcomp HB.out hbn)
          have HR := Lib.hid (HR.out.keep hbn)
          clear hbn
          refine ⟨fun _ => ⟨_, ext_of HB.out⟩, ?_⟩
          refine mix_now ?_
          refine mix_step rfl ?_
          go_wp2_with (go_at_call 23; refine (is_any e9 _ _ _ _ (some ⟨2, 1, 4⟩) _ (rd_main HR.out) (HLD.out.keep HB.out) ck9).mono ?_; rintro e wn ⟨rfl, hbn⟩)
          have HB := Lib.hid (bcomp HB.out hbn)
          clear hbn
          refine ⟨fun _ => ⟨_, ext_of HB.out⟩, ?_⟩
          refine mix_fin (by simp only [opsOf, List.filterMap_cons, List.filterMap_nil, List.getElem?_toArray, List.getElem?_cons_succ, List.getElem?_cons_zero]; rfl) ⟨_, ext_of HB.out⟩ ?_
          change wpQuiet _ _ _ _ [_, _] _
          (repeat (go_big_quiet_step (fail)))
          refine wpQuiet_nil ?_
          go_wp2_with fail
          go_meet
          exact ⟨rfl, HB.out⟩
    case rest =>
      obtain ⟨rfl, hbq⟩ := hcut
      have HB7 := Lib.hid (bcomp HB6.out hbq)
      have HLD := Lib.hid (HLD.out.keep hbq)
      clear hbq HB6
      obtain ⟨W7, rfl⟩ : ∃ x : World, x = wc := ⟨_, rfl⟩
      go_upto_region 10 with (go_at_call 24; refine (main_any _ _ _ _ rfl _).mono ?_; rintro e w8 ⟨rfl, hb8⟩)
      have a0 := heap_alloc2_old W7 (.cells #[.string ⟨#[121]⟩, .int .u64 0, .string ⟨#[120]⟩, .int .u64 0] 43) (.cells #[.int .u8 1, .int .u8 4, .string ⟨#[120]⟩, .string ⟨#[]⟩, .slice (some ⟨W7.heap.size, 0, none⟩) 2 2, .int .i64 0, .int .i64 0, .int .u8 5, .int .u8 0, .string ⟨#[122]⟩, .string ⟨#[99]⟩, .slice none 0 0, .int .i64 0, .int .i64 0] 40)
      have a1 := heap_alloc2_new W7 (.cells #[.string ⟨#[121]⟩, .int .u64 0, .string ⟨#[120]⟩, .int .u64 0] 43) (.cells #[.int .u8 1, .int .u8 4, .string ⟨#[120]⟩, .string ⟨#[]⟩, .slice (some ⟨W7.heap.size, 0, none⟩) 2 2, .int .i64 0, .int .i64 0, .int .u8 5, .int .u8 0, .string ⟨#[122]⟩, .string ⟨#[99]⟩, .slice none 0 0, .int .i64 0, .int .i64 0] 40)
      have hb7 : Below W7.heap.size W7 ((W7.alloc (.cells #[.string ⟨#[121]⟩, .int .u64 0, .string ⟨#[120]⟩, .int .u64 0] 43)).alloc (.cells #[.int .u8 1, .int .u8 4, .string ⟨#[120]⟩, .string ⟨#[]⟩, .slice (some ⟨W7.heap.size, 0, none⟩) 2 2, .int .i64 0, .int .i64 0, .int .u8 5, .int .u8 0, .string ⟨#[122]⟩, .string ⟨#[99]⟩, .slice none 0 0, .int .i64 0, .int .i64 0] 40)) := ((Below.refl _ _).alloc (Nat.le_refl _) _).alloc (by simp) _
      generalize ((W7.alloc (.cells #[.string ⟨#[121]⟩, .int .u64 0, .string ⟨#[120]⟩, .int .u64 0] 43)).alloc (.cells #[.int .u8 1, .int .u8 4, .string ⟨#[120]⟩, .string ⟨#[]⟩, .slice (some ⟨W7.heap.size, 0, none⟩) 2 2, .int .i64 0, .int .i64 0, .int .u8 5, .int .u8 0, .string ⟨#[122]⟩, .string ⟨#[99]⟩, .slice none 0 0, .int .i64 0, .int .i64 0] 40)) = X7 at *
      have hin : RdInstrs none X7 (.slice (some ⟨W7.heap.size + 1, 0, none⟩) 2 2) [iAdd, iRead] := rdI (l := [(iAdd, .slice (some ⟨W7.heap.size, 0, none⟩) 2 2), (iRead, .slice none 0 0)]) a1 (by simp) (fun p hp => by
        simp only [List.mem_cons, List.not_mem_nil, or_false] at hp
        rcases hp with rfl | rfl
        · exact ok_iAdd (rdA (l := [⟨bs [121], 0⟩, ⟨bs [120], 0⟩]) a0 (by simp) (fun s hs => by
            simp only [List.mem_cons, List.not_mem_nil, or_false] at hs
            rcases hs with rfl | rfl <;> exact ⟨by decide, by decide⟩))
        · exact ⟨rdArgs_nil _ _, by decide, by decide, by decide, by decide, by decide, by decide⟩)
      have HIN := Lib.hid (hin.keep hb8)
      have HB8 := Lib.hid (bcomp HB7.out (bcomp hb7 hb8))
      have HLD := Lib.hid (HLD.out.keep (bcomp hb7 hb8))
      clear a0 a1 hin hb7 hb8
      have hb9 : Below w8.heap.size w8 (w8.alloc (.cells #[.int .i64 1, .slice none 0 0, .slice none 0 0, .slice none 0 0, .slice (some ⟨W7.heap.size + 1, 0, none⟩) 2 2] 27)) := (Below.refl _ _).alloc (Nat.le_refl _) _
      have g9 := heap_alloc_new w8 (.cells #[.int .i64 1, .slice none 0 0, .slice none 0 0, .slice none 0 0, .slice (some ⟨W7.heap.size + 1, 0, none⟩) 2 2] 27)
      generalize w8.alloc (.cells #[.int .i64 1, .slice none 0 0, .slice none 0 0, .slice none 0 0, .slice (some ⟨W7.heap.size + 1, 0, none⟩) 2 2] 27) = W9 at *
      have k1 := row_of g9 1 _ rfl
      have kf := frozen_of_row W9 _ 1 _ _ g9
      have hs9 : w8.heap.size < W9.heap.size := (Array.getElem?_eq_some_iff.1 g9).1
      have G9 := Lib.hid g9
      have HB9 := Lib.hid hb9
      clear g9 hb9
      go_upto_region 11 with fail
      have gC := setCell_heap (o := 1) (v := .slice (some ⟨W9.heap.size, 0, none⟩) 1 1) G9.out
      have hsz : (W9.setCell ⟨w8.heap.size, 1, none⟩ (.slice (some ⟨W9.heap.size, 0, none⟩) 1 1)).heap.size = W9.heap.size := by simp
      have hbA : Below w8.heap.size w8 (W9.setCell ⟨w8.heap.size, 1, none⟩ (.slice (some ⟨W9.heap.size, 0, none⟩) 1 1)) := HB9.out.setCell (by simp) _
      have gA := heap_alloc_new (W9.setCell ⟨w8.heap.size, 1, none⟩ (.slice (some ⟨W9.heap.size, 0, none⟩) 1 1)) (.cells #[.string ⟨#[99]⟩] 9)
      have hbB : Below (W9.setCell ⟨w8.heap.size, 1, none⟩ (.slice (some ⟨W9.heap.size, 0, none⟩) 1 1)).heap.size (W9.setCell ⟨w8.heap.size, 1, none⟩ (.slice (some ⟨W9.heap.size, 0, none⟩) 1 1)) ((W9.setCell ⟨w8.heap.size, 1, none⟩ (.slice (some ⟨W9.heap.size, 0, none⟩) 1 1)).alloc (.cells #[.string ⟨#[99]⟩] 9)) := (Below.refl _ _).alloc (Nat.le_refl _) _
      rw [hsz] at gA hbB
      have gC := (hbB.block w8.heap.size hs9).trans gC
      have gD := gA
      have hbD : Below w8.heap.size w8 ((W9.setCell ⟨w8.heap.size, 1, none⟩ (.slice (some ⟨W9.heap.size, 0, none⟩) 1 1)).alloc (.cells #[.string ⟨#[99]⟩] 9)) := hbA.trans (hbB.mono (Nat.le_of_lt hs9))
      generalize ((W9.setCell ⟨w8.heap.size, 1, none⟩ (.slice (some ⟨W9.heap.size, 0, none⟩) 1 1)).alloc (.cells #[.string ⟨#[99]⟩] 9)) = WD at *
      have GC : Hid (WD.heap[w8.heap.size]? = some (.cells #[.int .i64 1, .slice (some ⟨W9.heap.size, 0, none⟩) 1 1, .slice none 0 0, .slice none 0 0, .slice (some ⟨W7.heap.size + 1, 0, none⟩) 2 2] 27 (0, 0))) := gC
      have HP : Hid (RdProg none WD e10 (.slice (some ⟨W9.heap.size, 0, none⟩) 1 1) (.slice none 0 0) (.slice none 0 0) (.slice (some ⟨W7.heap.size + 1, 0, none⟩) 2 2)) := ⟨rdS (l := [bs [99]]) gD (by simp) (fun s hs => by
        rw [List.mem_singleton] at hs; subst hs; decide), rdArrs_nil _ _, rdFuncs_nil _ _, HIN.out.keep hbD, by decide⟩
      have HBD := Lib.hid (bcomp HB8.out hbD)
      have HLD := Lib.hid (HLD.out.keep hbD)
      clear hbA gA hbB gC gD hbD k1 kf hsz
      have c0 := row_of GC.out 0 _ rfl
      have c1 := row_of GC.out 1 _ rfl
      have c2 := row_of GC.out 2 _ rfl
      have c3 := row_of GC.out 3 _ rfl
      have c4 := row_of GC.out 4 _ rfl
      have d1 := locals_any e10 _ _ _ _ (-1) WD HP.out HLD.out (by decide)
      rw [lc1] at d1
      have D1 := Lib.hid d1
      clear d1
      go_upto_region 12 with (go_at_call 6; refine D1.out.mono ?_; rintro e w11 ⟨v1, rfl, hr1, hb11⟩; obtain ⟨a1, k1, rfl, _⟩ := id hr1; have HR1 := Lib.hid hr1; clear hr1; simp only [List.length_cons, List.length_nil, Nat.zero_add, Nat.reduceAdd] at HR1 ⊢)
      have HP2 := Lib.hid (HP.out.keep hb11)
      have HLD := Lib.hid (HLD.out.keep hb11)
      have e0 := cell_keep hb11 c0
      have e1' := cell_keep hb11 c1
      have e2' := cell_keep hb11 c2
      have e3' := cell_keep hb11 c3
      have e4' := cell_keep hb11 c4
      have HBE := Lib.hid (bcomp HBD.out hb11)
      have d2 := locals_any e10 _ _ _ _ 0 w11 HP2.out HLD.out (by decide)
      rw [lc2] at d2
      have D2 := Lib.hid d2
      clear d2 c0 c1 c2 c3 c4 hb11
      go_upto_region 13 with (go_at_call 6; refine D2.out.mono ?_; rintro e w12 ⟨v2, rfl, hr2, hb12⟩; obtain ⟨a2, k2, rfl, _⟩ := id hr2; clear hr2)
      have HR2 := Lib.hid (HR1.out.keep hb12)
      have HBF := Lib.hid (bcomp HBE.out hb12)
      have C3 : Hid (Calls Tryd.prog 12 #[.slice a1 3 k1, .slice (some ⟨w12.heap.size, 0, none⟩) 3 3] (w12.alloc (.cells #[.string ⟨#[120]⟩, .string ⟨#[121]⟩, .string ⟨#[122]⟩] 9)) fun e w' => e = .returned (.bool true) ∧ Below (w12.alloc (.cells #[.string ⟨#[120]⟩, .string ⟨#[121]⟩, .string ⟨#[122]⟩] 9)).heap.size (w12.alloc (.cells #[.string ⟨#[120]⟩, .string ⟨#[121]⟩, .string ⟨#[122]⟩] 9)) w') := by
        have hb := (Below.refl w12.heap.size w12).alloc (Nat.le_refl _) (.cells #[.string ⟨#[120]⟩, .string ⟨#[121]⟩, .string ⟨#[122]⟩] 9)
        have := equalStrs _ _ _ [bs [120], bs [121], bs [122]] _ (RdStrs.forget (HR2.out.keep hb)) (rdS (l := [bs [120], bs [121], bs [122]]) (c := 3) (heap_alloc_new w12 _) (by simp) (fun s hs => by
          simp only [List.mem_cons, List.not_mem_nil, or_false] at hs
          rcases hs with rfl | rfl | rfl <;> decide))
        have he : eqL eqS [bs [120], bs [121], bs [122]] [bs [120], bs [121], bs [122]] = true := by kernel_rfl
        rw [he] at this
        exact this
      clear e0 e1' e2' e3' e4' hb12
      go_wp2_with (go_at_call 12; refine C3.out.mono ?_; rintro e w13 ⟨rfl, hb13⟩)
      go_ret
      exact ⟨rfl, bcomp HBF.out (bcomp ((Below.refl w12.heap.size w12).alloc (Nat.le_refl _) _) hb13)⟩
end Go.Proofs.YteeebofjlchndaaDoor
