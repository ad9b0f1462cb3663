/- The walk of awake: the chapter's examples hold. Condition: the tables are laid. -/
import Derived.Test.YtgcfdbhpophnjaaDoorAwk
set_option linter.unusedVariables false
set_option linter.unusedSimpArgs false
namespace Go.Proofs.YtgcfdbhpophnjaaDoor
open Go.ChangeShapes Go.WideShapes Go.ChangeAt Go.RowKit
instance (n : Int) : Decidable (InI64 n) := by unfold InI64; infer_instance
instance (n : Int) : Decidable (InU64 n) := by unfold InU64; infer_instance
instance (n : Int) : Decidable (InU8 n) := by unfold InU8; infer_instance
theorem rdArrs_nil (lo : Option (Nat → Prop)) (w : World) : RdArrs lo w (.slice none 0 0) [] := ⟨none, 0, rfl, by simp, fun i s h => by simp at h⟩
theorem rdArgs_nil (lo : Option (Nat → Prop)) (w : World) : RdArgs lo w (.slice none 0 0) [] := ⟨none, 0, rfl, by simp, fun i s h => by simp at h⟩
theorem rdInstrs_nil (lo : Option (Nat → Prop)) (w : World) : RdInstrs lo w (.slice none 0 0) [] := ⟨none, 0, rfl, by simp, fun i s h => by simp at h⟩
theorem rdFuncs_nil (lo : Option (Nat → Prop)) (w : World) : RdFuncs lo w (.slice none 0 0) [] := ⟨none, 0, rfl, by simp, fun i s h => by simp at h⟩
theorem rd_main {w : World} {lv : Value} {l : List InstrD} (h : RdInstrs none w lv l) : RdProg none w (pMain l) (.slice none 0 0) (.slice none 0 0) (.slice none 0 0) lv :=
  ⟨rdStrs_nil _ _, rdArrs_nil _ _, rdFuncs_nil _ _, h, (by unfold InI64; simp [pMain])⟩
theorem rdI {w : World} {g c : Nat} {l : List (InstrD × Value)} (hg : w.heap[g]? = some (.cells (l.flatMap insCells).toArray 60 (0, 0))) (hl : l.length ≤ 1000) (hx : ∀ p ∈ l, RdInstr none w p.1 p.2) (hcap : l.length ≤ c := by simp) : RdInstrs none w (.slice (some ⟨g, 0, none⟩) l.length c) (l.map Prod.fst) := by
  refine ⟨some ⟨g, 0, none⟩, c, by rw [List.length_map], by rw [List.length_map]; omega, fun i s hs => ?_⟩
  rw [List.getElem?_map] at hs
  cases hp : l[i]? with
  | none => rw [hp] at hs; cases hs
  | some p =>
    rw [hp] at hs
    cases hs
    have hcell : ∀ j v, j < 7 → (insCells p)[j]? = some v → w.cell? ⟨g, 0 + i * 7 + j, none⟩ = some v := fun j v hj hv => by
      refine row_of hg (0 + i * 7 + j) v ?_
      have := flat_get insCells 7 (fun _ => rfl) l i j p hp hj
      rw [Nat.zero_add, List.getElem?_toArray, this]
      exact hv
    exact ⟨g, 0, p.2, rfl, Free.none _ _ _, hcell 0 _ (by omega) rfl, hcell 1 _ (by omega) rfl, hcell 2 _ (by omega) rfl, hcell 3 _ (by omega) rfl, hcell 4 _ (by omega) rfl, hcell 5 _ (by omega) rfl, hcell 6 _ (by omega) rfl, hx p (List.mem_of_getElem? hp)⟩
theorem rdA {w : World} {g c : Nat} {l : List ArgD} (hg : w.heap[g]? = some (.cells (l.flatMap argCells).toArray 65 (0, 0))) (hl : l.length ≤ 1000) (hx : ∀ s ∈ l, InU64 s.num ∧ s.name.size ≤ maxLen) (hcap : l.length ≤ c := by simp) : RdArgs none w (.slice (some ⟨g, 0, none⟩) l.length c) l := by
  refine ⟨some ⟨g, 0, none⟩, c, rfl, by omega, fun i s hs => ⟨g, 0, rfl, Free.none _ _ _, row_of hg (0 + i * 2) _ ?_, row_of hg (0 + i * 2 + 1) _ ?_, hx s (List.mem_of_getElem? hs)⟩⟩
  · have := flat_get argCells 2 (fun _ => rfl) l i 0 s hs (by omega)
    rw [Nat.zero_add, List.getElem?_toArray, ← Nat.add_zero (i * 2), this]; rfl
  · have := flat_get argCells 2 (fun _ => rfl) l i 1 s hs (by omega)
    rw [Nat.zero_add, List.getElem?_toArray, this]; rfl
theorem ok_iRet {w : World} {av : Value} (h : RdArgs none w av [aZero]) : RdInstr none w iRet av := ⟨h, by decide, by decide, by decide, by decide, by decide, by decide⟩
theorem ok_iIte {w : World} {av : Value} (h : RdArgs none w av [aZero, aZero, aZero]) : RdInstr none w iIte av := ⟨h, by decide, by decide, by decide, by decide, by decide, by decide⟩
theorem ok_iAdd {w : World} {av : Value} (h : RdArgs none w av [⟨bs [121], 0⟩, ⟨bs [120], 0⟩]) : RdInstr none w iAdd av := ⟨h, by decide, by decide, by decide, by decide, by decide, by decide⟩
theorem make3 (w : World) : (Instr.makeSlice 58 (.int .i64 3) (.int .i64 3)).run Tryd.prog w = .ok (.slice (some ⟨w.heap.size, 0, none⟩) 3 3) (w.alloc (.cells #[.string ⟨#[]⟩, .int .u64 0, .string ⟨#[]⟩, .int .u64 0, .string ⟨#[]⟩, .int .u64 0] 65)) := by kernel_rfl
theorem rdS {w : World} {g c : Nat} {l : List ByteArray} (hg : w.heap[g]? = some (.cells (l.flatMap strCells).toArray 9 (0, 0))) (hl : l.length ≤ 1000) (hx : ∀ s ∈ l, s.size ≤ maxLen) (hcap : l.length ≤ c := by simp) : RdStrs none w (.slice (some ⟨g, 0, none⟩) l.length c) l := by
  refine ⟨some ⟨g, 0, none⟩, c, rfl, by omega, fun i s hs => ⟨g, 0, rfl, Free.none _ _ _, row_of hg (0 + i) _ ?_, hx s (List.mem_of_getElem? hs)⟩⟩
  have := flat_get strCells 1 (fun _ => rfl) l i 0 s hs (by omega)
  rw [Nat.mul_one, Nat.add_zero] at this
  rw [Nat.zero_add, List.getElem?_toArray, this]; rfl
end Go.Proofs.YtgcfdbhpophnjaaDoor
