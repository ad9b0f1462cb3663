/- Contracts of the kit's copies of lists: what comes back reads as what came in, in new memory that the caller may write, and nothing that was there is written. Condition: what comes in reads as the list. -/
import Derived.Test.YtkjkpddajjmloaaDoorProg
import Derived.Test.YtkjkpddajjmloaaDoorRowA
set_option linter.unusedVariables false
set_option linter.unusedSimpArgs false
namespace Go.Proofs.YtkjkpddajjmloaaDoor
open Go.ChangeShapes Go.WideShapes Go.ChangeAt Go.RowKit
theorem infoStr : (Tryd.prog.info? 9).map (fun i => (i.zero, i.size, i.bytes)) = some (some (.string ⟨#[]⟩), 1, 16) := by kernel_rfl
theorem infoInt : (Tryd.prog.info? 3).map (fun i => (i.zero, i.size, i.bytes)) = some (some (.int .i64 0), 1, 8) := by kernel_rfl
theorem infoNum : (Tryd.prog.info? 55).map (fun i => (i.zero, i.size, i.bytes)) = some (some (.int .u64 0), 1, 8) := by kernel_rfl
set_option maxRecDepth 100000 in
set_option maxHeartbeats 800000 in
theorem copyNum (av : Value) (l : List Int) (w : World) (h : RdRow kNum none w av l) :
    Calls Tryd.prog 54 #[av] w fun e w' => ∃ v, e = .returned v ∧ w'.ownsRow w.heap.size 55 1 v l.length (l.flatMap cellsNum) ∧ RdRow kNum (some (upFrom w.heap.size)) w' v l ∧ Below w.heap.size w w' := by
  obtain ⟨a, c, rfl⟩ := h.is
  obtain ⟨i0, hi, hz0, hz1, hz2⟩ := info_parts infoNum
  have hok : Hid (∀ s ∈ l, kNum.ok s) := h.ok
  have hl : l.length * 8 ≤ 140737488351232 := h.size
  have HR := Lib.hid h
  clear h
  go_enter Tryd.func54, Tryd.ntmps54
  go_wp2
  go_loopw [3, 4] (fun v i wr => ∃ k : Nat, k ≤ l.length ∧ i = .int .i64 k ∧ wr.ownsRow w.heap.size 55 1 v k ((l.take k).flatMap cellsNum) ∧ Below w.heap.size w wr) (fun _ i _ => l.length - (intOf i).toNat)
  case atStart => exact ⟨0, Nat.zero_le _, rfl, World.ownsRow_nil _ _ _ _, Below.refl _ _⟩
  case round =>
    obtain ⟨k, hk, rfl, hown, hb⟩ := hrel
    by_cases hlt : k < l.length
    · obtain ⟨x, hx⟩ : ∃ x, l[k]? = some x := ⟨_, List.getElem?_eq_getElem hlt⟩
      obtain ⟨b, o, rfl, _, c0, _⟩ := atNum HR.out hx
      have c0' := cell_keepB hb c0 (block_lt_of_cell c0)
      have HX := Lib.hid (flat_take cellsNum l k x hx)
      clear c0
      have hsz := hb.size
      clear hx
      go_wp2_with (at_builtin; refine wpList_append_own _ rfl (.tmp 11) (.tmp 16) 54 rfl w.heap.size 55 i0 (.int .u64 0) 1 8 Tryd.underlying54 hi hz0 hz1 hz2 rfl (by decide) _ _ _ rfl (hown.alloc _) ⟨wr.heap.size, 0, none⟩ 1 1 (cellsNum x) rfl rfl (many_new _ _ _) ?c2 ?c3 ?c4 ?c5 ?_)
      case c2 => intro u hu; simp [cellsNum] at hu; first | (rcases hu with rfl | rfl | rfl | rfl | rfl | rfl | rfl | rfl <;> rfl) | (rcases hu with rfl | rfl <;> rfl) | (subst hu; rfl)
      case c3 => unfold maxLen; omega
      case c4 => omega
      case c5 => simp; omega
      · intro v' w1 hown' hgrow _
        rw [← HX.out] at hown'
        have hb1 := (hb.alloc hb.size (.cells (cellsNum x).toArray 55)).grown hgrow (by simp; omega) (own_row_le hown)
        clear hown
        go_wp2
        go_roundw
        case rel => exact ⟨k + 1, by omega, by go_num, hown', hb1⟩
        case measure => simp [intOf]; omega
    · obtain rfl : k = l.length := by omega
      rw [List.take_length] at hown
      go_wp2
      go_ret
      exact ⟨_, rfl, hown, own_rows (K := kNum) hown hl hok.out, hb⟩
theorem infoBool : (Tryd.prog.info? 4).map (fun i => (i.zero, i.size, i.bytes)) = some (some (.bool false), 1, 1) := by kernel_rfl
theorem infoCode : (Tryd.prog.info? 103).map (fun i => (i.zero, i.size, i.bytes)) = some (some (.agg #[.int .u8 0, .int .u8 0, .int .i64 0, .int .i64 0, .int .i64 0, .int .u64 0, .int .i64 0, .int .u64 0]), 8, 56) := by kernel_rfl
theorem infoEv : (Tryd.prog.info? 146).map (fun i => (i.zero, i.size, i.bytes)) = some (some (.agg #[.int .i64 0, .int .u64 0]), 2, 16) := by kernel_rfl
end Go.Proofs.YtkjkpddajjmloaaDoor
