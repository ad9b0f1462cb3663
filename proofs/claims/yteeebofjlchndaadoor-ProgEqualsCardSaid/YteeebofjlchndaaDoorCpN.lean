/- Contracts of slices.Clone: the row that comes back holds the same cells, in new memory. Condition: the cells of what comes in are known. -/
import Derived.Test.YteeebofjlchndaaDoorKitI
import Derived.Test.YteeebofjlchndaaDoorMix
set_option linter.unusedVariables false
set_option linter.unusedSimpArgs false
set_option linter.unnecessarySimpa false
namespace Go.Proofs.YteeebofjlchndaaDoor
open Go.ChangeShapes Go.WideShapes Go.ChangeAt Go.RowKit
theorem addNoneC (b o i : Nat) : (⟨b, o, none⟩ : Addr).add i = ⟨b, o + i, none⟩ := by
  unfold Addr.add
  split
  · rename_i h; subst h; rfl
  · rfl
theorem own_emptyC (w : World) (base g : Nat) (e : TypeId) (size : Nat) (hb : base ≤ g) (h : w.heap[g]? = some (.cells #[] e (0, 0))) : w.ownsRow base e size (.slice (some ⟨g, 0, none⟩) 0 0) 0 [] :=
  ⟨by simp, .inr ⟨g, 0, #[], rfl, hb, h, Nat.le_refl _, by unfold maxLen; omega, by simp, by simp⟩⟩
/-- The cells of a slice are these. -/
def HoldsC (w : World) (a : Option Addr) (cs : List Value) : Prop := ∀ j u, cs[j]? = some u → ∃ b o, a = some ⟨b, o, none⟩ ∧ w.cell? ⟨b, o + j, none⟩ = some u
theorem infoCStr : (Tryd.prog.info? 9).map (fun i => (i.zero, i.size, i.bytes)) = some (some (.string ⟨#[]⟩), 1, 16) := by kernel_rfl
set_option maxRecDepth 100000 in
set_option maxHeartbeats 1600000 in
theorem cloneStrN (a : Option Addr) (n c : Nat) (cs : List Value) (w : World) (h : HoldsC w a cs) (hn : cs.length = n * 1) (hl : n * 16 ≤ 140737488351232) (hone : ∀ u ∈ cs, u.oneCell' = true) :
    Calls Tryd.prog 36 #[.slice a n c] w fun e w' => ∃ v, e = .returned v ∧ w'.ownsRow w.heap.size 9 1 v n cs ∧ Below w.heap.size w w' := by
  obtain ⟨i0, hi, hz0, hz1, hz2⟩ := info_parts infoCStr
  cases a with
  | none =>
    have hcs : cs = [] := by
      cases cs with
      | nil => rfl
      | cons x r =>
        obtain ⟨b, o, e, _⟩ := h 0 x rfl
        cases e
    subst hcs
    obtain rfl : n = 0 := by simp at hn; omega
    have hq : ∀ w, (binOp .eql 22 (.slice none 0 c) (.slice none 0 0)).run Tryd.prog w = .ok (.bool true) w := fun w => Lib.run_eql_slice_nil w _ _ none 0 c 0 0 Tryd.underlying22
    clear h
    go_enter Tryd.func36, Tryd.ntmps36
    go_wp2
    go_ret
    exact ⟨_, rfl, World.ownsRow_nil _ _ _ _, Below.refl _ _⟩
  | some ad =>
    have hcell : ∀ j u, cs[j]? = some u → w.cell? (ad.add j) = some u := fun j u hj => by
      obtain ⟨b, o, e, hc⟩ := h j u hj
      cases e
      rw [addNoneC]
      exact hc
    have HN : Hid (Below w.heap.size w (w.alloc (.cells #[] 9)) ∧ (w.alloc (.cells #[] 9)).ownsRow w.heap.size 9 1 (.slice (some ⟨w.heap.size, 0, none⟩) 0 0) 0 []) := ⟨(Below.refl _ _).alloc (Nat.le_refl _) _, own_emptyC _ _ _ _ _ (Nat.le_refl _) (heap_alloc_new _ _)⟩
    have HR2 : Hid (∀ j u, cs[j]? = some u → (w.alloc (.cells #[] 9)).cell? (ad.add j) = some u) := fun j u hj => cell_keep HN.out.1 (hcell j u hj)
    have HC2 := Lib.hid hone
    have HS : Hid (w.heap.size ≤ (w.alloc (.cells #[] 9)).heap.size) := HN.out.1.size
    have HLN := Lib.hid hn
    have hq : ∀ w, (binOp .eql 22 (.slice (some ad) n c) (.slice none 0 0)).run Tryd.prog w = .ok (.bool false) w := fun w => Lib.run_eql_slice_nil w _ _ (some ad) n c 0 0 Tryd.underlying22
    clear h hcell hone hn
    go_enter Tryd.func36, Tryd.ntmps36
    go_wp2_with (at_builtin; refine wpList_append_own _ rfl (.tmp 5) (.tmp 6) 22 rfl w.heap.size 9 i0 (.string ⟨#[]⟩) 1 16 Tryd.underlying22 hi hz0 hz1 hz2 rfl (by decide) _ _ _ rfl HN.out.2 ad n c cs rfl HLN.out HR2.out HC2.out (by unfold maxLen; omega) (by omega) HS.out ?_)
    · intro v' w1 hown' hgrow _
      have hb1 := (HN.out.1).grown hgrow (by show w.heap.size ≤ _; exact HS.out) (own_row_le HN.out.2)
      go_wp2
      go_ret
      exact ⟨_, rfl, hown', hb1⟩
theorem infoCArr : (Tryd.prog.info? 48).map (fun i => (i.zero, i.size, i.bytes)) = some (some (.agg #[.string ⟨#[]⟩, .int .i64 0]), 2, 24) := by kernel_rfl
set_option maxRecDepth 100000 in
set_option maxHeartbeats 1600000 in
theorem cloneArrN (a : Option Addr) (n c : Nat) (cs : List Value) (w : World) (h : HoldsC w a cs) (hn : cs.length = n * 2) (hl : n * 24 ≤ 140737488351232) (hone : ∀ u ∈ cs, u.oneCell' = true) :
    Calls Tryd.prog 37 #[.slice a n c] w fun e w' => ∃ v, e = .returned v ∧ w'.ownsRow w.heap.size 48 2 v n cs ∧ Below w.heap.size w w' := by
  obtain ⟨i0, hi, hz0, hz1, hz2⟩ := info_parts infoCArr
  cases a with
  | none =>
    have hcs : cs = [] := by
      cases cs with
      | nil => rfl
      | cons x r =>
        obtain ⟨b, o, e, _⟩ := h 0 x rfl
        cases e
    subst hcs
    obtain rfl : n = 0 := by simp at hn; omega
    have hq : ∀ w, (binOp .eql 23 (.slice none 0 c) (.slice none 0 0)).run Tryd.prog w = .ok (.bool true) w := fun w => Lib.run_eql_slice_nil w _ _ none 0 c 0 0 Tryd.underlying23
    clear h
    go_enter Tryd.func37, Tryd.ntmps37
    go_wp2
    go_ret
    exact ⟨_, rfl, World.ownsRow_nil _ _ _ _, Below.refl _ _⟩
  | some ad =>
    have hcell : ∀ j u, cs[j]? = some u → w.cell? (ad.add j) = some u := fun j u hj => by
      obtain ⟨b, o, e, hc⟩ := h j u hj
      cases e
      rw [addNoneC]
      exact hc
    have HN : Hid (Below w.heap.size w (w.alloc (.cells #[] 48)) ∧ (w.alloc (.cells #[] 48)).ownsRow w.heap.size 48 2 (.slice (some ⟨w.heap.size, 0, none⟩) 0 0) 0 []) := ⟨(Below.refl _ _).alloc (Nat.le_refl _) _, own_emptyC _ _ _ _ _ (Nat.le_refl _) (heap_alloc_new _ _)⟩
    have HR2 : Hid (∀ j u, cs[j]? = some u → (w.alloc (.cells #[] 48)).cell? (ad.add j) = some u) := fun j u hj => cell_keep HN.out.1 (hcell j u hj)
    have HC2 := Lib.hid hone
    have HS : Hid (w.heap.size ≤ (w.alloc (.cells #[] 48)).heap.size) := HN.out.1.size
    have HLN := Lib.hid hn
    have hq : ∀ w, (binOp .eql 23 (.slice (some ad) n c) (.slice none 0 0)).run Tryd.prog w = .ok (.bool false) w := fun w => Lib.run_eql_slice_nil w _ _ (some ad) n c 0 0 Tryd.underlying23
    clear h hcell hone hn
    go_enter Tryd.func37, Tryd.ntmps37
    go_wp2_with (at_builtin; refine wpList_append_own _ rfl (.tmp 5) (.tmp 6) 23 rfl w.heap.size 48 i0 (.agg #[.string ⟨#[]⟩, .int .i64 0]) 2 24 Tryd.underlying23 hi hz0 hz1 hz2 rfl (by decide) _ _ _ rfl HN.out.2 ad n c cs rfl HLN.out HR2.out HC2.out (by unfold maxLen; omega) (by omega) HS.out ?_)
    · intro v' w1 hown' hgrow _
      have hb1 := (HN.out.1).grown hgrow (by show w.heap.size ≤ _; exact HS.out) (own_row_le HN.out.2)
      go_wp2
      go_ret
      exact ⟨_, rfl, hown', hb1⟩
theorem infoCFun : (Tryd.prog.info? 51).map (fun i => (i.zero, i.size, i.bytes)) = some (some (.agg #[.string ⟨#[]⟩, .slice none 0 0, .slice none 0 0, .int .i64 0, .int .i64 0]), 5, 80) := by kernel_rfl
set_option maxRecDepth 100000 in
set_option maxHeartbeats 1600000 in
theorem cloneFunN (a : Option Addr) (n c : Nat) (cs : List Value) (w : World) (h : HoldsC w a cs) (hn : cs.length = n * 5) (hl : n * 80 ≤ 140737488351232) (hone : ∀ u ∈ cs, u.oneCell' = true) :
    Calls Tryd.prog 38 #[.slice a n c] w fun e w' => ∃ v, e = .returned v ∧ w'.ownsRow w.heap.size 51 5 v n cs ∧ Below w.heap.size w w' := by
  obtain ⟨i0, hi, hz0, hz1, hz2⟩ := info_parts infoCFun
  cases a with
  | none =>
    have hcs : cs = [] := by
      cases cs with
      | nil => rfl
      | cons x r =>
        obtain ⟨b, o, e, _⟩ := h 0 x rfl
        cases e
    subst hcs
    obtain rfl : n = 0 := by simp at hn; omega
    have hq : ∀ w, (binOp .eql 24 (.slice none 0 c) (.slice none 0 0)).run Tryd.prog w = .ok (.bool true) w := fun w => Lib.run_eql_slice_nil w _ _ none 0 c 0 0 Tryd.underlying24
    clear h
    go_enter Tryd.func38, Tryd.ntmps38
    go_wp2
    go_ret
    exact ⟨_, rfl, World.ownsRow_nil _ _ _ _, Below.refl _ _⟩
  | some ad =>
    have hcell : ∀ j u, cs[j]? = some u → w.cell? (ad.add j) = some u := fun j u hj => by
      obtain ⟨b, o, e, hc⟩ := h j u hj
      cases e
      rw [addNoneC]
      exact hc
    have HN : Hid (Below w.heap.size w (w.alloc (.cells #[] 51)) ∧ (w.alloc (.cells #[] 51)).ownsRow w.heap.size 51 5 (.slice (some ⟨w.heap.size, 0, none⟩) 0 0) 0 []) := ⟨(Below.refl _ _).alloc (Nat.le_refl _) _, own_emptyC _ _ _ _ _ (Nat.le_refl _) (heap_alloc_new _ _)⟩
    have HR2 : Hid (∀ j u, cs[j]? = some u → (w.alloc (.cells #[] 51)).cell? (ad.add j) = some u) := fun j u hj => cell_keep HN.out.1 (hcell j u hj)
    have HC2 := Lib.hid hone
    have HS : Hid (w.heap.size ≤ (w.alloc (.cells #[] 51)).heap.size) := HN.out.1.size
    have HLN := Lib.hid hn
    have hq : ∀ w, (binOp .eql 24 (.slice (some ad) n c) (.slice none 0 0)).run Tryd.prog w = .ok (.bool false) w := fun w => Lib.run_eql_slice_nil w _ _ (some ad) n c 0 0 Tryd.underlying24
    clear h hcell hone hn
    go_enter Tryd.func38, Tryd.ntmps38
    go_wp2_with (at_builtin; refine wpList_append_own _ rfl (.tmp 5) (.tmp 6) 24 rfl w.heap.size 51 i0 (.agg #[.string ⟨#[]⟩, .slice none 0 0, .slice none 0 0, .int .i64 0, .int .i64 0]) 5 80 Tryd.underlying24 hi hz0 hz1 hz2 rfl (by decide) _ _ _ rfl HN.out.2 ad n c cs rfl HLN.out HR2.out HC2.out (by unfold maxLen; omega) (by omega) HS.out ?_)
    · intro v' w1 hown' hgrow _
      have hb1 := (HN.out.1).grown hgrow (by show w.heap.size ≤ _; exact HS.out) (own_row_le HN.out.2)
      go_wp2
      go_ret
      exact ⟨_, rfl, hown', hb1⟩
theorem infoCIns : (Tryd.prog.info? 40).map (fun i => (i.zero, i.size, i.bytes)) = some (some (.agg #[.int .u8 0, .int .u8 0, .string ⟨#[]⟩, .string ⟨#[]⟩, .slice none 0 0, .int .i64 0, .int .i64 0]), 7, 80) := by kernel_rfl
set_option maxRecDepth 100000 in
set_option maxHeartbeats 1600000 in
theorem cloneInsN (a : Option Addr) (n c : Nat) (cs : List Value) (w : World) (h : HoldsC w a cs) (hn : cs.length = n * 7) (hl : n * 80 ≤ 140737488351232) (hone : ∀ u ∈ cs, u.oneCell' = true) :
    Calls Tryd.prog 47 #[.slice a n c] w fun e w' => ∃ v, e = .returned v ∧ w'.ownsRow w.heap.size 40 7 v n cs ∧ Below w.heap.size w w' := by
  obtain ⟨i0, hi, hz0, hz1, hz2⟩ := info_parts infoCIns
  cases a with
  | none =>
    have hcs : cs = [] := by
      cases cs with
      | nil => rfl
      | cons x r =>
        obtain ⟨b, o, e, _⟩ := h 0 x rfl
        cases e
    subst hcs
    obtain rfl : n = 0 := by simp at hn; omega
    have hq : ∀ w, (binOp .eql 25 (.slice none 0 c) (.slice none 0 0)).run Tryd.prog w = .ok (.bool true) w := fun w => Lib.run_eql_slice_nil w _ _ none 0 c 0 0 Tryd.underlying25
    clear h
    go_enter Tryd.func47, Tryd.ntmps47
    go_wp2
    go_ret
    exact ⟨_, rfl, World.ownsRow_nil _ _ _ _, Below.refl _ _⟩
  | some ad =>
    have hcell : ∀ j u, cs[j]? = some u → w.cell? (ad.add j) = some u := fun j u hj => by
      obtain ⟨b, o, e, hc⟩ := h j u hj
      cases e
      rw [addNoneC]
      exact hc
    have HN : Hid (Below w.heap.size w (w.alloc (.cells #[] 40)) ∧ (w.alloc (.cells #[] 40)).ownsRow w.heap.size 40 7 (.slice (some ⟨w.heap.size, 0, none⟩) 0 0) 0 []) := ⟨(Below.refl _ _).alloc (Nat.le_refl _) _, own_emptyC _ _ _ _ _ (Nat.le_refl _) (heap_alloc_new _ _)⟩
    have HR2 : Hid (∀ j u, cs[j]? = some u → (w.alloc (.cells #[] 40)).cell? (ad.add j) = some u) := fun j u hj => cell_keep HN.out.1 (hcell j u hj)
    have HC2 := Lib.hid hone
    have HS : Hid (w.heap.size ≤ (w.alloc (.cells #[] 40)).heap.size) := HN.out.1.size
    have HLN := Lib.hid hn
    have hq : ∀ w, (binOp .eql 25 (.slice (some ad) n c) (.slice none 0 0)).run Tryd.prog w = .ok (.bool false) w := fun w => Lib.run_eql_slice_nil w _ _ (some ad) n c 0 0 Tryd.underlying25
    clear h hcell hone hn
    go_enter Tryd.func47, Tryd.ntmps47
    go_wp2_with (at_builtin; refine wpList_append_own _ rfl (.tmp 5) (.tmp 6) 25 rfl w.heap.size 40 i0 (.agg #[.int .u8 0, .int .u8 0, .string ⟨#[]⟩, .string ⟨#[]⟩, .slice none 0 0, .int .i64 0, .int .i64 0]) 7 80 Tryd.underlying25 hi hz0 hz1 hz2 rfl (by decide) _ _ _ rfl HN.out.2 ad n c cs rfl HLN.out HR2.out HC2.out (by unfold maxLen; omega) (by omega) HS.out ?_)
    · intro v' w1 hown' hgrow _
      have hb1 := (HN.out.1).grown hgrow (by show w.heap.size ≤ _; exact HS.out) (own_row_le HN.out.2)
      go_wp2
      go_ret
      exact ⟨_, rfl, hown', hb1⟩
theorem infoCArg : (Tryd.prog.info? 43).map (fun i => (i.zero, i.size, i.bytes)) = some (some (.agg #[.string ⟨#[]⟩, .int .u64 0]), 2, 24) := by kernel_rfl
set_option maxRecDepth 100000 in
set_option maxHeartbeats 1600000 in
theorem cloneArgN (a : Option Addr) (n c : Nat) (cs : List Value) (w : World) (h : HoldsC w a cs) (hn : cs.length = n * 2) (hl : n * 24 ≤ 140737488351232) (hone : ∀ u ∈ cs, u.oneCell' = true) :
    Calls Tryd.prog 48 #[.slice a n c] w fun e w' => ∃ v, e = .returned v ∧ w'.ownsRow w.heap.size 43 2 v n cs ∧ Below w.heap.size w w' := by
  obtain ⟨i0, hi, hz0, hz1, hz2⟩ := info_parts infoCArg
  cases a with
  | none =>
    have hcs : cs = [] := by
      cases cs with
      | nil => rfl
      | cons x r =>
        obtain ⟨b, o, e, _⟩ := h 0 x rfl
        cases e
    subst hcs
    obtain rfl : n = 0 := by simp at hn; omega
    have hq : ∀ w, (binOp .eql 36 (.slice none 0 c) (.slice none 0 0)).run Tryd.prog w = .ok (.bool true) w := fun w => Lib.run_eql_slice_nil w _ _ none 0 c 0 0 Tryd.underlying36
    clear h
    go_enter Tryd.func48, Tryd.ntmps48
    go_wp2
    go_ret
    exact ⟨_, rfl, World.ownsRow_nil _ _ _ _, Below.refl _ _⟩
  | some ad =>
    have hcell : ∀ j u, cs[j]? = some u → w.cell? (ad.add j) = some u := fun j u hj => by
      obtain ⟨b, o, e, hc⟩ := h j u hj
      cases e
      rw [addNoneC]
      exact hc
    have HN : Hid (Below w.heap.size w (w.alloc (.cells #[] 43)) ∧ (w.alloc (.cells #[] 43)).ownsRow w.heap.size 43 2 (.slice (some ⟨w.heap.size, 0, none⟩) 0 0) 0 []) := ⟨(Below.refl _ _).alloc (Nat.le_refl _) _, own_emptyC _ _ _ _ _ (Nat.le_refl _) (heap_alloc_new _ _)⟩
    have HR2 : Hid (∀ j u, cs[j]? = some u → (w.alloc (.cells #[] 43)).cell? (ad.add j) = some u) := fun j u hj => cell_keep HN.out.1 (hcell j u hj)
    have HC2 := Lib.hid hone
    have HS : Hid (w.heap.size ≤ (w.alloc (.cells #[] 43)).heap.size) := HN.out.1.size
    have HLN := Lib.hid hn
    have hq : ∀ w, (binOp .eql 36 (.slice (some ad) n c) (.slice none 0 0)).run Tryd.prog w = .ok (.bool false) w := fun w => Lib.run_eql_slice_nil w _ _ (some ad) n c 0 0 Tryd.underlying36
    clear h hcell hone hn
    go_enter Tryd.func48, Tryd.ntmps48
    go_wp2_with (at_builtin; refine wpList_append_own _ rfl (.tmp 5) (.tmp 6) 36 rfl w.heap.size 43 i0 (.agg #[.string ⟨#[]⟩, .int .u64 0]) 2 24 Tryd.underlying36 hi hz0 hz1 hz2 rfl (by decide) _ _ _ rfl HN.out.2 ad n c cs rfl HLN.out HR2.out HC2.out (by unfold maxLen; omega) (by omega) HS.out ?_)
    · intro v' w1 hown' hgrow _
      have hb1 := (HN.out.1).grown hgrow (by show w.heap.size ≤ _; exact HS.out) (own_row_le HN.out.2)
      go_wp2
      go_ret
      exact ⟨_, rfl, hown', hb1⟩
end Go.Proofs.YteeebofjlchndaaDoor
