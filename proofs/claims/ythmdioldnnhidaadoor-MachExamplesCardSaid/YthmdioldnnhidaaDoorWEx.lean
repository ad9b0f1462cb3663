/- The walk of MachExamples. Condition: the tables hold what they are laid with. -/
import Derived.Test.YthmdioldnnhidaaDoorWRu
import Derived.Test.YthmdioldnnhidaaDoorWSt
import Derived.Test.YthmdioldnnhidaaDoorLMf
set_option linter.unnecessarySimpa false
set_option linter.unusedVariables false
set_option linter.unusedSimpArgs false
namespace Go.Proofs.YthmdioldnnhidaaDoor
open Go.ChangeShapes Go.WideShapes Go.ChangeAt Go.RowKit
/-- The program that the examples make of an operator and a width; b: the second operand's register. -/
def exD (o wd b : Int) : FlatD := ⟨wd, 2, [⟨#[99]⟩], [], [], [⟨4, 0, 0, 0, ⟨0, 0⟩, ⟨0, 0⟩⟩, ⟨4, 0, 1, 0, ⟨0, 0⟩, ⟨0, 0⟩⟩, ⟨1, o, 0, 0, ⟨0, 0⟩, ⟨b, 0⟩⟩, ⟨5, 0, 0, 0, ⟨0, 0⟩, ⟨0, 0⟩⟩, ⟨8, 0, 0, 0, ⟨1, 0⟩, ⟨0, 0⟩⟩, ⟨9, 0, 0, 0, ⟨0, 0⟩, ⟨0, 0⟩⟩]⟩
def numsL : List Int := [0, 1, 2, 7, 8, 63, 64, 2147483648, 9223372036854775807, 9223372036854775808, 18446744073709551615]
theorem numsL_in : ∀ x ∈ numsL, InU64 x := by
  intro x hx
  simp only [numsL, List.mem_cons, List.not_mem_nil, or_false] at hx
  rcases hx with rfl | rfl | rfl | rfl | rfl | rfl | rfl | rfl | rfl | rfl | rfl <;> exact ⟨by decide, by decide⟩
theorem nums_at {k : Nat} {x : Int} (h : numsL[k]? = some x) : (#[.int .u64 0, .int .u64 1, .int .u64 2, .int .u64 7, .int .u64 8, .int .u64 63, .int .u64 64, .int .u64 2147483648, .int .u64 9223372036854775807, .int .u64 9223372036854775808, .int .u64 18446744073709551615] : Array Value)[k]? = some (.int .u64 x) := u64s_get numsL k x h
/-- The blocks of such a program. -/
theorem exD_rd {w : World} {c k : Nat} {o wd b : Int} (h1 : w.heap[c]? = some (.cells #[.string ⟨#[99]⟩] 9 (0, 0))) (h2 : w.heap[k]? = some (.cells #[.int .u8 4, .int .u8 0, .int .i64 0, .int .i64 0, .int .i64 0, .int .u64 0, .int .i64 0, .int .u64 0, .int .u8 4, .int .u8 0, .int .i64 1, .int .i64 0, .int .i64 0, .int .u64 0, .int .i64 0, .int .u64 0, .int .u8 1, .int .u8 o, .int .i64 0, .int .i64 0, .int .i64 0, .int .u64 0, .int .i64 b, .int .u64 0, .int .u8 5, .int .u8 0, .int .i64 0, .int .i64 0, .int .i64 0, .int .u64 0, .int .i64 0, .int .u64 0, .int .u8 8, .int .u8 0, .int .i64 0, .int .i64 0, .int .i64 1, .int .u64 0, .int .i64 0, .int .u64 0, .int .u8 9, .int .u8 0, .int .i64 0, .int .i64 0, .int .i64 0, .int .u64 0, .int .i64 0, .int .u64 0] 44 (0, 0))) (ho : InU8 o) (hw : InI64 wd) (hb : InI64 b) :
    RdFlat none w (exD o wd b) (.slice (some ⟨c, 0, none⟩) 1 1) (.slice none 0 0) (.slice none 0 0) (.slice (some ⟨k, 0, none⟩) 6 6) := by
  have z8 : InU8 0 := ⟨by decide, by decide⟩
  have z81 : InU8 1 := ⟨by decide, by decide⟩
  have z6 : InI64 0 := ⟨by decide, by decide⟩
  have zu : InU64 0 := ⟨by decide, by decide⟩
  have z2 : InI64 2 := ⟨by decide, by decide⟩
  refine ⟨(row_new kStr (l := [⟨#[99]⟩]) h1 rfl (by decide) (fun s hs => by simp only [List.mem_singleton] at hs; subst hs; decide)).forget, nilRow _ _ _, nilRow _ _ _, (row_new kCode (l := (exD o wd b).code) h2 rfl (by show 6 * 56 ≤ _; omega) ?_).forget, hw, z2⟩
  intro s hs
  simp only [exD, List.mem_cons, List.not_mem_nil, or_false] at hs
  rcases hs with rfl | rfl | rfl | rfl | rfl | rfl
  · exact ⟨⟨by decide, by decide⟩, z8, z6, z6, z6, zu, z6, zu⟩
  · exact ⟨⟨by decide, by decide⟩, z8, ⟨by decide, by decide⟩, z6, z6, zu, z6, zu⟩
  · exact ⟨z81, ho, z6, z6, z6, zu, hb, zu⟩
  · exact ⟨⟨by decide, by decide⟩, z8, z6, z6, z6, zu, z6, zu⟩
  · exact ⟨⟨by decide, by decide⟩, z8, z6, z6, ⟨by decide, by decide⟩, zu, z6, zu⟩
  · exact ⟨⟨by decide, by decide⟩, z8, z6, z6, z6, zu, z6, zu⟩
theorem lists1 {w : World} {g : Nat} {v : Value} {l : List Int} (hg : w.heap[g]? = some (.cells #[v] 45 (0, 0))) (hr : RdRow kNum none w v l) : RdLists none w (.slice (some ⟨g, 0, none⟩) 1 1) [l] := by
  refine ⟨_, 1, rfl, ⟨by show 1 * 24 ≤ 140737488351232; omega, by show 1 ≤ 1; omega⟩, fun i x hx => ?_⟩
  have hi : i = 0 := by
    rcases Nat.eq_zero_or_pos i with h | h
    · exact h
    · rw [List.getElem?_eq_none (by simp; omega)] at hx; cases hx
  subst hi
  simp only [List.getElem?_cons_zero, Option.some.injEq] at hx
  subst hx
  exact ⟨g, 0, v, rfl, Free.none _ _ _, row_of hg 0 v rfl, hr⟩
theorem ints2 {w : World} {g : Nat} (hg : w.heap[g]? = some (.cells #[.int .i64 2, .int .i64 4611686018427387904] 3 (0, 0))) : RdRow kInt none w (.slice (some ⟨g, 0, none⟩) 2 2) [2, 4611686018427387904] :=
  (row_new kInt (l := [2, 4611686018427387904]) hg rfl (by decide) (fun s hs => by simp only [List.mem_cons, List.not_mem_nil, or_false] at hs; rcases hs with rfl | rfl <;> exact ⟨by decide, by decide⟩)).forget
theorem row_drop1 {w : World} {b n c : Nat} {l : List Int} (h : RdRow kNum none w (.slice (some ⟨b, 0, none⟩) n c) l) (hl : l.length = n) : RdRow kNum none w (.slice (some ⟨b, 1, none⟩) (n - 1) (c - 1)) (l.drop 1) := by
  obtain ⟨a, c', e, ⟨h1, h2⟩, hr⟩ := h
  simp only [Value.slice.injEq] at e
  obtain ⟨rfl, _, rfl⟩ := e
  refine ⟨_, c - 1, by rw [List.length_drop, hl], ⟨by rw [List.length_drop]; have : l.length * 8 ≤ 140737488351232 := h1; show (l.length - 1) * 8 ≤ _; omega, by rw [List.length_drop]; omega⟩, fun i x hx => ?_⟩
  rw [List.getElem?_drop] at hx
  obtain ⟨b0, o0, e0, _, hc, hok⟩ := hr (1 + i) x hx
  simp only [Option.some.injEq, Addr.mk.injEq, and_true] at e0
  obtain ⟨rfl, rfl⟩ := e0
  refine ⟨b, 1, rfl, Free.none _ _ _, fun q u hq => ?_, hok⟩
  have := hc q u hq
  rw [show (0 : Nat) + (1 + i) * kNum.sz + q = 1 + i * kNum.sz + q by show 0 + (1 + i) * 1 + q = 1 + i * 1 + q; omega] at this
  exact this
theorem exD_rd' {w w' : World} {f : FlatD} {a b c d : Value} (h : RdFlat none w f a b c d) (k : Below w.heap.size w w') : RdFlat none w' f a b c d := h.keep k
theorem nilLs (w : World) : RdLists none w (.slice none 0 0) [] := ⟨none, 0, rfl, ⟨by decide, by decide⟩, fun i x hx => by simp at hx⟩
theorem loop_rd {w : World} {k : Nat} (h2 : w.heap[k]? = some (.cells #[.int .u8 1, .int .u8 4, .int .i64 0, .int .i64 0, .int .i64 0, .int .u64 0, .int .i64 (-1), .int .u64 1, .int .u8 8, .int .u8 0, .int .i64 0, .int .i64 0, .int .i64 0, .int .u64 0, .int .i64 0, .int .u64 0, .int .u8 9, .int .u8 0, .int .i64 0, .int .i64 0, .int .i64 0, .int .u64 0, .int .i64 0, .int .u64 0] 44 (0, 0))) : RdFlat none w loopD (.slice none 0 0) (.slice none 0 0) (.slice none 0 0) (.slice (some ⟨k, 0, none⟩) 3 3) := by
  have z2 : InI64 1 := ⟨by decide, by decide⟩
  have z3 : InI64 16 := ⟨by decide, by decide⟩
  refine ⟨nilRow _ _ _, nilRow _ _ _, nilRow _ _ _, (row_new kCode (l := loopD.code) h2 rfl (by show 3 * 56 ≤ _; omega) ?_).forget, z3, z2⟩
  intro s hs
  simp only [loopD, List.mem_cons, List.not_mem_nil, or_false] at hs
  rcases hs with rfl | rfl | rfl <;> exact ⟨⟨by decide, by decide⟩, ⟨by decide, by decide⟩, ⟨by decide, by decide⟩, ⟨by decide, by decide⟩, ⟨by decide, by decide⟩, ⟨by decide, by decide⟩, ⟨by decide, by decide⟩, ⟨by decide, by decide⟩⟩
theorem kNum_app (a b : List Int) : a.flatMap cellsNum ++ b.flatMap cellsNum = (a ++ b).flatMap cellsNum := by rw [List.flatMap_append]
set_option maxRecDepth 100000 in
set_option maxHeartbeats 6400000 in
theorem examples_walk (w : World) (hL : Laid w) : Calls Tryd.prog 5 #[] w fun e w' => e = .returned (.bool true) ∧ Below w.heap.size w w' := by
  have HL := Lib.hid hL
  have HB1 := Lib.hid ((Below.refl w.heap.size w).alloc (Nat.le_refl _) (.cells #[.int .u64 0, .int .u64 1, .int .u64 2, .int .u64 7, .int .u64 8, .int .u64 63, .int .u64 64, .int .u64 2147483648, .int .u64 9223372036854775807, .int .u64 9223372036854775808, .int .u64 18446744073709551615] 40))
  have HN := Lib.hid (heap_alloc_new w (.cells #[.int .u64 0, .int .u64 1, .int .u64 2, .int .u64 7, .int .u64 8, .int .u64 63, .int .u64 64, .int .u64 2147483648, .int .u64 9223372036854775807, .int .u64 9223372036854775808, .int .u64 18446744073709551615] 40))
  clear hL
  go_enter Tryd.func5, Tryd.ntmps5
  go_upto_region 2 with fail
  generalize w.alloc (.cells #[.int .u64 0, .int .u64 1, .int .u64 2, .int .u64 7, .int .u64 8, .int .u64 63, .int .u64 64, .int .u64 2147483648, .int .u64 9223372036854775807, .int .u64 9223372036854775808, .int .u64 18446744073709551615] 40) = W1 at *
  have hsw : w.heap.size < W1.heap.size := (Array.getElem?_eq_some_iff.1 HN.out).1
  go_wp2_with fail
  go_loopw [2] (fun ov wr => ∃ o : Nat, 2 ≤ o ∧ o ≤ 21 ∧ ov = .int .u8 o ∧ Below W1.heap.size W1 wr) (fun ov _ => 21 - (intOf ov).toNat)
  case atStart => exact ⟨2, by omega, by omega, rfl, Below.refl _ _⟩
  case round =>
    obtain ⟨o, ho1, ho2, rfl, hb⟩ := hrel
    obtain ⟨w2, rfl⟩ : ∃ x : World, x = wr := ⟨_, rfl⟩
    by_cases hlt : o ≤ 20
    · have hlt' : (o : Int) ≤ 20 := by omega
      --[[
      have HB2 := Lib.hid hb
      clear hb
      go_wp2_with fail
      go_loopw [3] (fun iv wr => ∃ j : Nat, j ≤ 8 ∧ iv = .int .i64 (1 + 9 * (j : Int)) ∧ Below W1.heap.size W1 wr) (fun iv _ => 73 - (intOf iv).toNat)
      case atStart => exact ⟨0, by omega, rfl, HB2.out⟩
      case round =>
        obtain ⟨j, hj, rfl, hb⟩ := hrel
        obtain ⟨w3, rfl⟩ : ∃ x : World, x = wr := ⟨_, rfl⟩
        by_cases hjl : j < 8
        · have hj1 : 1 + 9 * (j : Int) ≤ 64 := by omega
          have HB3 := Lib.hid hb
          have hs3 : W1.heap.size ≤ w3.heap.size := by have := hb.size; omega
          clear hb
          go_upto_region 9 with fail
          have hal := (((Below.refl w3.heap.size w3).alloc (Nat.le_refl _) (.cells #[.string ⟨#[99]⟩] 9)).alloc (by simp) (.cells #[.int .u8 4, .int .u8 0, .int .i64 0, .int .i64 0, .int .i64 0, .int .u64 0, .int .i64 0, .int .u64 0, .int .u8 4, .int .u8 0, .int .i64 1, .int .i64 0, .int .i64 0, .int .u64 0, .int .i64 0, .int .u64 0, .int .u8 1, .int .u8 o, .int .i64 0, .int .i64 0, .int .i64 0, .int .u64 0, .int .i64 1, .int .u64 0, .int .u8 5, .int .u8 0, .int .i64 0, .int .i64 0, .int .i64 0, .int .u64 0, .int .i64 0, .int .u64 0, .int .u8 8, .int .u8 0, .int .i64 0, .int .i64 0, .int .i64 1, .int .u64 0, .int .i64 0, .int .u64 0, .int .u8 9, .int .u8 0, .int .i64 0, .int .i64 0, .int .i64 0, .int .u64 0, .int .i64 0, .int .u64 0] 44)).alloc (by simp; omega) (.cells #[.int .i64 (1 + 9 * (j : Int)), .int .i64 2, .slice (some ⟨w3.heap.size, 0, none⟩) 1 1, .slice none 0 0, .slice none 0 0, .slice (some ⟨w3.heap.size + 1, 0, none⟩) 6 6] 26)
          have HW4 := Lib.hid hal
          have hx := heap2_of (w := w3) (A := .cells #[.string ⟨#[99]⟩] 9) (B := .cells #[.int .u8 4, .int .u8 0, .int .i64 0, .int .i64 0, .int .i64 0, .int .u64 0, .int .i64 0, .int .u64 0, .int .u8 4, .int .u8 0, .int .i64 1, .int .i64 0, .int .i64 0, .int .u64 0, .int .i64 0, .int .u64 0, .int .u8 1, .int .u8 o, .int .i64 0, .int .i64 0, .int .i64 0, .int .u64 0, .int .i64 1, .int .u64 0, .int .u8 5, .int .u8 0, .int .i64 0, .int .i64 0, .int .i64 0, .int .u64 0, .int .i64 0, .int .u64 0, .int .u8 8, .int .u8 0, .int .i64 0, .int .i64 0, .int .i64 1, .int .u64 0, .int .i64 0, .int .u64 0, .int .u8 9, .int .u8 0, .int .i64 0, .int .i64 0, .int .i64 0, .int .u64 0, .int .i64 0, .int .u64 0] 44) (wr := (((w3.alloc (.cells #[.string ⟨#[99]⟩] 9)).alloc (.cells #[.int .u8 4, .int .u8 0, .int .i64 0, .int .i64 0, .int .i64 0, .int .u64 0, .int .i64 0, .int .u64 0, .int .u8 4, .int .u8 0, .int .i64 1, .int .i64 0, .int .i64 0, .int .u64 0, .int .i64 0, .int .u64 0, .int .u8 1, .int .u8 o, .int .i64 0, .int .i64 0, .int .i64 0, .int .u64 0, .int .i64 1, .int .u64 0, .int .u8 5, .int .u8 0, .int .i64 0, .int .i64 0, .int .i64 0, .int .u64 0, .int .i64 0, .int .u64 0, .int .u8 8, .int .u8 0, .int .i64 0, .int .i64 0, .int .i64 1, .int .u64 0, .int .i64 0, .int .u64 0, .int .u8 9, .int .u8 0, .int .i64 0, .int .i64 0, .int .i64 0, .int .u64 0, .int .i64 0, .int .u64 0] 44)).alloc (.cells #[.int .i64 (1 + 9 * (j : Int)), .int .i64 2, .slice (some ⟨w3.heap.size, 0, none⟩) 1 1, .slice none 0 0, .slice none 0 0, .slice (some ⟨w3.heap.size + 1, 0, none⟩) 6 6] 26))) ((Below.refl _ _).alloc (Nat.le_refl _) _)
          have HC4 := Lib.hid hx.1
          have HK4 := Lib.hid hx.2.1
          have HF4 : Hid ((((w3.alloc (.cells #[.string ⟨#[99]⟩] 9)).alloc (.cells #[.int .u8 4, .int .u8 0, .int .i64 0, .int .i64 0, .int .i64 0, .int .u64 0, .int .i64 0, .int .u64 0, .int .u8 4, .int .u8 0, .int .i64 1, .int .i64 0, .int .i64 0, .int .u64 0, .int .i64 0, .int .u64 0, .int .u8 1, .int .u8 o, .int .i64 0, .int .i64 0, .int .i64 0, .int .u64 0, .int .i64 1, .int .u64 0, .int .u8 5, .int .u8 0, .int .i64 0, .int .i64 0, .int .i64 0, .int .u64 0, .int .i64 0, .int .u64 0, .int .u8 8, .int .u8 0, .int .i64 0, .int .i64 0, .int .i64 1, .int .u64 0, .int .i64 0, .int .u64 0, .int .u8 9, .int .u8 0, .int .i64 0, .int .i64 0, .int .i64 0, .int .u64 0, .int .i64 0, .int .u64 0] 44)).alloc (.cells #[.int .i64 (1 + 9 * (j : Int)), .int .i64 2, .slice (some ⟨w3.heap.size, 0, none⟩) 1 1, .slice none 0 0, .slice none 0 0, .slice (some ⟨w3.heap.size + 1, 0, none⟩) 6 6] 26)).heap[w3.heap.size + 1 + 1]? = some (.cells #[.int .i64 (1 + 9 * (j : Int)), .int .i64 2, .slice (some ⟨w3.heap.size, 0, none⟩) 1 1, .slice none 0 0, .slice none 0 0, .slice (some ⟨w3.heap.size + 1, 0, none⟩) 6 6] 26 (0, 0))) := by
            show _ = _
            have := heap_alloc_new ((w3.alloc (.cells #[.string ⟨#[99]⟩] 9)).alloc (.cells #[.int .u8 4, .int .u8 0, .int .i64 0, .int .i64 0, .int .i64 0, .int .u64 0, .int .i64 0, .int .u64 0, .int .u8 4, .int .u8 0, .int .i64 1, .int .i64 0, .int .i64 0, .int .u64 0, .int .i64 0, .int .u64 0, .int .u8 1, .int .u8 o, .int .i64 0, .int .i64 0, .int .i64 0, .int .u64 0, .int .i64 1, .int .u64 0, .int .u8 5, .int .u8 0, .int .i64 0, .int .i64 0, .int .i64 0, .int .u64 0, .int .i64 0, .int .u64 0, .int .u8 8, .int .u8 0, .int .i64 0, .int .i64 0, .int .i64 1, .int .u64 0, .int .i64 0, .int .u64 0, .int .u8 9, .int .u8 0, .int .i64 0, .int .i64 0, .int .i64 0, .int .u64 0, .int .i64 0, .int .u64 0] 44)) (.cells #[.int .i64 (1 + 9 * (j : Int)), .int .i64 2, .slice (some ⟨w3.heap.size, 0, none⟩) 1 1, .slice none 0 0, .slice none 0 0, .slice (some ⟨w3.heap.size + 1, 0, none⟩) 6 6] 26)
            simpa using this
          clear hal hx
          generalize (((w3.alloc (.cells #[.string ⟨#[99]⟩] 9)).alloc (.cells #[.int .u8 4, .int .u8 0, .int .i64 0, .int .i64 0, .int .i64 0, .int .u64 0, .int .i64 0, .int .u64 0, .int .u8 4, .int .u8 0, .int .i64 1, .int .i64 0, .int .i64 0, .int .u64 0, .int .i64 0, .int .u64 0, .int .u8 1, .int .u8 o, .int .i64 0, .int .i64 0, .int .i64 0, .int .u64 0, .int .i64 1, .int .u64 0, .int .u8 5, .int .u8 0, .int .i64 0, .int .i64 0, .int .i64 0, .int .u64 0, .int .i64 0, .int .u64 0, .int .u8 8, .int .u8 0, .int .i64 0, .int .i64 0, .int .i64 1, .int .u64 0, .int .i64 0, .int .u64 0, .int .u8 9, .int .u8 0, .int .i64 0, .int .i64 0, .int .i64 0, .int .u64 0, .int .i64 0, .int .u64 0] 44)).alloc (.cells #[.int .i64 (1 + 9 * (j : Int)), .int .i64 2, .slice (some ⟨w3.heap.size, 0, none⟩) 1 1, .slice none 0 0, .slice none 0 0, .slice (some ⟨w3.heap.size + 1, 0, none⟩) 6 6] 26)) = W4 at *
          have hs4 : w3.heap.size + 1 + 1 < W4.heap.size := (Array.getElem?_eq_some_iff.1 HF4.out).1
          go_upto_if 38 with fail
          go_cut [38] from 39 to 43 (fun _ wx => ∃ b : Int, InI64 b ∧ wx.heap[w3.heap.size]? = some (.cells #[.string ⟨#[99]⟩] 9 (0, 0)) ∧ wx.heap[w3.heap.size + 1]? = some (.cells #[.int .u8 4, .int .u8 0, .int .i64 0, .int .i64 0, .int .i64 0, .int .u64 0, .int .i64 0, .int .u64 0, .int .u8 4, .int .u8 0, .int .i64 1, .int .i64 0, .int .i64 0, .int .u64 0, .int .i64 0, .int .u64 0, .int .u8 1, .int .u8 o, .int .i64 0, .int .i64 0, .int .i64 0, .int .u64 0, .int .i64 b, .int .u64 0, .int .u8 5, .int .u8 0, .int .i64 0, .int .i64 0, .int .i64 0, .int .u64 0, .int .i64 0, .int .u64 0, .int .u8 8, .int .u8 0, .int .i64 0, .int .i64 0, .int .i64 1, .int .u64 0, .int .i64 0, .int .u64 0, .int .u8 9, .int .u8 0, .int .i64 0, .int .i64 0, .int .i64 0, .int .u64 0, .int .i64 0, .int .u64 0] 44 (0, 0)) ∧ wx.heap[w3.heap.size + 1 + 1]? = some (.cells #[.int .i64 (1 + 9 * (j : Int)), .int .i64 2, .slice (some ⟨w3.heap.size, 0, none⟩) 1 1, .slice none 0 0, .slice none 0 0, .slice (some ⟨w3.heap.size + 1, 0, none⟩) 6 6] 26 (0, 0)) ∧ Below W1.heap.size W1 wx)
          case first =>
            have hb4 : Below W1.heap.size W1 W4 := HB3.out.trans (HW4.out.mono hs3)
            by_cases h3 : o ≤ 3
            · have h3' : (o : Int) ≤ 3 := by omega
              have y5 := row_of HF4.out 5 (.slice (some ⟨w3.heap.size + 1, 0, none⟩) 6 6) rfl
              have c22 := row_of HK4.out 22 (.int .i64 1) rfl
              have c23 := row_of HK4.out 23 (.int .u64 0) rfl
              have f22 := frozen_of_row W4 (w3.heap.size + 1) 22 _ _ HK4.out
              have f23 := frozen_of_row W4 (w3.heap.size + 1) 23 _ _ HK4.out
              have HFIN : Hid (∃ b : Int, InI64 b ∧ ((W4.setCell ⟨w3.heap.size + 1, 22, none⟩ (.int .i64 0)).setCell ⟨w3.heap.size + 1, 23, none⟩ (.int .u64 0)).heap[w3.heap.size]? = some (.cells #[.string ⟨#[99]⟩] 9 (0, 0)) ∧ ((W4.setCell ⟨w3.heap.size + 1, 22, none⟩ (.int .i64 0)).setCell ⟨w3.heap.size + 1, 23, none⟩ (.int .u64 0)).heap[w3.heap.size + 1]? = some (.cells #[.int .u8 4, .int .u8 0, .int .i64 0, .int .i64 0, .int .i64 0, .int .u64 0, .int .i64 0, .int .u64 0, .int .u8 4, .int .u8 0, .int .i64 1, .int .i64 0, .int .i64 0, .int .u64 0, .int .i64 0, .int .u64 0, .int .u8 1, .int .u8 o, .int .i64 0, .int .i64 0, .int .i64 0, .int .u64 0, .int .i64 b, .int .u64 0, .int .u8 5, .int .u8 0, .int .i64 0, .int .i64 0, .int .i64 0, .int .u64 0, .int .i64 0, .int .u64 0, .int .u8 8, .int .u8 0, .int .i64 0, .int .i64 0, .int .i64 1, .int .u64 0, .int .i64 0, .int .u64 0, .int .u8 9, .int .u8 0, .int .i64 0, .int .i64 0, .int .i64 0, .int .u64 0, .int .i64 0, .int .u64 0] 44 (0, 0)) ∧ ((W4.setCell ⟨w3.heap.size + 1, 22, none⟩ (.int .i64 0)).setCell ⟨w3.heap.size + 1, 23, none⟩ (.int .u64 0)).heap[w3.heap.size + 1 + 1]? = some (.cells #[.int .i64 (1 + 9 * (j : Int)), .int .i64 2, .slice (some ⟨w3.heap.size, 0, none⟩) 1 1, .slice none 0 0, .slice none 0 0, .slice (some ⟨w3.heap.size + 1, 0, none⟩) 6 6] 26 (0, 0)) ∧ Below W1.heap.size W1 ((W4.setCell ⟨w3.heap.size + 1, 22, none⟩ (.int .i64 0)).setCell ⟨w3.heap.size + 1, 23, none⟩ (.int .u64 0))) := by
                refine ⟨0, ⟨by decide, by decide⟩, ?_, ?_, ?_, ?_⟩
                · rw [heap_setCell_other _ _ _ _ (by simp), heap_setCell_other _ _ _ _ (by simp)]; exact HC4.out
                · rw [heap_setCell_same _ _ _ _ _ _ (heap_setCell_same _ _ _ _ _ _ HK4.out)]; rfl
                · rw [heap_setCell_other _ _ _ _ (by simp), heap_setCell_other _ _ _ _ (by simp)]; exact HF4.out
                · exact (hb4.setCell (show W1.heap.size ≤ w3.heap.size + 1 by omega) _).setCell (show W1.heap.size ≤ w3.heap.size + 1 by omega) _
              clear hb4
              go_wp2_with fail
              go_meet
              exact HFIN.out
            · have h3' : ¬ (o : Int) ≤ 3 := by omega
              go_wp2_with fail
              go_meet
              exact ⟨1, ⟨by decide, by decide⟩, HC4.out, HK4.out, HF4.out, hb4⟩
          case rest =>
            generalize wc = W5 at *
            obtain ⟨b, hbi, hc5, hk5, hf5, hb5⟩ := hcut
            have HR5 := Lib.hid (exD_rd (o := (o : Int)) (wd := 1 + 9 * (j : Int)) hc5 hk5 ⟨by omega, by omega⟩ ⟨by omega, by omega⟩ hbi)
            have HF5 := Lib.hid hf5
            have HB5 := Lib.hid hb5
            have HN5 := Lib.hid ((hb5.block _ hsw).trans HN.out)
            clear hc5 hk5 hf5 hb5 HC4 HK4 HF4 HW4 HB3
            go_wp2_with fail
            obtain ⟨i1, hj1', hy0, hy1, hy2⟩ := info_parts infoNum
            go_loopw [5, 6] (fun v iv wr => ∃ (k : Nat) (l : List Int), k ≤ 11 ∧ iv = .int .i64 k ∧ l.length = 2 * k ∧ (∀ x ∈ l, InU64 x) ∧ wr.ownsRow W5.heap.size 40 1 v (2 * k) (l.flatMap cellsNum) ∧ Below W5.heap.size W5 wr) (fun _ iv _ => 11 - (intOf iv).toNat)
            case atStart => exact ⟨0, [], by omega, rfl, rfl, by simp, World.ownsRow_nil _ _ _ _, Below.refl _ _⟩
            case round =>
              obtain ⟨k, l, hk, rfl, hll, hlin, hown, hb⟩ := hrel
              obtain ⟨w6, rfl⟩ : ∃ x : World, x = wr := ⟨_, rfl⟩
              obtain ⟨va, vc, rfl, -⟩ := own_read hown
              have hs51 : W1.heap.size ≤ W5.heap.size := by have := HB5.out.size; omega
              have HLL := Lib.hid hll
              have HLI := Lib.hid hlin
              have HOW := Lib.hid hown
              have HB6 := Lib.hid hb
              have hs6 : W5.heap.size ≤ w6.heap.size := by have := hb.size; omega
              have HN6 := Lib.hid ((hb.block _ (by omega)).trans HN5.out)
              clear hll hlin hown hb
              by_cases hkl : k < 11
              · have hk1 : (k : Int) < 11 := by omega
                obtain ⟨x, hx⟩ : ∃ x, numsL[k]? = some x := ⟨_, List.getElem?_eq_getElem (by show k < 11; omega)⟩
                obtain ⟨kk, hkk⟩ : ∃ kk : Nat, k * k = kk := ⟨_, rfl⟩
                have hkk2 : kk ≤ 100 := by rw [← hkk]; exact Nat.mul_le_mul (show k ≤ 10 by omega) (show k ≤ 10 by omega)
                have hkkI : (k : Int) * (k : Int) = (kk : Int) := by rw [← hkk]; simp
                obtain ⟨ix, hix⟩ : ∃ ix, (kk + 3) % 11 = ix := ⟨_, rfl⟩
                have hix2 : ix < 11 := by omega
                have hixI : ((kk : Int) + 3) % 11 = (ix : Int) := by omega
                obtain ⟨y, hy⟩ : ∃ y, numsL[ix]? = some y := ⟨_, List.getElem?_eq_getElem (by show ix < 11; omega)⟩
                have HXY : Hid (InU64 x ∧ InU64 y) := ⟨numsL_in x (List.mem_of_getElem? hx), numsL_in y (List.mem_of_getElem? hy)⟩
                have l1 := keepS_cell (S := [w.heap.size]) (by simp) (row_of HN6.out k _ (nums_at hx))
                have l2 := keepS_cell (S := [w.heap.size]) (by simp) (row_of HN6.out ix _ (nums_at hy))
                clear hx hy hkk hix
                go_upto_region 15 with fail
                refine wp_region_mixS [w.heap.size] (.one [0, 1, 2, 3, 4, 5, 6, 7, 8, 9, 10, 11, 12, 13, 14] 15 (.one [] 16 (tailOf [17]))) (fun j => decide (17 ≤ j)) (by kernel_rfl) (by kernel_rfl) rfl (by kernel_rfl) (fun _ d _ _ _ h => by cases d <;> exact h) ?_
                have HBd : Hid (Below w6.heap.size w6 w6.drew) := (Below.refl _ _).drew
                have M0 : Hid (w6.drew.heap[w.heap.size]? = w6.heap[w.heap.size]?) := rfl
                have HSZ0 : Hid (w6.drew.heap.size = w6.heap.size) := rfl
                generalize w6.drew = w0 at *
                refine mix_one (by simp only [opsOf, List.filterMap_cons, List.filterMap_nil, List.getElem?_toArray, List.getElem?_cons_succ, List.getElem?_cons_zero]; rfl) ⟨_, keepS_of (by intro b hb; simp only [List.mem_singleton] at hb; subst hb; exact M0.out)⟩ ?_
                change wpQuiet _ _ _ _ [_, _, _, _, _, _, _, _, _, _, _, _, _, _, _] _
                (repeat (go_big_quiet_step (fail)))
                refine wpQuiet_nil ?_
                clear l1 l2
                have hal := (Below.refl w0.heap.size w0).alloc (Nat.le_refl _) (.cells #[.int .u64 x, .int .u64 y] 40)
                have B1 := Lib.hid (bcomp HBd.out hal)
                have M1 := Lib.hid (B1.out.block w.heap.size (by omega))
                have hown := own_below HOW.out B1.out
                have hnews := many_new w0 [.int .u64 x, .int .u64 y] 40
                clear hal
                refine mix_step rfl ?_
                go_wp2_with fail
                refine ⟨fun _ => ⟨_, keepS_of (by intro b hb; simp only [List.mem_singleton] at hb; subst hb; exact M1.out)⟩, ?_⟩
                refine mix_now ?_
                refine mix_step rfl ?_
                have h1c : ∀ u ∈ [Value.int .u64 x, .int .u64 y], u.oneCell' = true := by intro u hu; simp at hu; rcases hu with rfl | rfl <;> rfl
                try (simp only [Act.put, List.setIfInBounds_toArray, List.set_cons_succ, List.set_cons_zero, List.getElem_toArray, List.getElem_cons_succ, List.getElem_cons_zero])
                refine wpList_append_own_at _ rfl (.tmp 50) (.tmp 65) 45 rfl W5.heap.size 40 i1 (.int .u64 0) 1 8 Tryd.underlying45 hj1' hy0 hy1 hy2 rfl (by decide) _ _ _ rfl hown ⟨w0.heap.size, 0, none⟩ 2 2 [.int .u64 x, .int .u64 y] rfl rfl hnews h1c (by unfold maxLen; omega) (by omega) (by have := B1.out.size; omega) ?_
                intro v' w7 hown' hgrow _ hblk
                have hM7 : w7.heap[w.heap.size]? = w6.heap[w.heap.size]? := (hgrow.block _ (by have := HSZ0.out; simp; omega) (fun e => by have := own_row_le hown _ e.symm; omega)).trans M1.out
                have HOW7 : Hid (w7.ownsRow W5.heap.size 40 1 v' (2 * (k + 1)) ((l ++ [x, y]).flatMap cellsNum)) := by
                  show World.ownsRow _ _ _ _ _ _ _
                  rw [← kNum_app]
                  exact hown'
                have HB7 := Lib.hid ((HB6.out.trans (B1.out.mono hs6)).grown hgrow (by have := B1.out.size; omega) (own_row_le hown))
                have HLL7 : Hid ((l ++ [x, y]).length = 2 * (k + 1)) := by show _ = _; have := HLL.out; simp; omega
                have HLI7 : Hid (∀ z ∈ l ++ [x, y], InU64 z) := fun z hz => by
                  rcases List.mem_append.1 hz with h | h
                  · exact HLI.out z h
                  · simp at h; rcases h with rfl | rfl; exact HXY.out.1; exact HXY.out.2
                clear hown' hgrow hblk hown hnews h1c
                refine ⟨fun _ => ⟨_, keepS_of (by intro b hb; simp only [List.mem_singleton] at hb; subst hb; exact hM7)⟩, ?_⟩
                clear hM7
                refine mix_tail [17] [_] _ _ rfl rfl ?_
                simp only [Act.put, List.setIfInBounds_toArray, List.set_cons_succ, List.set_cons_zero, List.getElem_toArray, List.getElem_cons_succ, List.getElem_cons_zero]
                go_wp2_with fail
                go_roundw
                case rel => exact ⟨k + 1, _, by omega, by go_num, HLL7.out, HLI7.out, HOW7.out, HB7.out⟩
                case measure => simp [intOf]; omega
              · have hk1 : ¬ (k : Int) < 11 := by omega
                obtain rfl : k = 11 := by omega
                have hll22 : l.length = 22 := HLL.out
                obtain ⟨ib, ic, cur, e2, hcur, hibn, _, _⟩ := own_in HOW.out (by rw [kNum_len]; omega)
                simp only [Value.slice.injEq, true_and] at e2
                obtain ⟨rfl, rfl⟩ := e2
                have hvc : 22 ≤ vc := own_cap HOW.out
                have HRW : Hid (RdRow kNum none w6 (.slice (some ⟨ib, 0, none⟩) 22 vc) l) := (own_rows (K := kNum) (by rw [hll22]; exact HOW.out) (by show l.length * 8 ≤ _; omega) HLI.out).forget
                have HRD := Lib.hid (row_drop1 HRW.out hll22)
                have HF6 := Lib.hid ((HB6.out.block _ (Array.getElem?_eq_some_iff.1 HF5.out).1).trans HF5.out)
                have HR6 := Lib.hid (exD_rd' HR5.out HB6.out)
                have HBw := Lib.hid (bcomp HB1.out (HB5.out.trans (HB6.out.mono hs51)))
                have HL6 := Lib.hid (HL.out.keep HBw.out)
                have HRUN := Lib.hid (fun (w' : World) (g : Nat) (hb : Below w6.heap.size w6 w') (hg : w'.heap[g]? = some (.cells #[.slice (some ⟨ib, 0, none⟩) 22 vc] 45 (0, 0))) => runs_walk (exD o (1 + 9 * (j : Int)) b) _ _ _ _ 300 _ [l] w' (HR6.out.keep hb) ⟨by omega, by omega⟩ (lists1 hg (HRW.out.keep hb)) (HL6.out.keep hb))
                have HSTP := Lib.hid (fun (w' : World) (g g2 : Nat) (hb : Below w6.heap.size w6 w') (hg : w'.heap[g]? = some (.cells #[.slice (some ⟨ib, 1, none⟩) 21 (vc - 1)] 45 (0, 0))) (hg2 : w'.heap[g2]? = some (.cells #[.int .i64 2, .int .i64 4611686018427387904] 3 (0, 0))) => steps_walk (exD o (1 + 9 * (j : Int)) b) _ _ _ _ _ [l.drop 1] _ [2, 4611686018427387904] w' (HR6.out.keep hb) (lists1 hg (HRD.out.keep hb)) (ints2 hg2) (HL6.out.keep hb))
                have l0 := ext_cell (row_of HF6.out 0 (.int .i64 (1 + 9 * (j : Int))) rfl)
                have l1 := ext_cell (row_of HF6.out 1 (.int .i64 2) rfl)
                have l2 := ext_cell (row_of HF6.out 2 (.slice (some ⟨w3.heap.size, 0, none⟩) 1 1) rfl)
                have l3 := ext_cell (row_of HF6.out 3 (.slice none 0 0) rfl)
                have l4 := ext_cell (row_of HF6.out 4 (.slice none 0 0) rfl)
                have l5 := ext_cell (row_of HF6.out 5 (.slice (some ⟨w3.heap.size + 1, 0, none⟩) 6 6) rfl)
                clear hcur hll22 HRW HRD HOW HLI HLL
                go_upto_region 16 with fail
                refine wp_region_mix (.one [0, 1] 2 (.one [] 3 (.two [4, 5, 6, 7, 8] 9 10 (.one [] 10 (.one [] 11 (.fin [12, 13]))) (.one [] 9 (.one [] 11 (.fin [12, 13])))))) (fun j => decide (99 ≤ j)) (by kernel_rfl) (by kernel_rfl) rfl (by kernel_rfl) (fun _ d _ _ _ h => by cases d <;> exact h) ?_
                have HBd : Hid (Below w6.heap.size w6 w6.drew) := (Below.refl _ _).drew
                generalize w6.drew = w0 at *
                refine mix_one (by simp only [opsOf, List.filterMap_cons, List.filterMap_nil, List.getElem?_toArray, List.getElem?_cons_succ, List.getElem?_cons_zero]; rfl) ⟨_, ext_of HBd.out⟩ ?_
                change wpQuiet _ _ _ _ [_, _] _
                (repeat (go_big_quiet_step (fail)))
                refine wpQuiet_nil ?_
                have hal := (Below.refl w0.heap.size w0).alloc (Nat.le_refl _) (.cells #[.slice (some ⟨ib, 0, none⟩) 22 vc] 45)
                have B1 := Lib.hid (bcomp HBd.out hal)
                have G1 := Lib.hid (heap_alloc_new w0 (.cells #[.slice (some ⟨ib, 0, none⟩) 22 vc] 45))
                clear hal
                refine mix_step rfl ?_
                go_wp2_with fail
                refine ⟨by first | exact ⟨_, ext_of B1.out⟩ | exact fun _ => ⟨_, ext_of B1.out⟩, ?_⟩
                have HRU1 := Lib.hid (HRUN.out _ _ B1.out G1.out)
                generalize hw1 : w0.alloc (.cells #[.slice (some ⟨ib, 0, none⟩) 22 vc] 45) = w1' at *
                clear hw1
                refine mix_now ?_
                refine mix_step rfl ?_
                go_wp2_with (go_at_call 4; refine HRU1.out.mono ?_; rintro e w2' ⟨rfl, hb2⟩; have B2 := Lib.hid (bcomp B1.out hb2); clear hb2)
                refine ⟨by first | exact ⟨_, ext_of B2.out⟩ | exact fun _ => ⟨_, ext_of B2.out⟩, ?_⟩
                clear HRU1 HRUN G1
                refine mix_two (by simp only [opsOf, List.filterMap_cons, List.filterMap_nil, List.getElem?_toArray, List.getElem?_cons_succ, List.getElem?_cons_zero]; rfl) ⟨_, ext_of B2.out⟩ ?_
                change wpQuiet _ _ _ _ [_, _, _, _, _] _
                (repeat (go_big_quiet_step (fail)))
                refine wpQuiet_nil ?_
                clear l0 l1 l2 l3 l4 l5
                refine ⟨?_, ?_⟩
                · have hal := (Below.refl w2'.heap.size w2').alloc (Nat.le_refl _) (.cells #[.slice (some ⟨ib, 1, none⟩) 21 (vc - 1)] 45)
                  have B3 := Lib.hid (bcomp B2.out hal)
                  have hal2 := hal.alloc (by simp) (.cells #[.int .i64 2, .int .i64 4611686018427387904] 3)
                  have hx := heap2_of (w := w2') (A := (.cells #[.slice (some ⟨ib, 1, none⟩) 21 (vc - 1)] 45)) (B := (.cells #[.int .i64 2, .int .i64 4611686018427387904] 3)) (Below.refl _ _)
                  have B4 := Lib.hid (bcomp B2.out hal2)
                  have HS4 := Lib.hid (HSTP.out _ w2'.heap.size (w2'.heap.size + 1) B4.out hx.1 hx.2.1)
                  clear hal hal2 hx
                  refine mix_step rfl ?_
                  go_wp2_with fail
                  refine ⟨by first | exact ⟨_, ext_of B3.out⟩ | exact fun _ => ⟨_, ext_of B3.out⟩, ?_⟩
                  refine mix_now ?_
                  refine mix_step rfl ?_
                  go_wp2_with fail
                  refine ⟨by first | exact ⟨_, ext_of B4.out⟩ | exact fun _ => ⟨_, ext_of B4.out⟩, ?_⟩
                  refine mix_now ?_
                  refine mix_step rfl ?_
                  go_wp2_with (go_at_call 3; refine HS4.out.mono ?_; rintro e w5' ⟨rfl, hb5⟩; have B5 := Lib.hid (bcomp B4.out hb5); clear hb5)
                  refine ⟨by first | exact ⟨_, ext_of B5.out⟩ | exact fun _ => ⟨_, ext_of B5.out⟩, ?_⟩
                  refine mix_fin (by simp only [opsOf, List.filterMap_cons, List.filterMap_nil, List.getElem?_toArray, List.getElem?_cons_succ, List.getElem?_cons_zero]; rfl) ⟨_, ext_of B5.out⟩ ?_
                  change wpQuiet _ _ _ _ [_, _] _
                  (repeat (go_big_quiet_step (fail)))
                  refine wpQuiet_nil ?_
                  have HBE := Lib.hid (HB5.out.trans ((HB6.out.mono hs51).trans (B5.out.mono (by have := HB6.out.size; omega))))
                  clear HS4
                  go_wp2_with fail
                  go_roundw
                  case rel => exact ⟨j + 1, by omega, by first | go_num | (congr 1; omega), HBE.out⟩
                  case measure => simp [intOf]; omega
                · have hal := (Below.refl w2'.heap.size w2').alloc (Nat.le_refl _) (.cells #[.int .i64 2, .int .i64 4611686018427387904] 3)
                  have B3 := Lib.hid (bcomp B2.out hal)
                  have hal2 := hal.alloc (by simp) (.cells #[.slice (some ⟨ib, 1, none⟩) 21 (vc - 1)] 45)
                  have hx := heap2_of (w := w2') (A := (.cells #[.int .i64 2, .int .i64 4611686018427387904] 3)) (B := (.cells #[.slice (some ⟨ib, 1, none⟩) 21 (vc - 1)] 45)) (Below.refl _ _)
                  have B4 := Lib.hid (bcomp B2.out hal2)
                  have HS4 := Lib.hid (HSTP.out _ (w2'.heap.size + 1) w2'.heap.size B4.out hx.2.1 hx.1)
                  clear hal hal2 hx
                  refine mix_step rfl ?_
                  go_wp2_with fail
                  refine ⟨by first | exact ⟨_, ext_of B3.out⟩ | exact fun _ => ⟨_, ext_of B3.out⟩, ?_⟩
                  refine mix_now ?_
                  refine mix_step rfl ?_
                  go_wp2_with fail
                  refine ⟨by first | exact ⟨_, ext_of B4.out⟩ | exact fun _ => ⟨_, ext_of B4.out⟩, ?_⟩
                  refine mix_now ?_
                  refine mix_step rfl ?_
                  go_wp2_with (go_at_call 3; refine HS4.out.mono ?_; rintro e w5' ⟨rfl, hb5⟩; have B5 := Lib.hid (bcomp B4.out hb5); clear hb5)
                  refine ⟨by first | exact ⟨_, ext_of B5.out⟩ | exact fun _ => ⟨_, ext_of B5.out⟩, ?_⟩
                  refine mix_fin (by simp only [opsOf, List.filterMap_cons, List.filterMap_nil, List.getElem?_toArray, List.getElem?_cons_succ, List.getElem?_cons_zero]; rfl) ⟨_, ext_of B5.out⟩ ?_
                  change wpQuiet _ _ _ _ [_, _] _
                  (repeat (go_big_quiet_step (fail)))
                  refine wpQuiet_nil ?_
                  have HBE := Lib.hid (HB5.out.trans ((HB6.out.mono hs51).trans (B5.out.mono (by have := HB6.out.size; omega))))
                  clear HS4
                  go_wp2_with fail
                  go_roundw
                  case rel => exact ⟨j + 1, by omega, by first | go_num | (congr 1; omega), HBE.out⟩
                  case measure => simp [intOf]; omega
        · have hj1 : ¬ 1 + 9 * (j : Int) ≤ 64 := by omega
          go_wp2_with fail
          go_roundw
          case rel => exact ⟨o + 1, by omega, by omega, by first | go_num | rfl | (congr 1; omega), hb⟩
          case measure => simp [intOf]; omega
      --]]
    · have hlt' : ¬ (o : Int) ≤ 20 := by omega
      have HB2 := Lib.hid hb
      have hs2 : W1.heap.size ≤ w2.heap.size := by have := hb.size; omega
      clear hb
      go_upto_region 19 with fail
      have hal := ((Below.refl w2.heap.size w2).alloc (Nat.le_refl _) (.cells #[.int .u8 1, .int .u8 4, .int .i64 0, .int .i64 0, .int .i64 0, .int .u64 0, .int .i64 (-1), .int .u64 1, .int .u8 8, .int .u8 0, .int .i64 0, .int .i64 0, .int .i64 0, .int .u64 0, .int .i64 0, .int .u64 0, .int .u8 9, .int .u8 0, .int .i64 0, .int .i64 0, .int .i64 0, .int .u64 0, .int .i64 0, .int .u64 0] 44)).alloc (by simp) (.cells #[.int .i64 16, .int .i64 1, .slice none 0 0, .slice none 0 0, .slice none 0 0, .slice (some ⟨w2.heap.size, 0, none⟩) 3 3] 26)
      have hx := heap2_of (w := w2) (A := .cells #[.int .u8 1, .int .u8 4, .int .i64 0, .int .i64 0, .int .i64 0, .int .u64 0, .int .i64 (-1), .int .u64 1, .int .u8 8, .int .u8 0, .int .i64 0, .int .i64 0, .int .i64 0, .int .u64 0, .int .i64 0, .int .u64 0, .int .u8 9, .int .u8 0, .int .i64 0, .int .i64 0, .int .i64 0, .int .u64 0, .int .i64 0, .int .u64 0] 44) (B := .cells #[.int .i64 16, .int .i64 1, .slice none 0 0, .slice none 0 0, .slice none 0 0, .slice (some ⟨w2.heap.size, 0, none⟩) 3 3] 26) (Below.refl _ _)
      have HBL := Lib.hid (bcomp HB1.out (HB2.out.trans (hal.mono hs2)))
      have HK5 := Lib.hid hx.1
      have HF5 := Lib.hid hx.2.1
      clear hal hx
      generalize (w2.alloc (.cells #[.int .u8 1, .int .u8 4, .int .i64 0, .int .i64 0, .int .i64 0, .int .u64 0, .int .i64 (-1), .int .u64 1, .int .u8 8, .int .u8 0, .int .i64 0, .int .i64 0, .int .i64 0, .int .u64 0, .int .i64 0, .int .u64 0, .int .u8 9, .int .u8 0, .int .i64 0, .int .i64 0, .int .i64 0, .int .u64 0, .int .i64 0, .int .u64 0] 44)).alloc (.cells #[.int .i64 16, .int .i64 1, .slice none 0 0, .slice none 0 0, .slice none 0 0, .slice (some ⟨w2.heap.size, 0, none⟩) 3 3] 26) = WL at *
      have HRL := Lib.hid (loop_rd HK5.out)
      have HLL := Lib.hid (HL.out.keep HBL.out)
      have hsL : w2.heap.size + 1 < WL.heap.size := (Array.getElem?_eq_some_iff.1 HF5.out).1
      obtain ⟨t, ht, he, hst, hsp, hbr, he2⟩ := loop_long
      have hr1 := (machRun loopD _ _ _ _ (.slice none 0 0) [] 65536 WL HRL.out (nilLs WL) HLL.out ⟨by omega, by omega⟩ (by decide)).mono fun _ _ h => runIs h
      rw [ht, show errRun loopD ([] : List (List Int)).length 65536 = 0 from he] at hr1
      have HR1 := Lib.hid hr1
      have hzz : runT loopD [] 65537 = zeroT := by rw [runT, if_neg]; show ¬ errRun loopD 0 65537 = 0; rw [he2]; decide
      have hr2 := fun (w' : World) (hb : Below WL.heap.size WL w') => (machRun loopD _ _ _ _ (.slice none 0 0) [] 65537 w' (HRL.out.keep hb) (nilLs w') (HLL.out.keep hb) ⟨by omega, by omega⟩ (by decide)).mono fun _ _ h => runIs h
      rw [hzz, show errRun loopD ([] : List (List Int)).length 65537 = 3 from he2] at hr2
      have HR2 := Lib.hid hr2
      have s1 : (t.status != 2) = false := by simp [hst]
      have s2 : (t.steps != 65536) = false := by simp [hsp]
      have s3 : ((t.brs.length : Int) != 32768) = false := by rw [hbr]; rfl
      have s4 : ((0 : Int) != 0) = false := rfl
      have s5 : ((3 : Int) != 3) = false := rfl
      clear hr1 hr2 hzz ht he hst hsp hbr he2
      have y0 := row_of HF5.out 0 (.int .i64 16) rfl
      have y1 := row_of HF5.out 1 (.int .i64 1) rfl
      have y2 := row_of HF5.out 2 (.slice none 0 0) rfl
      have y3 := row_of HF5.out 3 (.slice none 0 0) rfl
      have y4 := row_of HF5.out 4 (.slice none 0 0) rfl
      have y5 := row_of HF5.out 5 (.slice (some ⟨w2.heap.size, 0, none⟩) 3 3) rfl
      go_upto_region 20 with (first | (go_at_call 25; refine HR1.out.mono ?_; rintro e z1 ⟨a1, a2, a3, a4, a5, a6, a7, a8, rfl, hrz, hz⟩; have HRZ := Lib.hid hrz; have HZ := Lib.hid hz; have HZN := Lib.hid (heap_alloc_new z1 (.cells #[.int .u8 0, .int .i64 0, .slice none 0 0, .slice none 0 0, .slice none 0 0, .slice none 0 0] 49)); clear hrz hz y0 y1 y2 y3 y4 y5) | (refine wpList_store_row rfl 49 (.tmp 8) (.tmp 92) rfl z1.heap.size #[.int .u8 t.status, .int .i64 t.steps, .slice a1 t.outs.length a2, .slice a3 t.rels.length a4, .slice a5 t.brs.length a6, .slice a7 t.reads.length a8] rfl rfl 49 #[.int .u8 0, .int .i64 0, .slice none 0 0, .slice none 0 0, .slice none 0 0, .slice none 0 0] ?hra (by as_aux_lemma => kernel_rfl) (by as_aux_lemma => kernel_rfl) (by as_aux_lemma => kernel_rfl) ?_; exact HZN.out))
      try simp only [Act.put]
      have hbn : Below z1.heap.size z1 ((z1.alloc (.cells #[.int .u8 0, .int .i64 0, .slice none 0 0, .slice none 0 0, .slice none 0 0, .slice none 0 0] 49)).setRow z1.heap.size #[.int .u8 t.status, .int .i64 t.steps, .slice a1 t.outs.length a2, .slice a3 t.rels.length a4, .slice a5 t.brs.length a6, .slice a7 t.reads.length a8]) := below_row ((Below.refl z1.heap.size z1).alloc (Nat.le_refl _) _) (Nat.le_refl _) _
      have HG1 : Hid (((z1.alloc (.cells #[.int .u8 0, .int .i64 0, .slice none 0 0, .slice none 0 0, .slice none 0 0, .slice none 0 0] 49)).setRow z1.heap.size #[.int .u8 t.status, .int .i64 t.steps, .slice a1 t.outs.length a2, .slice a3 t.rels.length a4, .slice a5 t.brs.length a6, .slice a7 t.reads.length a8]).heap[z1.heap.size]? = some (.cells #[.int .u8 t.status, .int .i64 t.steps, .slice a1 t.outs.length a2, .slice a3 t.rels.length a4, .slice a5 t.brs.length a6, .slice a7 t.reads.length a8] 49 (0, 0))) := setRow_heap _ _ _ _ _ _ HZN.out
      have HB20 := Lib.hid (bcomp HZ.out hbn)
      clear hbn HZN HRZ HZ HR1
      generalize ((z1.alloc (.cells #[.int .u8 0, .int .i64 0, .slice none 0 0, .slice none 0 0, .slice none 0 0, .slice none 0 0] 49)).setRow z1.heap.size #[.int .u8 t.status, .int .i64 t.steps, .slice a1 t.outs.length a2, .slice a3 t.rels.length a4, .slice a5 t.brs.length a6, .slice a7 t.reads.length a8]) = W20 at *
      have HF20 := Lib.hid ((HB20.out.block _ hsL).trans HF5.out)
      have HR2b := Lib.hid (HR2.out W20 HB20.out)
      clear HR2
      have y0 := row_of HF20.out 0 (.int .i64 16) rfl
      have y1 := row_of HF20.out 1 (.int .i64 1) rfl
      have y2 := row_of HF20.out 2 (.slice none 0 0) rfl
      have y3 := row_of HF20.out 3 (.slice none 0 0) rfl
      have y4 := row_of HF20.out 4 (.slice none 0 0) rfl
      have y5 := row_of HF20.out 5 (.slice (some ⟨w2.heap.size, 0, none⟩) 3 3) rfl
      go_upto_region 21 with (first | (go_at_call 25; refine HR2b.out.mono ?_; rintro e z2 ⟨b1, b2, b3, b4, b5, b6, b7, b8, rfl, hrz, hz⟩; have HRZ := Lib.hid hrz; have HZ := Lib.hid hz; have HZN := Lib.hid (heap_alloc_new z2 (.cells #[.int .u8 0, .int .i64 0, .slice none 0 0, .slice none 0 0, .slice none 0 0, .slice none 0 0] 49)); clear hrz hz y0 y1 y2 y3 y4 y5) | (refine wpList_store_row rfl 49 (.tmp 10) (.tmp 97) rfl z2.heap.size #[.int .u8 zeroT.status, .int .i64 zeroT.steps, .slice b1 zeroT.outs.length b2, .slice b3 zeroT.rels.length b4, .slice b5 zeroT.brs.length b6, .slice b7 zeroT.reads.length b8] rfl rfl 49 #[.int .u8 0, .int .i64 0, .slice none 0 0, .slice none 0 0, .slice none 0 0, .slice none 0 0] ?hrb (by as_aux_lemma => kernel_rfl) (by as_aux_lemma => kernel_rfl) (by as_aux_lemma => kernel_rfl) ?_; exact HZN.out))
      try simp only [Act.put]
      have hbn : Below z2.heap.size z2 ((z2.alloc (.cells #[.int .u8 0, .int .i64 0, .slice none 0 0, .slice none 0 0, .slice none 0 0, .slice none 0 0] 49)).setRow z2.heap.size #[.int .u8 zeroT.status, .int .i64 zeroT.steps, .slice b1 zeroT.outs.length b2, .slice b3 zeroT.rels.length b4, .slice b5 zeroT.brs.length b6, .slice b7 zeroT.reads.length b8]) := below_row ((Below.refl z2.heap.size z2).alloc (Nat.le_refl _) _) (Nat.le_refl _) _
      have HB21 := Lib.hid (bcomp HZ.out hbn)
      clear hbn HZN HRZ HZ HR2b
      generalize ((z2.alloc (.cells #[.int .u8 0, .int .i64 0, .slice none 0 0, .slice none 0 0, .slice none 0 0, .slice none 0 0] 49)).setRow z2.heap.size #[.int .u8 zeroT.status, .int .i64 zeroT.steps, .slice b1 zeroT.outs.length b2, .slice b3 zeroT.rels.length b4, .slice b5 zeroT.brs.length b6, .slice b7 zeroT.reads.length b8]) = W21 at *
      have HG21 := Lib.hid ((HB21.out.block _ (Array.getElem?_eq_some_iff.1 HG1.out).1).trans HG1.out)
      have HBA := Lib.hid (bcomp HB20.out HB21.out)
      clear HG1 HB20 HB21 HF20
      have x0 := row_of HG21.out 0 (.int .u8 t.status) rfl
      have x1 := row_of HG21.out 1 (.int .i64 t.steps) rfl
      have x2 := row_of HG21.out 2 (.slice a1 t.outs.length a2) rfl
      have x3 := row_of HG21.out 3 (.slice a3 t.rels.length a4) rfl
      have x4 := row_of HG21.out 4 (.slice a5 t.brs.length a6) rfl
      have x5 := row_of HG21.out 5 (.slice a7 t.reads.length a8) rfl
      go_upto_region 24 with fail
      clear x0 x1 x2 x3 x4 x5 s1 s2 s3 s4 s5 HG21
      have HEQ : Hid (∀ w' : World, Calls Tryd.prog 19 #[.agg #[.int .u8 0, .int .i64 0, .slice none 0 0, .slice none 0 0, .slice none 0 0, .slice none 0 0], .agg #[.int .u8 0, .int .i64 0, .slice none 0 0, .slice none 0 0, .slice none 0 0, .slice none 0 0]] w' fun e w'' => e = .returned (.bool true) ∧ Below w'.heap.size w' w'') := by
        intro w'
        exact equalTrace zeroT zeroT _ _ _ _ _ _ _ _ w' (zeroT_rd none w') (zeroT_rd none w')
      go_upto_region 26 with (first | (go_at_call 23; refine (nilStep _).mono ?_; rintro e z1 ⟨rfl, hz⟩; have B1 := Lib.hid (bcomp (Below.refl _ _) hz); clear hz) | (go_at_call 21; refine (nilReg _).mono ?_; rintro e z2 ⟨rfl, hz⟩; have B2 := Lib.hid (bcomp B1.out hz); clear hz) | (go_at_call 20; refine (nilAt _).mono ?_; rintro e z3 ⟨rfl, hz⟩; have B3 := Lib.hid (bcomp B2.out hz); clear hz) | (go_at_call 18; refine (nilTrace _).mono ?_; rintro e z4 ⟨rfl, hz⟩; have B4 := Lib.hid (bcomp B3.out hz); clear hz) | (go_at_call 19; refine (HEQ.out _).mono ?_; rintro e z5 ⟨rfl, hz⟩; have B5 := Lib.hid (bcomp B4.out hz); clear hz))
      clear HEQ B1 B2 B3 B4
      have HBZ := Lib.hid (HBA.out.trans (B5.out.mono HBA.out.size))
      clear B5 HBA
      have HF26 := Lib.hid ((HBZ.out.block _ hsL).trans HF5.out)
      have HR26 := Lib.hid (exD_rd' HRL.out HBZ.out)
      have HL26 := Lib.hid (HLL.out.keep HBZ.out)
      have HBY := Lib.hid (bcomp HBL.out HBZ.out)
      clear HBZ HBL HRL HLL HF5 HB1 HB2 HN HL HK5
      generalize z5 = W26 at *
      have hs26 : w2.heap.size + 1 < W26.heap.size := (Array.getElem?_eq_some_iff.1 HF26.out).1

      have HRU1 : Hid (∀ z : World, Below W26.heap.size W26 z → Calls Tryd.prog 4 #[.agg #[.int .i64 16, .int .i64 1, .slice none 0 0, .slice none 0 0, .slice none 0 0, .slice (some ⟨w2.heap.size, 0, none⟩) 3 3], .int .i64 0, .slice none 0 0] z fun e w' => e = .returned (.bool true) ∧ Below W26.heap.size W26 w') := by
        intro z hz
        refine (runs_walk loopD _ _ _ _ 0 _ [] z (exD_rd' HR26.out hz) ⟨by decide, by decide⟩ (nilLs z) (HL26.out.keep hz)).mono ?_
        rintro e w' ⟨rfl, hb⟩
        exact ⟨rfl, bcomp hz hb⟩
      have HRU2 : Hid (∀ z : World, Below W26.heap.size W26 z → Calls Tryd.prog 4 #[.agg #[.int .i64 16, .int .i64 1, .slice none 0 0, .slice none 0 0, .slice none 0 0, .slice (some ⟨w2.heap.size, 0, none⟩) 3 3], .int .i64 5, .slice (some ⟨z.heap.size + 1, 0, none⟩) 1 1] ((z.alloc (.cells #[.int .u64 1] 40)).alloc (.cells #[.slice (some ⟨z.heap.size, 0, none⟩) 1 1] 45)) fun e w' => e = .returned (.bool true) ∧ Below W26.heap.size W26 w') := by
        intro z hz
        have hal := ((Below.refl z.heap.size z).alloc (Nat.le_refl _) (.cells #[.int .u64 1] 40)).alloc (by simp) (.cells #[.slice (some ⟨z.heap.size, 0, none⟩) 1 1] 45)
        have hx := heap2_of (w := z) (A := .cells #[.int .u64 1] 40) (B := .cells #[.slice (some ⟨z.heap.size, 0, none⟩) 1 1] 45) (Below.refl _ _)
        have hb := bcomp hz hal
        refine (runs_walk loopD _ _ _ _ 5 _ [[1]] _ (exD_rd' HR26.out hb) ⟨by decide, by decide⟩ (lists1 hx.2.1 (row_new kNum (l := [1]) hx.1 rfl (by decide) (fun s hs => by simp only [List.mem_singleton] at hs; subst hs; exact ⟨by decide, by decide⟩)).forget) (HL26.out.keep hb)).mono ?_
        rintro e w' ⟨rfl, hb'⟩
        exact ⟨rfl, bcomp hb hb'⟩
      have HRU3 : Hid (∀ z : World, Below W26.heap.size W26 z → Calls Tryd.prog 4 #[.agg #[.int .i64 0, .int .i64 0, .slice none 0 0, .slice none 0 0, .slice none 0 0, .slice none 0 0], .int .i64 5, .slice none 0 0] z fun e w' => e = .returned (.bool true) ∧ Below W26.heap.size W26 w') := by
        intro z hz
        refine (runs_walk ⟨0, 0, [], [], [], []⟩ _ _ _ _ 5 _ [] z ⟨nilRow _ _ _, nilRow _ _ _, nilRow _ _ _, nilRow _ _ _, ⟨by decide, by decide⟩, ⟨by decide, by decide⟩⟩ ⟨by decide, by decide⟩ (nilLs z) (HL26.out.keep hz)).mono ?_
        rintro e w' ⟨rfl, hb⟩
        exact ⟨rfl, bcomp hz hb⟩
      have HAW : Hid (∀ z : World, Below W26.heap.size W26 z → Calls Tryd.prog 17 #[] z fun e w' => e = .returned (.bool true) ∧ Below W26.heap.size W26 w') := by
        intro z hz
        refine (awake_any z (HL26.out.keep hz)).mono ?_
        rintro e w' ⟨rfl, hb⟩
        exact ⟨rfl, bcomp hz hb⟩
      have y0 := row_of HF26.out 0 (.int .i64 16) rfl
      have y1 := row_of HF26.out 1 (.int .i64 1) rfl
      have y2 := row_of HF26.out 2 (.slice none 0 0) rfl
      have y3 := row_of HF26.out 3 (.slice none 0 0) rfl
      have y4 := row_of HF26.out 4 (.slice none 0 0) rfl
      have y5 := row_of HF26.out 5 (.slice (some ⟨w2.heap.size, 0, none⟩) 3 3) rfl
      go_wp2_with (first | (go_at_call_of 4 (Value.agg #[.int .i64 0, .int .i64 0, .slice none 0 0, .slice none 0 0, .slice none 0 0, .slice none 0 0]); refine (HRU3.out _ B2.out).mono ?_; rintro e z3 ⟨rfl, hz⟩; have B3 := Lib.hid hz; clear hz) | (go_at_call_of 4 (Value.int .i64 0); refine (HRU1.out _ (Below.refl _ _)).mono ?_; rintro e z1 ⟨rfl, hz⟩; have B1 := Lib.hid hz; clear hz y0 y1 y2 y3 y4 y5; have HF1 := Lib.hid ((B1.out.block _ hs26).trans HF26.out); have y0 := row_of HF1.out 0 (.int .i64 16) rfl; have y1 := row_of HF1.out 1 (.int .i64 1) rfl; have y2 := row_of HF1.out 2 (.slice none 0 0) rfl; have y3 := row_of HF1.out 3 (.slice none 0 0) rfl; have y4 := row_of HF1.out 4 (.slice none 0 0) rfl; have y5 := row_of HF1.out 5 (.slice (some ⟨w2.heap.size, 0, none⟩) 3 3) rfl) | (go_at_call 4; refine (HRU2.out z1 B1.out).mono ?_; rintro e z2 ⟨rfl, hz⟩; have B2 := Lib.hid hz; clear hz y0 y1 y2 y3 y4 y5) | (go_at_call 17; refine (HAW.out _ B3.out).mono ?_; rintro e z4 ⟨rfl, hz⟩; have B4 := Lib.hid (bcomp HBY.out hz); clear hz))
      go_ret
      exact ⟨rfl, B4.out⟩
end Go.Proofs.YthmdioldnnhidaaDoor
