/- Contracts of law34's C and Shown. No condition. -/
import Derived.Test.YtkjkpddajjmloaaDoorAgY
set_option linter.unnecessarySimpa false
set_option linter.unusedVariables false
set_option linter.unusedSimpArgs false
namespace Go.Proofs.YtkjkpddajjmloaaDoor
open Go.ChangeShapes Go.WideShapes Go.ChangeAt Go.RowKit
set_option maxRecDepth 100000 in
set_option maxHeartbeats 1600000 in
theorem c_any (w : World) : Calls Tryd.prog 29 #[] w fun e w' => ∃ v, e = .returned v ∧ RdLists none w' v [[], [2]] ∧ Below w.heap.size w w' := by
  have hal := ((Below.refl w.heap.size w).alloc (Nat.le_refl _) (.cells #[.int .u64 2] 55)).alloc (by simp) (.cells #[.slice none 0 0, .slice (some ⟨w.heap.size, 0, none⟩) 1 1] 54)
  have hx := heap2_of (w := w) (A := .cells #[.int .u64 2] 55 (0, 0)) (B := .cells #[.slice none 0 0, .slice (some ⟨w.heap.size, 0, none⟩) 1 1] 54 (0, 0)) (Below.refl _ _)
  have HV := Lib.hid (nilOne ⟨by decide, by decide⟩ hx.1 hx.2.1)
  have HB := Lib.hid hal
  clear hal hx
  go_enter Tryd.func29, Tryd.ntmps29
  go_wp2_with fail
  go_ret
  exact ⟨_, rfl, HV.out, HB.out⟩
def shownD : FlatD := ⟨2, 2, [pubS, secS], [], [], [⟨4, 0, 0, 1, ⟨0, 0⟩, ⟨0, 0⟩⟩, ⟨1, 15, 1, 0, ⟨0, 0⟩, ⟨-1, 3⟩⟩, ⟨8, 0, 0, 5, ⟨1, 0⟩, ⟨0, 0⟩⟩, ⟨5, 0, 0, 0, ⟨0, 0⟩, ⟨0, 0⟩⟩, ⟨9, 0, 0, 0, ⟨0, 0⟩, ⟨0, 0⟩⟩, ⟨5, 0, 0, 0, ⟨-1, 1⟩, ⟨0, 0⟩⟩, ⟨9, 0, 0, 0, ⟨0, 0⟩, ⟨0, 0⟩⟩]⟩
theorem shown_rd {w : World} {c k : Nat} (hc : w.heap[c]? = some (.cells #[.string pubS, .string secS] 9 (0, 0))) (hk : w.heap[k]? = some (.cells #[.int .u8 4, .int .u8 0, .int .i64 0, .int .i64 1, .int .i64 0, .int .u64 0, .int .i64 0, .int .u64 0, .int .u8 1, .int .u8 15, .int .i64 1, .int .i64 0, .int .i64 0, .int .u64 0, .int .i64 (-1), .int .u64 3, .int .u8 8, .int .u8 0, .int .i64 0, .int .i64 5, .int .i64 1, .int .u64 0, .int .i64 0, .int .u64 0, .int .u8 5, .int .u8 0, .int .i64 0, .int .i64 0, .int .i64 0, .int .u64 0, .int .i64 0, .int .u64 0, .int .u8 9, .int .u8 0, .int .i64 0, .int .i64 0, .int .i64 0, .int .u64 0, .int .i64 0, .int .u64 0, .int .u8 5, .int .u8 0, .int .i64 0, .int .i64 0, .int .i64 (-1), .int .u64 1, .int .i64 0, .int .u64 0, .int .u8 9, .int .u8 0, .int .i64 0, .int .i64 0, .int .i64 0, .int .u64 0, .int .i64 0, .int .u64 0] 103 (0, 0))) : FlatC w (shownD) #[.int .i64 2, .int .i64 2, .slice (some ⟨c, 0, none⟩) 2 2, .slice none 0 0, .slice none 0 0, .slice (some ⟨k, 0, none⟩) 7 7] := by
  refine ⟨_, _, _, _, rfl, row_rdw kStr (l := [pubS, secS]) hc rfl (by show 2 * 16 ≤ _; omega) ?_, nilRow _ _ _, nilRow _ _ _, row_rdw kCode (l := (shownD).code) hk rfl (by show 7 * 56 ≤ _; omega) ?_, (show InI64 2 from ⟨by decide, by decide⟩), (show InI64 2 from ⟨by decide, by decide⟩)⟩
  · intro s hs; simp only [List.mem_cons, List.not_mem_nil, or_false] at hs; rcases hs with rfl | rfl <;> decide
  · intro x hx
    simp only [shownD, List.mem_cons, List.not_mem_nil, or_false] at hx
    rcases hx with rfl | rfl | rfl | rfl | rfl | rfl | rfl
    all_goals exact ⟨⟨by decide, by decide⟩, ⟨by decide, by decide⟩, ⟨by decide, by decide⟩, ⟨by decide, by decide⟩, ⟨by decide, by decide⟩, ⟨by decide, by decide⟩, ⟨by decide, by decide⟩, ⟨by decide, by decide⟩⟩
set_option maxRecDepth 100000 in
set_option maxHeartbeats 1600000 in
theorem e1_own (s : Int) (hs : InU64 s) (w : World) : Calls Tryd.prog 24 #[.int .u64 s] w fun e w' => ∃ gc gk : Nat, e = .returned (.agg #[.int .i64 2, .int .i64 2, .slice (some ⟨gc, 0, none⟩) 2 2, .slice none 0 0, .slice none 0 0, .slice (some ⟨gk, 0, none⟩) 7 7]) ∧ w'.heap[gc]? = some (.cells #[.string pubS, .string secS] 9 (0, 0)) ∧ w'.heap[gk]? = some (.cells #[.int .u8 4, .int .u8 0, .int .i64 0, .int .i64 1, .int .i64 0, .int .u64 0, .int .i64 0, .int .u64 0, .int .u8 1, .int .u8 15, .int .i64 1, .int .i64 0, .int .i64 0, .int .u64 0, .int .i64 (-1), .int .u64 3, .int .u8 8, .int .u8 0, .int .i64 0, .int .i64 5, .int .i64 1, .int .u64 0, .int .i64 0, .int .u64 0, .int .u8 5, .int .u8 0, .int .i64 0, .int .i64 0, .int .i64 (-1), .int .u64 1, .int .i64 0, .int .u64 0, .int .u8 9, .int .u8 0, .int .i64 0, .int .i64 0, .int .i64 0, .int .u64 0, .int .i64 0, .int .u64 0, .int .u8 5, .int .u8 0, .int .i64 0, .int .i64 0, .int .i64 (-1), .int .u64 s, .int .i64 0, .int .u64 0, .int .u8 9, .int .u8 0, .int .i64 0, .int .i64 0, .int .i64 0, .int .u64 0, .int .i64 0, .int .u64 0] 103 (0, 0)) ∧ w.heap.size ≤ gk ∧ Below w.heap.size w w' := by
  have HB0 := Lib.hid ((Below.refl w.heap.size w).alloc (Nat.le_refl _) (.cells #[.int .i64 0, .int .i64 0, .slice none 0 0, .slice none 0 0, .slice none 0 0, .slice none 0 0] 43))
  have HG0 := Lib.hid (heap_alloc_new w (.cells #[.int .i64 0, .int .i64 0, .slice none 0 0, .slice none 0 0, .slice none 0 0, .slice none 0 0] 43))
  have HS := Lib.hid hs
  clear hs
  go_enter Tryd.func24, Tryd.ntmps24
  go_upto_region 1 with fail
  generalize w.alloc (.cells #[.int .i64 0, .int .i64 0, .slice none 0 0, .slice none 0 0, .slice none 0 0, .slice none 0 0] 43) = W0 at *
  have hs0 : w.heap.size < W0.heap.size := (Array.getElem?_eq_some_iff.1 HG0.out).1
  have HBS := Lib.hid ((Below.refl W0.heap.size W0).alloc (Nat.le_refl _) (.cells #[.string pubS, .string secS] 9))
  have HGS := Lib.hid (heap_alloc_new W0 (.cells #[.string pubS, .string secS] 9))
  go_wp2_with (first | (go_at_call 55; first | (refine (imm_any 3 _).mono ?_; rintro e z1 ⟨rfl, hz1⟩) | (refine (imm_any 1 _).mono ?_; rintro e z2 ⟨rfl, hz2⟩) | (refine (imm_any s _).mono ?_; rintro e z3 ⟨rfl, hz3⟩; have hsn := (Array.getElem?_eq_some_iff.1 HGS.out).1; have B1 := Lib.hid (bcomp hz1 (hz2.trans (hz3.mono hz2.size))); have B3 := Lib.hid (bcomp HBS.out (bcomp B1.out ((Below.refl z3.heap.size z3).alloc (Nat.le_refl _) (.cells #[.int .u8 4, .int .u8 0, .int .i64 0, .int .i64 1, .int .i64 0, .int .u64 0, .int .i64 0, .int .u64 0, .int .u8 1, .int .u8 15, .int .i64 1, .int .i64 0, .int .i64 0, .int .u64 0, .int .i64 (-1), .int .u64 3, .int .u8 8, .int .u8 0, .int .i64 0, .int .i64 5, .int .i64 1, .int .u64 0, .int .i64 0, .int .u64 0, .int .u8 5, .int .u8 0, .int .i64 0, .int .i64 0, .int .i64 (-1), .int .u64 1, .int .i64 0, .int .u64 0, .int .u8 9, .int .u8 0, .int .i64 0, .int .i64 0, .int .i64 0, .int .u64 0, .int .i64 0, .int .u64 0, .int .u8 5, .int .u8 0, .int .i64 0, .int .i64 0, .int .i64 (-1), .int .u64 s, .int .i64 0, .int .u64 0, .int .u8 9, .int .u8 0, .int .i64 0, .int .i64 0, .int .i64 0, .int .u64 0, .int .i64 0, .int .u64 0] 103)))); have HZK := Lib.hid (heap_alloc_new z3 (.cells #[.int .u8 4, .int .u8 0, .int .i64 0, .int .i64 1, .int .i64 0, .int .u64 0, .int .i64 0, .int .u64 0, .int .u8 1, .int .u8 15, .int .i64 1, .int .i64 0, .int .i64 0, .int .u64 0, .int .i64 (-1), .int .u64 3, .int .u8 8, .int .u8 0, .int .i64 0, .int .i64 5, .int .i64 1, .int .u64 0, .int .i64 0, .int .u64 0, .int .u8 5, .int .u8 0, .int .i64 0, .int .i64 0, .int .i64 (-1), .int .u64 1, .int .i64 0, .int .u64 0, .int .u8 9, .int .u8 0, .int .i64 0, .int .i64 0, .int .i64 0, .int .u64 0, .int .i64 0, .int .u64 0, .int .u8 5, .int .u8 0, .int .i64 0, .int .i64 0, .int .i64 (-1), .int .u64 s, .int .i64 0, .int .u64 0, .int .u8 9, .int .u8 0, .int .i64 0, .int .i64 0, .int .i64 0, .int .u64 0, .int .i64 0, .int .u64 0] 103)); have HZF := Lib.hid ((B3.out.block _ hs0).trans HG0.out); clear hz1 hz2 hz3)) | (refine wpList_store_row rfl 43 (.tmp 2) (.tmp 22) rfl w.heap.size #[.int .i64 2, .int .i64 2, .slice (some ⟨W0.heap.size, 0, none⟩) 2 2, .slice none 0 0, .slice none 0 0, .slice (some ⟨z3.heap.size, 0, none⟩) 7 7] rfl rfl 43 #[.int .i64 0, .int .i64 0, .slice none 0 0, .slice none 0 0, .slice none 0 0, .slice none 0 0] ?h77 (by as_aux_lemma => kernel_rfl) (by as_aux_lemma => kernel_rfl) (by as_aux_lemma => kernel_rfl) ?_; exact HZF.out))
  try simp only [Act.put]
  have hk2 : ((z3.alloc (.cells #[.int .u8 4, .int .u8 0, .int .i64 0, .int .i64 1, .int .i64 0, .int .u64 0, .int .i64 0, .int .u64 0, .int .u8 1, .int .u8 15, .int .i64 1, .int .i64 0, .int .i64 0, .int .u64 0, .int .i64 (-1), .int .u64 3, .int .u8 8, .int .u8 0, .int .i64 0, .int .i64 5, .int .i64 1, .int .u64 0, .int .i64 0, .int .u64 0, .int .u8 5, .int .u8 0, .int .i64 0, .int .i64 0, .int .i64 (-1), .int .u64 1, .int .i64 0, .int .u64 0, .int .u8 9, .int .u8 0, .int .i64 0, .int .i64 0, .int .i64 0, .int .u64 0, .int .i64 0, .int .u64 0, .int .u8 5, .int .u8 0, .int .i64 0, .int .i64 0, .int .i64 (-1), .int .u64 s, .int .i64 0, .int .u64 0, .int .u8 9, .int .u8 0, .int .i64 0, .int .i64 0, .int .i64 0, .int .u64 0, .int .i64 0, .int .u64 0] 103)).setRow w.heap.size #[.int .i64 2, .int .i64 2, .slice (some ⟨W0.heap.size, 0, none⟩) 2 2, .slice none 0 0, .slice none 0 0, .slice (some ⟨z3.heap.size, 0, none⟩) 7 7]).heap[z3.heap.size]? = some (.cells #[.int .u8 4, .int .u8 0, .int .i64 0, .int .i64 1, .int .i64 0, .int .u64 0, .int .i64 0, .int .u64 0, .int .u8 1, .int .u8 15, .int .i64 1, .int .i64 0, .int .i64 0, .int .u64 0, .int .i64 (-1), .int .u64 3, .int .u8 8, .int .u8 0, .int .i64 0, .int .i64 5, .int .i64 1, .int .u64 0, .int .i64 0, .int .u64 0, .int .u8 5, .int .u8 0, .int .i64 0, .int .i64 0, .int .i64 (-1), .int .u64 1, .int .i64 0, .int .u64 0, .int .u8 9, .int .u8 0, .int .i64 0, .int .i64 0, .int .i64 0, .int .u64 0, .int .i64 0, .int .u64 0, .int .u8 5, .int .u8 0, .int .i64 0, .int .i64 0, .int .i64 (-1), .int .u64 s, .int .i64 0, .int .u64 0, .int .u8 9, .int .u8 0, .int .i64 0, .int .i64 0, .int .i64 0, .int .u64 0, .int .i64 0, .int .u64 0] 103 (0, 0)) := by
    have hq : W0.heap.size + 1 ≤ z3.heap.size := by simpa using B1.out.size
    exact (setRow_other _ _ _ _ (by omega)).trans HZK.out
  have hc2 : ((z3.alloc (.cells #[.int .u8 4, .int .u8 0, .int .i64 0, .int .i64 1, .int .i64 0, .int .u64 0, .int .i64 0, .int .u64 0, .int .u8 1, .int .u8 15, .int .i64 1, .int .i64 0, .int .i64 0, .int .u64 0, .int .i64 (-1), .int .u64 3, .int .u8 8, .int .u8 0, .int .i64 0, .int .i64 5, .int .i64 1, .int .u64 0, .int .i64 0, .int .u64 0, .int .u8 5, .int .u8 0, .int .i64 0, .int .i64 0, .int .i64 (-1), .int .u64 1, .int .i64 0, .int .u64 0, .int .u8 9, .int .u8 0, .int .i64 0, .int .i64 0, .int .i64 0, .int .u64 0, .int .i64 0, .int .u64 0, .int .u8 5, .int .u8 0, .int .i64 0, .int .i64 0, .int .i64 (-1), .int .u64 s, .int .i64 0, .int .u64 0, .int .u8 9, .int .u8 0, .int .i64 0, .int .i64 0, .int .i64 0, .int .u64 0, .int .i64 0, .int .u64 0] 103)).setRow w.heap.size #[.int .i64 2, .int .i64 2, .slice (some ⟨W0.heap.size, 0, none⟩) 2 2, .slice none 0 0, .slice none 0 0, .slice (some ⟨z3.heap.size, 0, none⟩) 7 7]).heap[W0.heap.size]? = some (.cells #[.string pubS, .string secS] 9 (0, 0)) := by
    exact (setRow_other _ _ _ _ (by omega)).trans (((bcomp B1.out ((Below.refl z3.heap.size z3).alloc (Nat.le_refl _) (.cells #[.int .u8 4, .int .u8 0, .int .i64 0, .int .i64 1, .int .i64 0, .int .u64 0, .int .i64 0, .int .u64 0, .int .u8 1, .int .u8 15, .int .i64 1, .int .i64 0, .int .i64 0, .int .u64 0, .int .i64 (-1), .int .u64 3, .int .u8 8, .int .u8 0, .int .i64 0, .int .i64 5, .int .i64 1, .int .u64 0, .int .i64 0, .int .u64 0, .int .u8 5, .int .u8 0, .int .i64 0, .int .i64 0, .int .i64 (-1), .int .u64 1, .int .i64 0, .int .u64 0, .int .u8 9, .int .u8 0, .int .i64 0, .int .i64 0, .int .i64 0, .int .u64 0, .int .i64 0, .int .u64 0, .int .u8 5, .int .u8 0, .int .i64 0, .int .i64 0, .int .i64 (-1), .int .u64 s, .int .i64 0, .int .u64 0, .int .u8 9, .int .u8 0, .int .i64 0, .int .i64 0, .int .i64 0, .int .u64 0, .int .i64 0, .int .u64 0] 103))).block _ hsn).trans HGS.out)
  exact bodyPost_ret (v := .agg #[.int .i64 2, .int .i64 2, .slice (some ⟨W0.heap.size, 0, none⟩) 2 2, .slice none 0 0, .slice none 0 0, .slice (some ⟨z3.heap.size, 0, none⟩) 7 7]) (results_cell_row (P := Tryd.prog) (fn := Tryd.f24) rfl _ _ w.heap.size 43 _ (0,0) _ rfl (setRow_heap _ _ _ _ _ _ HZF.out) Tryd.underlying43 rfl (by kernel_rfl)) rfl ⟨_, _, rfl, hc2, hk2, by have := B1.out.size; simp at this; omega, below_row (bcomp HB0.out B3.out) (Nat.le_refl _) _⟩
set_option maxRecDepth 100000 in
set_option maxHeartbeats 1600000 in
theorem shown_any (w : World) : Calls Tryd.prog 27 #[] w fun e w' => ∃ c, e = .returned (.agg c) ∧ FlatC w' shownD c ∧ Below w.heap.size w w' := by
  have HB0 := Lib.hid ((Below.refl w.heap.size w).alloc (Nat.le_refl _) (.cells #[.int .i64 0, .int .i64 0, .slice none 0 0, .slice none 0 0, .slice none 0 0, .slice none 0 0] 43))
  have HG0 := Lib.hid (heap_alloc_new w (.cells #[.int .i64 0, .int .i64 0, .slice none 0 0, .slice none 0 0, .slice none 0 0, .slice none 0 0] 43))
  go_enter Tryd.func27, Tryd.ntmps27
  go_upto_region 1 with fail
  generalize w.alloc (.cells #[.int .i64 0, .int .i64 0, .slice none 0 0, .slice none 0 0, .slice none 0 0, .slice none 0 0] 43) = W0 at *
  have hs0 : w.heap.size < W0.heap.size := (Array.getElem?_eq_some_iff.1 HG0.out).1
  go_upto_region 2 with (go_at_call 24; refine (e1_own 1 ⟨by decide, by decide⟩ _).mono ?_; rintro e z1 ⟨gc, gk, rfl, hc, hk, hl, hz⟩; have HC := Lib.hid hc; have HK := Lib.hid hk; have HLK := Lib.hid hl; have BZ := Lib.hid hz; clear hc hk hl hz)
  try simp only [Act.put]
  have hal := (Below.refl z1.heap.size z1).alloc (Nat.le_refl _) (.cells #[.int .i64 2, .int .i64 2, .slice (some ⟨gc, 0, none⟩) 2 2, .slice none 0 0, .slice none 0 0, .slice (some ⟨gk, 0, none⟩) 7 7] 43)
  have HGF := Lib.hid (heap_alloc_new z1 (.cells #[.int .i64 2, .int .i64 2, .slice (some ⟨gc, 0, none⟩) 2 2, .slice none 0 0, .slice none 0 0, .slice (some ⟨gk, 0, none⟩) 7 7] 43))
  have HC1 := Lib.hid ((hal.block _ (Array.getElem?_eq_some_iff.1 HC.out).1).trans HC.out)
  have HK1 := Lib.hid ((hal.block _ (Array.getElem?_eq_some_iff.1 HK.out).1).trans HK.out)
  have hkz : gk < z1.heap.size := (Array.getElem?_eq_some_iff.1 HK.out).1
  have hcz : gc < z1.heap.size := (Array.getElem?_eq_some_iff.1 HC.out).1
  have HB1 := Lib.hid (bcomp HB0.out (bcomp BZ.out hal))
  have HZ1 := Lib.hid (((bcomp BZ.out hal).block _ hs0).trans HG0.out)
  have hgk : W0.heap.size ≤ gk := HLK.out
  have hne : gc ≠ gk := fun e => row_ne (e ▸ HC.out) HK.out (by decide) rfl
  clear hal HC HK BZ
  generalize z1.alloc (.cells #[.int .i64 2, .int .i64 2, .slice (some ⟨gc, 0, none⟩) 2 2, .slice none 0 0, .slice none 0 0, .slice (some ⟨gk, 0, none⟩) 7 7] 43) = W1 at *
  have y5 := row_of HGF.out 5 (.slice (some ⟨gk, 0, none⟩) 7 7) rfl
  have x28 := row_of HK1.out 28 (.int .i64 (-1)) rfl
  have x29 := row_of HK1.out 29 (.int .u64 1) rfl
  have f28 := frozen_of_row W1 gk 28 _ _ HK1.out
  have f29 := frozen_of_row W1 gk 29 _ _ HK1.out
  have HK2 : Hid (((W1.setCell ⟨gk, 28, none⟩ (.int .i64 0)).setCell ⟨gk, 29, none⟩ (.int .u64 0)).heap[gk]? = some (.cells #[.int .u8 4, .int .u8 0, .int .i64 0, .int .i64 1, .int .i64 0, .int .u64 0, .int .i64 0, .int .u64 0, .int .u8 1, .int .u8 15, .int .i64 1, .int .i64 0, .int .i64 0, .int .u64 0, .int .i64 (-1), .int .u64 3, .int .u8 8, .int .u8 0, .int .i64 0, .int .i64 5, .int .i64 1, .int .u64 0, .int .i64 0, .int .u64 0, .int .u8 5, .int .u8 0, .int .i64 0, .int .i64 0, .int .i64 0, .int .u64 0, .int .i64 0, .int .u64 0, .int .u8 9, .int .u8 0, .int .i64 0, .int .i64 0, .int .i64 0, .int .u64 0, .int .i64 0, .int .u64 0, .int .u8 5, .int .u8 0, .int .i64 0, .int .i64 0, .int .i64 (-1), .int .u64 1, .int .i64 0, .int .u64 0, .int .u8 9, .int .u8 0, .int .i64 0, .int .i64 0, .int .i64 0, .int .u64 0, .int .i64 0, .int .u64 0] 103 (0, 0))) := by
    show _ = _
    rw [heap_setCell_same _ _ _ _ _ _ (heap_setCell_same _ _ _ _ _ _ HK1.out)]
    rfl
  have hoth : ∀ b, b ≠ gk → ((W1.setCell ⟨gk, 28, none⟩ (.int .i64 0)).setCell ⟨gk, 29, none⟩ (.int .u64 0)).heap[b]? = W1.heap[b]? := fun b hb => by
    rw [heap_setCell_other _ _ _ _ (by simpa using hb), heap_setCell_other _ _ _ _ (by simpa using hb)]
  have HC2 := Lib.hid ((hoth gc hne).trans HC1.out)
  have HGF2 := Lib.hid ((hoth z1.heap.size (by omega)).trans HGF.out)
  have HZ2 := Lib.hid ((hoth w.heap.size (by omega)).trans HZ1.out)
  have HB2 : Hid (Below w.heap.size w ((W1.setCell ⟨gk, 28, none⟩ (.int .i64 0)).setCell ⟨gk, 29, none⟩ (.int .u64 0))) := (HB1.out.setCell (by show w.heap.size ≤ gk; omega) _).setCell (by show w.heap.size ≤ gk; omega) _
  clear hoth HGF HC1 HZ1
  go_upto_region 3 with fail
  clear y5 x28 x29 f28 f29
  generalize ((W1.setCell ⟨gk, 28, none⟩ (.int .i64 0)).setCell ⟨gk, 29, none⟩ (.int .u64 0)) = W2 at *
  have y0 := row_of HGF2.out 0 (.int .i64 2) rfl
  have y1 := row_of HGF2.out 1 (.int .i64 2) rfl
  have y2 := row_of HGF2.out 2 (.slice (some ⟨gc, 0, none⟩) 2 2) rfl
  have y3 := row_of HGF2.out 3 (.slice none 0 0) rfl
  have y4 := row_of HGF2.out 4 (.slice none 0 0) rfl
  have y5 := row_of HGF2.out 5 (.slice (some ⟨gk, 0, none⟩) 7 7) rfl
  go_wp2_with (refine wpList_store_row rfl 43 (.tmp 0) (.tmp 8) rfl w.heap.size #[.int .i64 2, .int .i64 2, .slice (some ⟨gc, 0, none⟩) 2 2, .slice none 0 0, .slice none 0 0, .slice (some ⟨gk, 0, none⟩) 7 7] rfl rfl 43 #[.int .i64 0, .int .i64 0, .slice none 0 0, .slice none 0 0, .slice none 0 0, .slice none 0 0] ?hs (by as_aux_lemma => kernel_rfl) (by as_aux_lemma => kernel_rfl) (by as_aux_lemma => kernel_rfl) ?_; exact HZ2.out)
  have hk3 := (setRow_other W2 w.heap.size gk #[.int .i64 2, .int .i64 2, .slice (some ⟨gc, 0, none⟩) 2 2, .slice none 0 0, .slice none 0 0, .slice (some ⟨gk, 0, none⟩) 7 7] (by omega)).trans HK2.out
  have hc3 := (setRow_other W2 w.heap.size gc #[.int .i64 2, .int .i64 2, .slice (some ⟨gc, 0, none⟩) 2 2, .slice none 0 0, .slice none 0 0, .slice (some ⟨gk, 0, none⟩) 7 7] (fun e => row_ne (e ▸ HZ2.out : W2.heap[gc]? = _) HC2.out (by decide) rfl)).trans HC2.out
  exact bodyPost_ret (v := .agg #[.int .i64 2, .int .i64 2, .slice (some ⟨gc, 0, none⟩) 2 2, .slice none 0 0, .slice none 0 0, .slice (some ⟨gk, 0, none⟩) 7 7]) (results_cell_row (P := Tryd.prog) (fn := Tryd.f27) rfl _ _ w.heap.size 43 #[.int .i64 2, .int .i64 2, .slice (some ⟨gc, 0, none⟩) 2 2, .slice none 0 0, .slice none 0 0, .slice (some ⟨gk, 0, none⟩) 7 7] (0,0) _ rfl (setRow_heap _ _ _ _ _ _ HZ2.out) Tryd.underlying43 rfl (by kernel_rfl)) rfl ⟨_, rfl, shown_rd hc3 hk3, below_row HB2.out (Nat.le_refl _) _⟩
end Go.Proofs.YtkjkpddajjmloaaDoor
