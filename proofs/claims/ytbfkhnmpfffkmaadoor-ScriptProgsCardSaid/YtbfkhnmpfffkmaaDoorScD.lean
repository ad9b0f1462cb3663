/- The walk of ScriptKinds. Conditions: the byte is a byte; the string's size is valid. -/
import Derived.Test.YtbfkhnmpfffkmaaDoorScX
import Derived.Laws.IdiomStrings
set_option linter.unusedVariables false
set_option linter.unusedSimpArgs false
set_option linter.unnecessarySimpa false
namespace Go.Proofs.YtbfkhnmpfffkmaaDoor
open Go.Maps (Keyed int_keyed)
open Go.WideShapes Go.ChangeMaps Go.MapKept Go.WideMaps Go.ChangeAt Go.RowKit Go.ChangeShapes
/-- The kinds of the sixteen bytes. -/
def kindL : List Value := [.int .u8 0, .int .u8 1, .int .u8 1, .int .u8 1, .int .u8 1, .int .u8 0, .int .u8 0, .int .u8 0, .int .u8 5, .int .u8 5, .int .u8 6, .int .u8 6, .int .u8 7, .int .u8 9, .int .u8 8, .int .u8 11]
theorem kindL_at (k : Nat) (h : k < 16) : kindL[k]? = some (.int .u8 (kindS k)) := by
  have h16 : k = 0 ∨ k = 1 ∨ k = 2 ∨ k = 3 ∨ k = 4 ∨ k = 5 ∨ k = 6 ∨ k = 7 ∨ k = 8 ∨ k = 9 ∨ k = 10 ∨ k = 11 ∨ k = 12 ∨ k = 13 ∨ k = 14 ∨ k = 15 := by omega
  rcases h16 with rfl | rfl | rfl | rfl | rfl | rfl | rfl | rfl | rfl | rfl | rfl | rfl | rfl | rfl | rfl | rfl <;> rfl
/-- Main of a program of a string is short. -/
theorem main_len (E : EnvS) : ∀ m acc l, (mainS E m acc l).1.length ≤ acc.length + m
  | 0, acc, l => by simp [mainS, pureS]
  | m + 1, acc, l => by
    unfold mainS
    by_cases h : l = []
    · rw [if_pos h]; simp
    · rw [if_neg h]
      have := main_len E m (acc ++ [(instrS E acc.length l).1]) (instrS E acc.length l).2
      unfold bindS
      simp at this ⊢
      omega
theorem at_len (c : List (InstrD × Int)) (i : Nat) : (atS c i).length ≤ 2 := by
  unfold atS
  have h1 : ((c[i]?.map (fixS c.length)).toList).length ≤ 1 := by cases c[i]? <;> simp
  have h2 : (if wantS c i = true then [labelI i] else []).length ≤ 1 := by split <;> simp
  rw [List.length_append]
  omega
theorem labelled_len (c : List (InstrD × Int)) : (labelledS c).length ≤ 2 * (c.length + 1) := by
  unfold labelledS
  have h : ∀ n, ((List.range n).flatMap (atS c)).length ≤ 2 * n := by
    intro n
    induction n with
    | zero => simp
    | succ n ih =>
      rw [List.range_succ, List.flatMap_append, List.length_append, show List.flatMap (atS c) [n] = atS c n by simp]
      have := at_len c n
      omega
  exact h _
theorem main_short (l : List UInt8) : (progS l).main.length ≤ 42 := by
  have h := main_len (mainE (headS l).1) 20 [] (headS l).2
  have := labelled_len (mainS (mainE (headS l).1) 20 [] (headS l).2).1
  show (labelledS _).length ≤ 42
  simp at h
  omega
theorem five_eq (b : UInt8) (s : ByteArray) : (⟨#[0, 0, 0, 0]⟩ : ByteArray) ++ ⟨#[b]⟩ ++ s = ⟨(0 :: 0 :: 0 :: 0 :: b :: s.data.toList).toArray⟩ := by
  apply ByteArray.ext
  simp
set_option maxRecDepth 100000 in
set_option maxHeartbeats 3200000 in
theorem kinds_walk (k : Int) (s : ByteArray) (w : World) (hk : InU8 k) (hs : s.size ≤ maxLen) :
    Calls Tryd.prog 5 #[.int .u8 k, .string s] w fun e w' => e = .returned (.bool true) ∧ Below w.heap.size w w' := by
  have KN : ∀ z, Hid (Calls Tryd.prog 7 #[] z fun e w' => e = .returned (.bool true) ∧ Below z.heap.size z w') := fun z => known_any z
  unfold InU8 at hk
  by_cases hlong : 100 < s.size
  · have hlong1 : (100 : Int) < (s.size : Int) := by omega
    have HK := Lib.hid (KN w).out
    clear KN
    go_enter Tryd.func5, Tryd.ntmps5
    go_wp2_with (go_at_call 7; refine HK.out.mono ?_; rintro e z ⟨rfl, hz⟩)
    go_ret
    exact ⟨rfl, hz⟩
  have hlong1 : ¬ (100 : Int) < (s.size : Int) := by omega
  go_enter Tryd.func5, Tryd.ntmps5
  go_upto_region 4 with fail
  have HBK := Lib.hid ((Below.refl w.heap.size w).alloc (Nat.le_refl _) (.cells #[.int .u8 0, .int .u8 1, .int .u8 1, .int .u8 1, .int .u8 1, .int .u8 0, .int .u8 0, .int .u8 0, .int .u8 5, .int .u8 5, .int .u8 6, .int .u8 6, .int .u8 7, .int .u8 9, .int .u8 8, .int .u8 11] 40))
  have HG := Lib.hid (heap_alloc_new w (.cells #[.int .u8 0, .int .u8 1, .int .u8 1, .int .u8 1, .int .u8 1, .int .u8 0, .int .u8 0, .int .u8 0, .int .u8 5, .int .u8 5, .int .u8 6, .int .u8 6, .int .u8 7, .int .u8 9, .int .u8 8, .int .u8 11] 40))
  generalize w.alloc (.cells #[.int .u8 0, .int .u8 1, .int .u8 1, .int .u8 1, .int .u8 1, .int .u8 0, .int .u8 0, .int .u8 0, .int .u8 5, .int .u8 5, .int .u8 6, .int .u8 6, .int .u8 7, .int .u8 9, .int .u8 8, .int .u8 11] 40) = W at *
  obtain ⟨b, hb⟩ : ∃ b, w.heap.size = b := ⟨_, rfl⟩
  rw [hb] at HG
  try rw [hb]
  have HWB := Lib.hid hb
  clear hb
  obtain ⟨kb, hkb⟩ : ∃ kb : UInt8, UInt8.ofNat k.toNat = kb := ⟨_, rfl⟩
  have hkt : (kb.toNat : Int) = k := by rw [← hkb]; simp; omega
  have hcv : (convert 41 9 (.slice (some ⟨W.heap.size, 0, none⟩) 1 1)).run Tryd.prog (W.alloc (.cells #[.int .u8 k] 5)) = .ok (.string ⟨#[kb]⟩) (W.alloc (.cells #[.int .u8 k] 5)) := by
    refine run_convert_bytes_back (P := Tryd.prog) _ 41 9 5 ⟨W.heap.size, 0, none⟩ 1 [kb] Tryd.underlying41 Tryd.underlying5 Tryd.underlying9 (fun j hj => ?_)
    obtain rfl : j = 0 := by simpa using hj
    simp only [List.getElem_cons_zero, hkt]
    exact row_of (heap_alloc_new W (.cells #[.int .u8 k] 5)) 0 _ rfl
  have HBW := Lib.hid ((Below.refl W.heap.size W).alloc (Nat.le_refl _) (.cells #[.int .u8 k] 5))
  obtain ⟨L, hL⟩ : ∃ L : List UInt8, 0 :: 0 :: 0 :: 0 :: kb :: s.data.toList = L := ⟨_, rfl⟩
  have HPR : ∀ z, Hid (Calls Tryd.prog 9 #[.string ((⟨#[0, 0, 0, 0]⟩ : ByteArray) ++ ⟨#[kb]⟩ ++ s)] z fun e w' => ∃ cv av fv mv, e = .returned (.agg #[.int .i64 (progS L).width, cv, av, fv, mv]) ∧ RdProg (some (upFrom z.heap.size)) w' (progS L) cv av fv mv ∧ Below z.heap.size z w') := fun z => by rw [five_eq, hL]; exact prog_any L z
  have hz5 : ¬ 9223372036854775807 < 5 + s.size := by omega
  have HLW := Lib.hid hL
  have hfm := fun (v0 v1 v2 v3 v4 : Value) (z : World) => fieldMain v0 v1 v2 v3 v4 z
  have HKW : Hid (k = (kb.toNat : Int)) := hkt.symm
  clear hL hkb hkt
  go_upto_region 5 with (first | (go_at_call 9; refine (HPR _).out.mono ?_; rintro e z ⟨cv, av, fv, mv, rfl, hr, hbz⟩; have HRM := Lib.hid hr.forget.2.2.2.1; have HBZ := Lib.hid hbz; clear hr hbz) | (go_at_call 11; refine (bare_any mv _ z HRM.out (by have := main_short L; omega)).mono ?_; rintro e z2 ⟨bv, rfl, hr2, hbz2⟩; have HR2 := Lib.hid hr2; have HB2 := Lib.hid hbz2; clear hr2 hbz2))
  clear hcv HPR hfm hz5
  obtain ⟨x, r, hbl, hxk⟩ := kinds_law kb s.data.toList
  rw [HLW.out] at hbl
  have hbm := HR2.out
  rw [hbl] at hbm
  obtain ⟨g, o, c, av, hbv, q0, -⟩ := hbm.at' (i := 0) rfl
  rw [hxk] at q0
  obtain ⟨j, hj⟩ : ∃ j, kb.toNat % 16 = j := ⟨_, rfl⟩
  have hjl : j < 16 := by omega
  rw [hj] at q0
  obtain ⟨kd, hkd⟩ : ∃ kd, kindS j = kd := ⟨_, rfl⟩
  have hkl := kindL_at j hjl
  rw [hkd] at hkl q0
  have hbz := bcomp (bcomp HBW.out HBZ.out) HB2.out
  have HGZ := (hbz.block b (Array.getElem?_eq_some_iff.1 HG.out).1).trans HG.out
  have qk := row_of HGZ j (.int .u8 kd) (by simpa [kindL] using hkl)
  have HBA := Lib.hid (HBK.out.trans (hbz.mono (by have := HBK.out.size; omega)))
  simp only [Nat.zero_mul, Nat.add_zero] at q0
  have htm : Int.tmod k 16 = (j : Int) := by rw [HKW.out, ← hj]; exact tmod_nat kb.toNat 16
  subst hbv
  have e0 := ext_cell q0
  have e1 := ext_cell qk
  clear q0 qk hkl hbz HGZ hbm hxk hbl hj HKW HLW hkd
  have hll : (0 : Int) < ((x :: r).length : Int) := by simp
  (refine wp_region_calm_tail 17 (by kernel_rfl) (by kernel_rfl) ?_; simp only [List.take_succ_cons, List.take_zero, List.drop_succ_cons, List.drop_zero]; (repeat (go_big_quiet_step ((go_at_call 7; exact calls_calm (KN _).out)))); refine wpQuiet_nil ?_; intro wc hwc)
  go_wp2_with fail
  go_ret
  exact ⟨rfl, HBA.out.trans (hwc.mono HBA.out.size)⟩
end Go.Proofs.YtbfkhnmpfffkmaaDoor
