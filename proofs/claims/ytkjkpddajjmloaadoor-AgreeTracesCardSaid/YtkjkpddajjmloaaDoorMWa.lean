/- Contracts of word.Check, Trim, table and Apply: called in whatever memory they return what the functions on numbers say, and write nothing that was there. Conditions: the width is one from 1 to 64, the operator one of those with one or two arguments, and as many numbers come in. -/
import Derived.Test.YtkjkpddajjmloaaDoorMWd
import Derived.Test.YtkjkpddajjmloaaDoorCalm
set_option linter.unusedVariables false
set_option linter.unusedSimpArgs false
namespace Go.Proofs.YtkjkpddajjmloaaDoor
open Go.ChangeShapes Go.WideShapes Go.ChangeAt Go.RowKit
set_option maxRecDepth 100000 in
theorem wordCheck (n : Int) (h1 : 1 ≤ n) (h2 : n ≤ 64) (w : World) : Calls Tryd.prog 158 #[.int .i64 n] w fun e w' => e = .returned (.int .i64 0) ∧ w = w' := by
  go_enter Tryd.func158, Tryd.ntmps158
  go_wp2
  go_ret
  exact ⟨rfl, rfl⟩
set_option maxRecDepth 100000 in
theorem wordTrim (n : Nat) (v : Int) (h1 : 1 ≤ n) (h2 : n ≤ 64) (hv : InU64 v) (w : World) : Calls Tryd.prog 156 #[.int .i64 n, .int .u64 v] w fun e w' => e = .returned (.tuple #[.int .u64 (v % 2 ^ n), .int .i64 0]) ∧ w = w' := by
  have HA := Lib.hid (and_mask n h1 h2 v hv)
  have HM := Lib.hid (w_mask n h1 h2)
  clear hv
  go_enter Tryd.func156, Tryd.ntmps156
  go_wp2_with (first | (go_at_call 158; refine (wordCheck _ (by omega) (by omega) _).mono ?_; rintro e w1 ⟨rfl, rfl⟩) | (go_at_call 159; refine (HM.out _).mono ?_; rintro e w2 ⟨rfl, rfl⟩))
  go_ret2
  exact ⟨by rw [← HA.out]; rfl, rfl⟩
def tblV : Array Value := #[.nilFunc, .nilFunc, .nilFunc, .nilFunc, .func (.func 161) #[] #[], .func (.func 162) #[] #[], .func (.func 163) #[] #[], .func (.func 164) #[] #[], .func (.func 165) #[] #[], .func (.func 166) #[] #[], .func (.func 167) #[] #[], .func (.func 168) #[] #[], .func (.func 169) #[] #[], .func (.func 170) #[] #[], .func (.func 171) #[] #[], .func (.func 172) #[] #[], .func (.func 173) #[] #[], .func (.func 174) #[] #[], .func (.func 175) #[] #[], .func (.func 176) #[] #[], .func (.func 177) #[] #[], .nilFunc]
theorem tbl_at (k : Nat) (h0 : 4 ≤ k) (h1 : k ≤ 20) : tblV[k]? = some (.func (.func (fOf k)) #[] #[]) := by
  have hk : k = 4 ∨ k = 5 ∨ k = 6 ∨ k = 7 ∨ k = 8 ∨ k = 9 ∨ k = 10 ∨ k = 11 ∨ k = 12 ∨ k = 13 ∨ k = 14 ∨ k = 15 ∨ k = 16 ∨ k = 17 ∨ k = 18 ∨ k = 19 ∨ k = 20 := by omega
  rcases hk with rfl | rfl | rfl | rfl | rfl | rfl | rfl | rfl | rfl | rfl | rfl | rfl | rfl | rfl | rfl | rfl | rfl <;> rfl
theorem call_of (k : Nat) (h0 : 4 ≤ k) (h1 : k ≤ 20) (args : Array Value) (w : World) : (callFunc (fOf k) args).run Tryd.prog w = .ok (.enter (fOf k) args) w := by
  have hk : k = 4 ∨ k = 5 ∨ k = 6 ∨ k = 7 ∨ k = 8 ∨ k = 9 ∨ k = 10 ∨ k = 11 ∨ k = 12 ∨ k = 13 ∨ k = 14 ∨ k = 15 ∨ k = 16 ∨ k = 17 ∨ k = 18 ∨ k = 19 ∨ k = 20 := by omega
  rcases hk with rfl | rfl | rfl | rfl | rfl | rfl | rfl | rfl | rfl | rfl | rfl | rfl | rfl | rfl | rfl | rfl | rfl
  · exact Tryd.call161 args w
  · exact Tryd.call162 args w
  · exact Tryd.call163 args w
  · exact Tryd.call164 args w
  · exact Tryd.call165 args w
  · exact Tryd.call166 args w
  · exact Tryd.call167 args w
  · exact Tryd.call168 args w
  · exact Tryd.call169 args w
  · exact Tryd.call170 args w
  · exact Tryd.call171 args w
  · exact Tryd.call172 args w
  · exact Tryd.call173 args w
  · exact Tryd.call174 args w
  · exact Tryd.call175 args w
  · exact Tryd.call176 args w
  · exact Tryd.call177 args w
def nilT : Array Value := #[.nilFunc, .nilFunc, .nilFunc, .nilFunc, .nilFunc, .nilFunc, .nilFunc, .nilFunc, .nilFunc, .nilFunc, .nilFunc, .nilFunc, .nilFunc, .nilFunc, .nilFunc, .nilFunc, .nilFunc, .nilFunc, .nilFunc, .nilFunc, .nilFunc, .nilFunc]
set_option maxRecDepth 100000 in
set_option maxHeartbeats 1600000 in
theorem wordTable (w : World) : Calls Tryd.prog 160 #[] w fun e w' => e = .returned (.agg tblV) ∧ Below w.heap.size w w' := by
  have H0 : Hid ((w.alloc (.cells nilT 219)).heap[w.heap.size]? = some (.cells nilT 219 (0, 0))) := heap_alloc_new _ _
  go_enter Tryd.func160, Tryd.ntmps160
  go_wp2_with (refine wpList_store_row rfl 219 (.tmp 0) (.tmp 18) rfl w.heap.size tblV rfl rfl 219 nilT ?h2 (by as_aux_lemma => kernel_rfl) (by as_aux_lemma => kernel_rfl) (by as_aux_lemma => kernel_rfl) ?_; exact H0.out)
  refine bodyPost_ret (v := .agg tblV) ?_ rfl ⟨rfl, ?_⟩
  · exact results_cell_row (P := Tryd.prog) (fn := Tryd.f160) rfl _ _ w.heap.size 219 tblV (0,0) _ rfl (setRow_heap _ _ _ _ _ _ H0.out) Tryd.underlying219 rfl (by as_aux_lemma => kernel_rfl)
  · exact below_row ((Below.refl _ _).alloc (Nat.le_refl _) _) (Nat.le_refl _) _
theorem idxRow (k : IntKind) (a : Int) (h0 : 0 ≤ a) (h1 : a < 22) (cs : Array Value) (v : Value) (hv : cs[a.toNat]? = some v) (hsz : cs.size = 22) (w : World) : (Instr.index 219 (.agg cs) (.int k a)).run Tryd.prog w = .ok (.agg #[v]) w := by
  obtain ⟨i, hi, hz, hs, hb⟩ := info_parts (P := Tryd.prog) (e := 218) (z := .agg #[.nilFunc]) (size := 1) (bytes := 8) (by kernel_rfl)
  have hag : (isAgg 218).run Tryd.prog w = .ok true w := by
    unfold isAgg
    rw [Sem.run_bind, run_underlying Tryd.underlying218 w]
    simp
  have hx : cs.extract (a.toNat) (a.toNat + 1) = #[v] := by
    obtain ⟨hl, he⟩ := Array.getElem?_eq_some_iff.1 hv
    rw [← he]
    apply Array.ext
    · simp; omega
    · intro i h1 h2
      simp at h2
      subst h2
      simp
  simp [Instr.index, asIntOf, Sem.run_bind, run_underlying Tryd.underlying219, h0, h1, part, hag, sizeOf, typeInfo, hi, hs, hv]
  exact hx
theorem fieldRow (v : Value) (w : World) : (Instr.field 218 (.agg #[v]) 0).run Tryd.prog w = .ok v w := by
  obtain ⟨i, hi, hz, hs, hb⟩ := info_parts (P := Tryd.prog) (e := 216) (z := .nilFunc) (size := 1) (bytes := 8) (by kernel_rfl)
  have hag : (isAgg 216).run Tryd.prog w = .ok false w := by
    unfold isAgg
    rw [Sem.run_bind, run_underlying Tryd.underlying216 w]
    simp
  simp [Instr.field, asAgg, Sem.run_bind, run_underlying Tryd.underlying218, part, hag, sizeOf, typeInfo, hi, hs]
def celF (n : Nat) (l : List Int) (k : Nat) : Array Value := #[.int .u64 (if 0 < k then l.getD 0 0 % 2 ^ n else 0), .int .u64 (if 1 < k then l.getD 1 0 % 2 ^ n else 0), .int .u64 0]
theorem celF_step (n : Nat) (l : List Int) (k : Nat) (x : Int) (hk : k < 2) (hx : l[k]? = some x) : (celF n l k).setIfInBounds k (.int .u64 (x % 2 ^ n)) = celF n l (k + 1) := by
  have : k = 0 ∨ k = 1 := by omega
  rcases this with rfl | rfl
  · simp [celF, hx]
  · simp [celF, hx]
theorem celF_two (n : Nat) (l : List Int) (a b : Int) (h : l = [a, b]) : celF n l 2 = #[.int .u64 (a % 2 ^ n), .int .u64 (b % 2 ^ n), .int .u64 0] := by subst h; rfl
theorem celF_one (n : Nat) (l : List Int) (a : Int) (h : l = [a]) : celF n l 1 = #[.int .u64 (a % 2 ^ n), .int .u64 0, .int .u64 0] := by subst h; rfl
theorem celF_get (n : Nat) (l : List Int) (k : Nat) (hk : k < 2) : ∃ y, (celF n l k)[k]? = some (.int .u64 y) := by
  have : k = 0 ∨ k = 1 := by omega
  rcases this with rfl | rfl <;> simp [celF]
set_option maxRecDepth 100000 in
set_option maxHeartbeats 3200000 in
/-- Apply at an operator with two arguments. -/
theorem wordApply2 (o : Int) (n : Nat) (v : Value) (l : List Int) (a b : Int) (w : World) (ho1 : 4 ≤ o) (ho2 : o ≤ 20) (h1 : 1 ≤ n) (h2 : n ≤ 64) (h : RdRow kNum none w v l) (hl : l = [a, b]) :
    Calls Tryd.prog 154 #[.int .u8 o, .int .i64 n, v] w fun e w' => e = .returned (.tuple #[.int .u64 (opZ o.toNat n a b), .int .i64 0]) ∧ Below w.heap.size w w' := by
  obtain ⟨sa, sc, rfl⟩ := h.is
  have hlen : l.length = 2 := by rw [hl]; rfl
  have HC := Lib.hid (celF_two n l a b hl)
  have hx : Hid (∀ k, k < 2 → ∃ x, l[k]? = some x) := fun k hk => ⟨_, List.getElem?_eq_getElem (by omega)⟩
  obtain ⟨za0, za1, hp⟩ := mod_in n h2 a
  obtain ⟨zb0, zb1, _⟩ := mod_in n h2 b
  have HT : Hid (∀ w, Calls Tryd.prog (fOf o.toNat) #[.int .i64 n, .int .u64 (a % 2 ^ n), .int .u64 (b % 2 ^ n)] w fun e w' => e = .returned (.int .u64 (rawZ o.toNat n (a % 2 ^ n) (b % 2 ^ n))) ∧ w = w') :=
    fun w => w_two o.toNat (by omega) (by omega) n _ _ h1 h2 za0 za1 zb0 zb1 w
  have hidx : ∀ w, (Instr.index 219 (.agg tblV) (.int .u8 o)).run Tryd.prog w = .ok (.agg #[.func (.func (fOf o.toNat)) #[] #[]]) w :=
    fun w => idxRow .u8 o (by omega) (by omega) tblV _ (tbl_at _ (by omega) (by omega)) rfl w
  have hcall := fun args w => call_of o.toNat (by omega) (by omega) args w
  have hfld := fun w => fieldRow (.func (.func (fOf o.toNat)) #[] #[]) w
  have HR := Lib.hid h
  have HM := Lib.hid (w_mask n h1 h2)
  have HAM := Lib.hid (fun v hv => and_mask n h1 h2 v hv)
  have HO : Hid (opZ o.toNat n a b = rawZ o.toNat n (a % 2 ^ n) (b % 2 ^ n) % 2 ^ n) := rfl
  have HW : Hid (InU64 (rawZ o.toNat n (a % 2 ^ n) (b % 2 ^ n))) := raw_in o.toNat n (by omega) (by omega) _ _ h1 h2 za0 za1 zb0 zb1
  have ear : arityZ o = 2 := by unfold arityZ; rw [if_neg (by omega), if_neg (by omega), if_neg (by omega), if_neg (by omega)]
  have eer : arityErr o = 0 := by unfold arityErr; rw [if_neg (by omega)]
  have HAr : Hid (∀ w, Calls Tryd.prog 112 #[.int .u8 o] w fun e w' => e = .returned (.tuple #[.int .i64 2, .int .i64 0]) ∧ Below w.heap.size w w') := by
    intro w
    have := arity_of o (by omega) w
    rwa [ear, eer] at this
  have q2 : (o == 2) = false := by rw [beq_eq_false_iff_ne]; omega
  have q3 : (o == 3) = false := by rw [beq_eq_false_iff_ne]; omega
  have q21 : (o == 21) = false := by rw [beq_eq_false_iff_ne]; omega
  have qn : ((2 : Int) != (l.length : Int)) = false := by rw [hlen]; rfl
  have HL := Lib.hid hlen
  clear ear eer h hl hlen
  generalize opZ o.toNat n a b = res at *
  generalize hraw : rawZ o.toNat n (a % 2 ^ n) (b % 2 ^ n) = raw at *
  generalize fOf o.toNat = fo at *
  clear hraw
  have hl2 : l.length ≤ 2 := by have := HL.out; omega
  go_enter Tryd.func154, Tryd.ntmps154
  go_wp2_with (first | (go_at_call 158; refine (wordCheck _ (by omega) (by omega) _).mono ?_; rintro e w1 ⟨rfl, rfl⟩) | (go_at_call 112; refine (HAr.out _).mono ?_; rintro e w1 ⟨rfl, hb1⟩))
  go_loopw [13, 14, 42] (fun _ _ i wr => ∃ k : Nat, k ≤ l.length ∧ i = .int .i64 k ∧ wr.heap[w1.heap.size]? = some (.cells (celF n l k) 214 (0,0)) ∧ Below w.heap.size w wr) (fun _ _ i _ => l.length - (intOf i).toNat)
  case atStart => exact ⟨0, by omega, rfl, heap_alloc_new _ _, hb1.alloc hb1.size _⟩
  case round =>
    obtain ⟨k, hk, rfl, hh, hb⟩ := hrel
    have hsz := hb1.size
    by_cases hlt : k < l.length
    · obtain ⟨x, hxx⟩ := hx.out k (by omega)
      obtain ⟨b', o', rfl, _, c0, hx1⟩ := atNum HR.out hxx
      have c0' := cell_keepB hb c0 (block_lt_of_cell c0)
      obtain ⟨y, hy⟩ := celF_get n l k (by omega)
      have hg := row_of hh k _ hy
      have hf := frozen_of_row wr _ k _ _ hh
      have HS := Lib.hid (celF_step n l k x (by omega) hxx)
      have HV := Lib.hid (HAM.out x hx1)
      have hk3 : (k : Int) < 3 := by omega
      clear c0 hxx hx1
      go_wp2_with (go_at_call 159; refine (HM.out _).mono ?_; rintro e w2 ⟨rfl, rfl⟩)
      go_roundw
      case rel => exact ⟨k + 1, by omega, by go_num, by rw [HV.out, heap_setCell_same _ _ _ _ _ _ hh, HS.out], hb.setCell (by simp; omega) _⟩
      case measure => simp [intOf]; omega
    · obtain rfl : k = 2 := by have := HL.out; omega
      rw [HC.out] at hh
      have d0 : ∀ x, (ext wr x).cell? ⟨w1.heap.size, 0, none⟩ = some (.int .u64 (a % 2 ^ n)) := fun x => ext_cell (row_of hh 0 _ rfl) x
      have d1 : ∀ x, (ext wr x).cell? ⟨w1.heap.size, 1, none⟩ = some (.int .u64 (b % 2 ^ n)) := fun x => ext_cell (row_of hh 1 _ rfl) x
      go_wp2_with fail
      (refine wp_region_calm (by kernel_rfl) (by kernel_rfl) ?_; (repeat (go_big_quiet_step (first | (go_at_call 160; exact calls_calm (wordTable _)) | (exact calls_calm_same (HT.out _))))); refine wpQuiet_nil ?_; intro wc hwc)
      go_wp2_with (go_at_call 159; refine (HM.out _).mono ?_; rintro e w2 ⟨rfl, rfl⟩)
      go_ret2
      exact ⟨by rw [HO.out, ← HAM.out raw HW.out]; rfl, bcomp hb hwc⟩
set_option maxRecDepth 100000 in
set_option maxHeartbeats 3200000 in
/-- .. with one argument. -/
theorem wordApply12 (n : Nat) (v : Value) (l : List Int) (a b : Int) (w : World) (h1 : 1 ≤ n) (h2 : n ≤ 64) (h : RdRow kNum none w v l) (hl : l = [a]) :
    Calls Tryd.prog 154 #[.int .u8 2, .int .i64 n, v] w fun e w' => e = .returned (.tuple #[.int .u64 (opZ 2 n a b), .int .i64 0]) ∧ Below w.heap.size w w' := by
  obtain ⟨sa, sc, rfl⟩ := h.is
  have hlen : l.length = 1 := by rw [hl]; rfl
  have HC := Lib.hid (celF_one n l a hl)
  have hx : Hid (∀ k, k < 1 → ∃ x, l[k]? = some x) := fun k hk => ⟨_, List.getElem?_eq_getElem (by omega)⟩
  obtain ⟨za0, za1, hp⟩ := mod_in n h2 a
  obtain ⟨zb0, zb1, _⟩ := mod_in n h2 b
  have HR := Lib.hid h
  have HM := Lib.hid (w_mask n h1 h2)
  have HAM := Lib.hid (fun v hv => and_mask n h1 h2 v hv)
  have HO : Hid (opZ 2 n a b = rawZ 2 n (a % 2 ^ n) (b % 2 ^ n) % 2 ^ n) := rfl
  have HW : Hid (InU64 (rawZ 2 n (a % 2 ^ n) (b % 2 ^ n))) := raw_in 2 n (by omega) (by omega) _ _ h1 h2 za0 za1 zb0 zb1
  have HX := Lib.hid (xor_max (a % 2 ^ n) ⟨za0, by omega⟩)
  have HAr : Hid (∀ w, Calls Tryd.prog 112 #[.int .u8 2] w fun e w' => e = .returned (.tuple #[.int .i64 1, .int .i64 0]) ∧ Below w.heap.size w w') := fun w => arity_of 2 (by decide) w
  have qn : ((1 : Int) != (l.length : Int)) = false := by rw [hlen]; rfl
  have HL := Lib.hid hlen
  clear h hl hlen
  generalize opZ 2 n a b = res at *
  have hl2 : l.length ≤ 1 := by have := HL.out; omega
  go_enter Tryd.func154, Tryd.ntmps154
  go_wp2_with (first | (go_at_call 158; refine (wordCheck _ (by omega) (by omega) _).mono ?_; rintro e w1 ⟨rfl, rfl⟩) | (go_at_call 112; refine (HAr.out _).mono ?_; rintro e w1 ⟨rfl, hb1⟩))
  go_loopw [13, 14, 42] (fun _ _ i wr => ∃ k : Nat, k ≤ l.length ∧ i = .int .i64 k ∧ wr.heap[w1.heap.size]? = some (.cells (celF n l k) 214 (0,0)) ∧ Below w.heap.size w wr) (fun _ _ i _ => l.length - (intOf i).toNat)
  case atStart => exact ⟨0, by omega, rfl, heap_alloc_new _ _, hb1.alloc hb1.size _⟩
  case round =>
    obtain ⟨k, hk, rfl, hh, hb⟩ := hrel
    have hsz := hb1.size
    by_cases hlt : k < l.length
    · obtain ⟨x, hxx⟩ := hx.out k (by omega)
      obtain ⟨b', o', rfl, _, c0, hx1⟩ := atNum HR.out hxx
      have c0' := cell_keepB hb c0 (block_lt_of_cell c0)
      obtain ⟨y, hy⟩ := celF_get n l k (by omega)
      have hg := row_of hh k _ hy
      have hf := frozen_of_row wr _ k _ _ hh
      have HS := Lib.hid (celF_step n l k x (by omega) hxx)
      have HV := Lib.hid (HAM.out x hx1)
      have hk3 : (k : Int) < 3 := by omega
      clear c0 hxx hx1
      go_wp2_with (go_at_call 159; refine (HM.out _).mono ?_; rintro e w2 ⟨rfl, rfl⟩)
      go_roundw
      case rel => exact ⟨k + 1, by omega, by go_num, by rw [HV.out, heap_setCell_same _ _ _ _ _ _ hh, HS.out], hb.setCell (by simp; omega) _⟩
      case measure => simp [intOf]; omega
    · obtain rfl : k = 1 := by have := HL.out; omega
      rw [HC.out] at hh
      have d0 := row_of hh 0 _ rfl
      clear hh
      go_wp2_with (go_at_call 159; refine (HM.out _).mono ?_; rintro e w2 ⟨rfl, rfl⟩)
      go_ret2
      exact ⟨by rw [HO.out, ← HAM.out _ HW.out]; rw [show rawZ 2 n (a % 2 ^ n) (b % 2 ^ n) = 18446744073709551615 - a % 2 ^ n from rfl, ← HX.out]; rfl, hb⟩
set_option maxRecDepth 100000 in
set_option maxHeartbeats 3200000 in
/-- .. with one argument. -/
theorem wordApply13 (n : Nat) (v : Value) (l : List Int) (a b : Int) (w : World) (h1 : 1 ≤ n) (h2 : n ≤ 64) (h : RdRow kNum none w v l) (hl : l = [a]) :
    Calls Tryd.prog 154 #[.int .u8 3, .int .i64 n, v] w fun e w' => e = .returned (.tuple #[.int .u64 (opZ 3 n a b), .int .i64 0]) ∧ Below w.heap.size w w' := by
  obtain ⟨sa, sc, rfl⟩ := h.is
  have hlen : l.length = 1 := by rw [hl]; rfl
  have HC := Lib.hid (celF_one n l a hl)
  have hx : Hid (∀ k, k < 1 → ∃ x, l[k]? = some x) := fun k hk => ⟨_, List.getElem?_eq_getElem (by omega)⟩
  obtain ⟨za0, za1, hp⟩ := mod_in n h2 a
  obtain ⟨zb0, zb1, _⟩ := mod_in n h2 b
  have HR := Lib.hid h
  have HM := Lib.hid (w_mask n h1 h2)
  have HAM := Lib.hid (fun v hv => and_mask n h1 h2 v hv)
  have HO : Hid (opZ 3 n a b = rawZ 3 n (a % 2 ^ n) (b % 2 ^ n) % 2 ^ n) := rfl
  have HW : Hid (InU64 (rawZ 3 n (a % 2 ^ n) (b % 2 ^ n))) := raw_in 3 n (by omega) (by omega) _ _ h1 h2 za0 za1 zb0 zb1
  have HAr : Hid (∀ w, Calls Tryd.prog 112 #[.int .u8 3] w fun e w' => e = .returned (.tuple #[.int .i64 1, .int .i64 0]) ∧ Below w.heap.size w w') := fun w => arity_of 3 (by decide) w
  have qn : ((1 : Int) != (l.length : Int)) = false := by rw [hlen]; rfl
  have HL := Lib.hid hlen
  clear h hl hlen
  generalize opZ 3 n a b = res at *
  have hl2 : l.length ≤ 1 := by have := HL.out; omega
  go_enter Tryd.func154, Tryd.ntmps154
  go_wp2_with (first | (go_at_call 158; refine (wordCheck _ (by omega) (by omega) _).mono ?_; rintro e w1 ⟨rfl, rfl⟩) | (go_at_call 112; refine (HAr.out _).mono ?_; rintro e w1 ⟨rfl, hb1⟩))
  go_loopw [13, 14, 42] (fun _ _ i wr => ∃ k : Nat, k ≤ l.length ∧ i = .int .i64 k ∧ wr.heap[w1.heap.size]? = some (.cells (celF n l k) 214 (0,0)) ∧ Below w.heap.size w wr) (fun _ _ i _ => l.length - (intOf i).toNat)
  case atStart => exact ⟨0, by omega, rfl, heap_alloc_new _ _, hb1.alloc hb1.size _⟩
  case round =>
    obtain ⟨k, hk, rfl, hh, hb⟩ := hrel
    have hsz := hb1.size
    by_cases hlt : k < l.length
    · obtain ⟨x, hxx⟩ := hx.out k (by omega)
      obtain ⟨b', o', rfl, _, c0, hx1⟩ := atNum HR.out hxx
      have c0' := cell_keepB hb c0 (block_lt_of_cell c0)
      obtain ⟨y, hy⟩ := celF_get n l k (by omega)
      have hg := row_of hh k _ hy
      have hf := frozen_of_row wr _ k _ _ hh
      have HS := Lib.hid (celF_step n l k x (by omega) hxx)
      have HV := Lib.hid (HAM.out x hx1)
      have hk3 : (k : Int) < 3 := by omega
      clear c0 hxx hx1
      go_wp2_with (go_at_call 159; refine (HM.out _).mono ?_; rintro e w2 ⟨rfl, rfl⟩)
      go_roundw
      case rel => exact ⟨k + 1, by omega, by go_num, by rw [HV.out, heap_setCell_same _ _ _ _ _ _ hh, HS.out], hb.setCell (by simp; omega) _⟩
      case measure => simp [intOf]; omega
    · obtain rfl : k = 1 := by have := HL.out; omega
      rw [HC.out] at hh
      have d0 := row_of hh 0 _ rfl
      clear hh
      go_wp2_with (go_at_call 159; refine (HM.out _).mono ?_; rintro e w2 ⟨rfl, rfl⟩)
      go_ret2
      exact ⟨by rw [HO.out, ← HAM.out _ HW.out]; rfl, hb⟩
end Go.Proofs.YtkjkpddajjmloaaDoor
