/- Contracts of the small helpers of the statements: at, is, main. -/
import Derived.Test.YteeebofjlchndaaDoorEva
import Derived.Test.YteeebofjlchndaaDoorKitE
import Derived.Test.YteeebofjlchndaaDoorMix
set_option linter.unusedVariables false
set_option linter.unusedSimpArgs false
namespace Go.Proofs.YteeebofjlchndaaDoor
open Go.ChangeShapes Go.WideShapes Go.ChangeAt Go.RowKit
set_option maxRecDepth 100000 in
theorem at_any (l c : Int) (w : World) : Calls Tryd.prog 22 #[.int .i64 l, .int .i64 c] w fun e w' => e = .returned (.agg #[.int .i64 l, .int .i64 c]) ∧ Below w.heap.size w w' := by
  go_enter Tryd.func22, Tryd.ntmps22
  go_wp2_with fail
  exact bodyPost_ret (v := .agg #[.int .i64 l, .int .i64 c]) (results_cell_row (P := Tryd.prog) (fn := Tryd.f22) rfl _ _ w.heap.size 38 _ (0,0) _ rfl (heap_alloc_new _ _) Tryd.underlying38 rfl (by kernel_rfl)) rfl ⟨rfl, (Below.refl _ _).alloc (Nat.le_refl _) _⟩
set_option maxRecDepth 100000 in
theorem main_any (v : Value) (a : Option Addr) (n c : Nat) (hv : v = .slice a n c) (w : World) : Calls Tryd.prog 24 #[v] w fun e w' => e = .returned (.agg #[.int .i64 1, .slice none 0 0, .slice none 0 0, .slice none 0 0, v]) ∧ Below w.heap.size w w' := by
  subst hv
  go_enter Tryd.func24, Tryd.ntmps24
  go_wp2_with fail
  exact bodyPost_ret (v := .agg #[.int .i64 1, .slice none 0 0, .slice none 0 0, .slice none 0 0, .slice a n c]) (results_cell_row (P := Tryd.prog) (fn := Tryd.f24) rfl _ _ w.heap.size 27 _ (0,0) _ rfl (heap_alloc_new _ _) Tryd.underlying27 rfl (by kernel_rfl)) rfl ⟨rfl, (Below.refl _ _).alloc (Nat.le_refl _) _⟩
set_option maxRecDepth 100000 in
theorem is_any (p : ProgD) (cv av fv mv : Value) (F : Option FaultD) (w : World) (h : RdProg none w p cv av fv mv) (hL : Laid w) (hc : checkF p = F) :
    Calls Tryd.prog 23 #[progV p cv av fv mv, .agg #[.int .i64 (posL F), .int .i64 (posC F)], .int .i64 (errOf F)] w fun e w' => e = .returned (.bool true) ∧ Below w.heap.size w w' := by
  obtain ⟨hrc, hra, hrf, hrm, hrw⟩ := id h
  obtain ⟨ac, kc, rfl, -, -⟩ := id hrc
  obtain ⟨aa, ka, rfl, -, -⟩ := id hra
  obtain ⟨af, kf, rfl, -, hrfs⟩ := id hrf
  obtain ⟨am, km, rfl, -, -⟩ := id hrm
  have H := Lib.hid h
  have HL := Lib.hid hL
  have HC := Lib.hid hc
  clear h hL hrc hra hrf hrm hrw hrfs hc
  go_enter Tryd.func23, Tryd.ntmps23
  go_upto_region 1 with fail
  have hb1 := ((Below.refl w.heap.size w).alloc (Nat.le_refl _) (.cells #[.int .i64 p.width, .slice ac p.chans.length kc, .slice aa p.arrays.length ka, .slice af p.funcs.length kf, .slice am p.main.length km] 27)).alloc (by simp) (.cells #[.int .i64 (posL F), .int .i64 (posC F)] 38)
  have q0 := heap_alloc2_old w (.cells #[.int .i64 p.width, .slice ac p.chans.length kc, .slice aa p.arrays.length ka, .slice af p.funcs.length kf, .slice am p.main.length km] 27) (.cells #[.int .i64 (posL F), .int .i64 (posC F)] 38)
  have q1 := heap_alloc2_new w (.cells #[.int .i64 p.width, .slice ac p.chans.length kc, .slice aa p.arrays.length ka, .slice af p.funcs.length kf, .slice am p.main.length km] 27) (.cells #[.int .i64 (posL F), .int .i64 (posC F)] 38)
  generalize ((w.alloc (.cells #[.int .i64 p.width, .slice ac p.chans.length kc, .slice aa p.arrays.length ka, .slice af p.funcs.length kf, .slice am p.main.length km] 27)).alloc (.cells #[.int .i64 (posL F), .int .i64 (posC F)] 38)) = W at *
  have b0 := row_of q0 0 (.int .i64 p.width) rfl
  have b1 := row_of q0 1 (.slice ac p.chans.length kc) rfl
  have b2 := row_of q0 2 (.slice aa p.arrays.length ka) rfl
  have b3 := row_of q0 3 (.slice af p.funcs.length kf) rfl
  have b4 := row_of q0 4 (.slice am p.main.length km) rfl
  have z0 := row_of q1 0 (.int .i64 (posL F)) rfl
  have z1 := row_of q1 1 (.int .i64 (posC F)) rfl
  have HB1 := Lib.hid hb1
  have c1 := check_any p _ _ _ _ _ (H.out.keep hb1) (HL.out.keep hb1)
  rw [HC.out] at c1
  have C1 := Lib.hid c1
  clear hb1 q0 q1 c1
  generalize posL F = l at *
  generalize posC F = c at *
  generalize errOf F = e at *
  go_upto_region 2 with (go_at_call 20; refine C1.out.mono ?_; rintro e w1 ⟨rfl, hb2⟩)
  go_upto_region 2 with fail
  have z2 := cell_keep hb2 z0
  have z3 := cell_keep hb2 z1
  have hb3 : Below w1.heap.size w1 (w1.alloc (.cells #[.int .i64 l, .int .i64 c] 38)) := (Below.refl _ _).alloc (Nat.le_refl _) _
  have g3 := heap_alloc_new w1 (.cells #[.int .i64 l, .int .i64 c] 38)
  generalize w1.alloc (.cells #[.int .i64 l, .int .i64 c] 38) = W3 at *
  have z4 := cell_keep hb3 z2
  have z5 := cell_keep hb3 z3
  have z6 := row_of g3 0 _ rfl
  have z7 := row_of g3 1 _ rfl
  have HB3 := Lib.hid (bcomp HB1.out (bcomp hb2 hb3))
  clear b0 b1 b2 b3 b4 z0 z1 z2 z3 g3 hb2 hb3
  go_wp2_with fail
  go_ret
  exact ⟨rfl, HB3.out⟩
end Go.Proofs.YteeebofjlchndaaDoor
