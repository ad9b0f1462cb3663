/- Contract of the kit's comparison of programs: called in whatever memory it returns whether the two values read as equal programs, and writes nothing that was there. Condition: both read as programs. -/
import Derived.Test.YtfdinncgncbmfaaDoorKitH
set_option linter.unusedVariables false
set_option linter.unusedSimpArgs false
namespace Go.Proofs.YtfdinncgncbmfaaDoor
open Go.ChangeShapes Go.WideShapes Go.ChangeAt Go.RowKit
set_option maxRecDepth 100000 in
set_option maxHeartbeats 3200000 in
theorem equalProg (x y : ProgD) (cv av fv mv cu au fu mu : Value) (w : World) (h : RdProg none w x cv av fv mv) (g : RdProg none w y cu au fu mu) :
    Calls Tryd.prog 6 #[progV x cv av fv mv, progV y cu au fu mu] w fun e w' => e = .returned (.bool (eqProg x y)) ∧ Below w.heap.size w w' := by
  have hb0 : Hid (Below w.heap.size w ((w.alloc (.cells #[.int .i64 x.width, cv, av, fv, mv] 28)).alloc (.cells #[.int .i64 y.width, cu, au, fu, mu] 28))) := (((Below.refl _ _).alloc (Nat.le_refl _) _).alloc (by simp) _)
  obtain ⟨h1, h2, h3, h4, _⟩ := h
  obtain ⟨g1, g2, g3, g4, _⟩ := g
  have HA := Lib.hid (equalStrs cv cu x.chans y.chans _ (h1.keep hb0.out) (g1.keep hb0.out))
  have H2 := Lib.hid h2
  have G2 := Lib.hid g2
  have H3 := Lib.hid h3
  have G3 := Lib.hid g3
  have H4 := Lib.hid h4
  have G4 := Lib.hid g4
  clear h1 g1 h2 g2 h3 g3 h4 g4
  cases h0 : (x.width == y.width)
  · have HV : Hid (eqProg x y = false) := by show _ = _; simp [eqProg, h0]
    go_enter Tryd.func6, Tryd.ntmps6
    go_wp2_with (first | (go_at_call 11; refine HA.out.mono ?_; rintro e w1 ⟨rfl, hw1⟩; obtain ⟨g0, g1, hbw⟩ := heap2_of hw1; have i2 := row_of g0 2 av rfl; have j2 := row_of g1 2 au rfl; have i3 := row_of g0 3 fv rfl; have j3 := row_of g1 3 fu rfl; have i4 := row_of g0 4 mv rfl; have j4 := row_of g1 4 mu rfl; have HB1 := Lib.hid hbw; clear g0 g1 hbw) | (go_at_call 12; refine (equalArrs av au x.arrays y.arrays _ (H2.out.keep HB1.out) (G2.out.keep HB1.out)).mono ?_; rintro e w2 ⟨rfl, hw2⟩; have k3 := cell_keep hw2 i3; have l3 := cell_keep hw2 j3; have k4 := cell_keep hw2 i4; have l4 := cell_keep hw2 j4; have HB2 := Lib.hid (bcomp HB1.out hw2)) | (go_at_call 13; refine (equalFuncs fv fu x.funcs y.funcs _ (H3.out.keep HB2.out) (G3.out.keep HB2.out)).mono ?_; rintro e w3 ⟨rfl, hw3⟩; have n4 := cell_keep hw3 k4; have o4 := cell_keep hw3 l4; have HB3 := Lib.hid (bcomp HB2.out hw3)) | (go_at_call 14; refine (equalInstrs mv mu x.main y.main _ (H4.out.keep HB3.out) (G4.out.keep HB3.out)).mono ?_; rintro e w4 ⟨rfl, hw4⟩; have HB4 := Lib.hid (bcomp HB3.out hw4)))
    go_ret
    exact ⟨by rw [HV.out]; rfl, hb0.out⟩
  cases h1 : (eqL eqS x.chans y.chans)
  · have HV : Hid (eqProg x y = false) := by show _ = _; simp [eqProg, h0, h1]
    go_enter Tryd.func6, Tryd.ntmps6
    go_wp2_with (first | (go_at_call 11; refine HA.out.mono ?_; rintro e w1 ⟨rfl, hw1⟩; obtain ⟨g0, g1, hbw⟩ := heap2_of hw1; have i2 := row_of g0 2 av rfl; have j2 := row_of g1 2 au rfl; have i3 := row_of g0 3 fv rfl; have j3 := row_of g1 3 fu rfl; have i4 := row_of g0 4 mv rfl; have j4 := row_of g1 4 mu rfl; have HB1 := Lib.hid hbw; clear g0 g1 hbw) | (go_at_call 12; refine (equalArrs av au x.arrays y.arrays _ (H2.out.keep HB1.out) (G2.out.keep HB1.out)).mono ?_; rintro e w2 ⟨rfl, hw2⟩; have k3 := cell_keep hw2 i3; have l3 := cell_keep hw2 j3; have k4 := cell_keep hw2 i4; have l4 := cell_keep hw2 j4; have HB2 := Lib.hid (bcomp HB1.out hw2)) | (go_at_call 13; refine (equalFuncs fv fu x.funcs y.funcs _ (H3.out.keep HB2.out) (G3.out.keep HB2.out)).mono ?_; rintro e w3 ⟨rfl, hw3⟩; have n4 := cell_keep hw3 k4; have o4 := cell_keep hw3 l4; have HB3 := Lib.hid (bcomp HB2.out hw3)) | (go_at_call 14; refine (equalInstrs mv mu x.main y.main _ (H4.out.keep HB3.out) (G4.out.keep HB3.out)).mono ?_; rintro e w4 ⟨rfl, hw4⟩; have HB4 := Lib.hid (bcomp HB3.out hw4)))
    go_ret
    exact ⟨by rw [HV.out]; rfl, HB1.out⟩
  cases h2 : (eqL eqArr x.arrays y.arrays)
  · have HV : Hid (eqProg x y = false) := by show _ = _; simp [eqProg, h0, h1, h2]
    go_enter Tryd.func6, Tryd.ntmps6
    go_wp2_with (first | (go_at_call 11; refine HA.out.mono ?_; rintro e w1 ⟨rfl, hw1⟩; obtain ⟨g0, g1, hbw⟩ := heap2_of hw1; have i2 := row_of g0 2 av rfl; have j2 := row_of g1 2 au rfl; have i3 := row_of g0 3 fv rfl; have j3 := row_of g1 3 fu rfl; have i4 := row_of g0 4 mv rfl; have j4 := row_of g1 4 mu rfl; have HB1 := Lib.hid hbw; clear g0 g1 hbw) | (go_at_call 12; refine (equalArrs av au x.arrays y.arrays _ (H2.out.keep HB1.out) (G2.out.keep HB1.out)).mono ?_; rintro e w2 ⟨rfl, hw2⟩; have k3 := cell_keep hw2 i3; have l3 := cell_keep hw2 j3; have k4 := cell_keep hw2 i4; have l4 := cell_keep hw2 j4; have HB2 := Lib.hid (bcomp HB1.out hw2)) | (go_at_call 13; refine (equalFuncs fv fu x.funcs y.funcs _ (H3.out.keep HB2.out) (G3.out.keep HB2.out)).mono ?_; rintro e w3 ⟨rfl, hw3⟩; have n4 := cell_keep hw3 k4; have o4 := cell_keep hw3 l4; have HB3 := Lib.hid (bcomp HB2.out hw3)) | (go_at_call 14; refine (equalInstrs mv mu x.main y.main _ (H4.out.keep HB3.out) (G4.out.keep HB3.out)).mono ?_; rintro e w4 ⟨rfl, hw4⟩; have HB4 := Lib.hid (bcomp HB3.out hw4)))
    go_ret
    exact ⟨by rw [HV.out]; rfl, HB2.out⟩
  cases h3 : (eqL eqFunc x.funcs y.funcs)
  · have HV : Hid (eqProg x y = false) := by show _ = _; simp [eqProg, h0, h1, h2, h3]
    go_enter Tryd.func6, Tryd.ntmps6
    go_wp2_with (first | (go_at_call 11; refine HA.out.mono ?_; rintro e w1 ⟨rfl, hw1⟩; obtain ⟨g0, g1, hbw⟩ := heap2_of hw1; have i2 := row_of g0 2 av rfl; have j2 := row_of g1 2 au rfl; have i3 := row_of g0 3 fv rfl; have j3 := row_of g1 3 fu rfl; have i4 := row_of g0 4 mv rfl; have j4 := row_of g1 4 mu rfl; have HB1 := Lib.hid hbw; clear g0 g1 hbw) | (go_at_call 12; refine (equalArrs av au x.arrays y.arrays _ (H2.out.keep HB1.out) (G2.out.keep HB1.out)).mono ?_; rintro e w2 ⟨rfl, hw2⟩; have k3 := cell_keep hw2 i3; have l3 := cell_keep hw2 j3; have k4 := cell_keep hw2 i4; have l4 := cell_keep hw2 j4; have HB2 := Lib.hid (bcomp HB1.out hw2)) | (go_at_call 13; refine (equalFuncs fv fu x.funcs y.funcs _ (H3.out.keep HB2.out) (G3.out.keep HB2.out)).mono ?_; rintro e w3 ⟨rfl, hw3⟩; have n4 := cell_keep hw3 k4; have o4 := cell_keep hw3 l4; have HB3 := Lib.hid (bcomp HB2.out hw3)) | (go_at_call 14; refine (equalInstrs mv mu x.main y.main _ (H4.out.keep HB3.out) (G4.out.keep HB3.out)).mono ?_; rintro e w4 ⟨rfl, hw4⟩; have HB4 := Lib.hid (bcomp HB3.out hw4)))
    go_ret
    exact ⟨by rw [HV.out]; rfl, HB3.out⟩
  cases h4 : (eqL eqInstr x.main y.main)
  · have HV : Hid (eqProg x y = false) := by show _ = _; simp [eqProg, h0, h1, h2, h3, h4]
    go_enter Tryd.func6, Tryd.ntmps6
    go_wp2_with (first | (go_at_call 11; refine HA.out.mono ?_; rintro e w1 ⟨rfl, hw1⟩; obtain ⟨g0, g1, hbw⟩ := heap2_of hw1; have i2 := row_of g0 2 av rfl; have j2 := row_of g1 2 au rfl; have i3 := row_of g0 3 fv rfl; have j3 := row_of g1 3 fu rfl; have i4 := row_of g0 4 mv rfl; have j4 := row_of g1 4 mu rfl; have HB1 := Lib.hid hbw; clear g0 g1 hbw) | (go_at_call 12; refine (equalArrs av au x.arrays y.arrays _ (H2.out.keep HB1.out) (G2.out.keep HB1.out)).mono ?_; rintro e w2 ⟨rfl, hw2⟩; have k3 := cell_keep hw2 i3; have l3 := cell_keep hw2 j3; have k4 := cell_keep hw2 i4; have l4 := cell_keep hw2 j4; have HB2 := Lib.hid (bcomp HB1.out hw2)) | (go_at_call 13; refine (equalFuncs fv fu x.funcs y.funcs _ (H3.out.keep HB2.out) (G3.out.keep HB2.out)).mono ?_; rintro e w3 ⟨rfl, hw3⟩; have n4 := cell_keep hw3 k4; have o4 := cell_keep hw3 l4; have HB3 := Lib.hid (bcomp HB2.out hw3)) | (go_at_call 14; refine (equalInstrs mv mu x.main y.main _ (H4.out.keep HB3.out) (G4.out.keep HB3.out)).mono ?_; rintro e w4 ⟨rfl, hw4⟩; have HB4 := Lib.hid (bcomp HB3.out hw4)))
    go_ret
    exact ⟨by rw [HV.out]; rfl, HB4.out⟩
  have HV : Hid (eqProg x y = true) := by show _ = _; simp [eqProg, h0, h1, h2, h3, h4]
  go_enter Tryd.func6, Tryd.ntmps6
  go_wp2_with (first | (go_at_call 11; refine HA.out.mono ?_; rintro e w1 ⟨rfl, hw1⟩; obtain ⟨g0, g1, hbw⟩ := heap2_of hw1; have i2 := row_of g0 2 av rfl; have j2 := row_of g1 2 au rfl; have i3 := row_of g0 3 fv rfl; have j3 := row_of g1 3 fu rfl; have i4 := row_of g0 4 mv rfl; have j4 := row_of g1 4 mu rfl; have HB1 := Lib.hid hbw; clear g0 g1 hbw) | (go_at_call 12; refine (equalArrs av au x.arrays y.arrays _ (H2.out.keep HB1.out) (G2.out.keep HB1.out)).mono ?_; rintro e w2 ⟨rfl, hw2⟩; have k3 := cell_keep hw2 i3; have l3 := cell_keep hw2 j3; have k4 := cell_keep hw2 i4; have l4 := cell_keep hw2 j4; have HB2 := Lib.hid (bcomp HB1.out hw2)) | (go_at_call 13; refine (equalFuncs fv fu x.funcs y.funcs _ (H3.out.keep HB2.out) (G3.out.keep HB2.out)).mono ?_; rintro e w3 ⟨rfl, hw3⟩; have n4 := cell_keep hw3 k4; have o4 := cell_keep hw3 l4; have HB3 := Lib.hid (bcomp HB2.out hw3)) | (go_at_call 14; refine (equalInstrs mv mu x.main y.main _ (H4.out.keep HB3.out) (G4.out.keep HB3.out)).mono ?_; rintro e w4 ⟨rfl, hw4⟩; have HB4 := Lib.hid (bcomp HB3.out hw4)))
  go_ret
  exact ⟨by rw [HV.out]; rfl, HB4.out⟩
end Go.Proofs.YtfdinncgncbmfaaDoor
