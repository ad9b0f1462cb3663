/- Contracts of the reference's Fields and Form. Condition: the instruction reads. Contract of the reference's Form: it says of an instruction what prog.formed says. Condition: the instruction reads. -/
import Derived.Test.YtgcfdbhpophnjaaDoorForm
import Derived.Test.YtgcfdbhpophnjaaDoorRefA

set_option linter.unusedVariables false
set_option linter.unusedSimpArgs false
namespace Go.Proofs.YtgcfdbhpophnjaaDoor
open Go.ChangeShapes Go.WideShapes Go.ChangeAt Go.RowKit
/-- The fields of the kinds, as the reference has them. -/
def formR : List (Bool × Bool × Int) := [(true, false, 1), (true, false, -1), (true, true, 1), (false, true, 2), (true, true, -1), (true, true, 0), (false, true, 1), (true, true, 1), (false, true, 0), (false, true, 1), (false, true, 0), (false, false, 0), (false, false, 1)]
theorem formR_is (k : Nat) (d nm : Bool) (n : Int) (h : formL[k]? = some (d, nm, n)) : ∃ m, formR[k]? = some (d, nm, m) ∧ (k ≠ 1 → m = n) := by
  have hk : k < 13 := by have := (List.getElem?_eq_some_iff.1 h).1; rw [formL_len] at this; exact this
  have : k = 0 ∨ k = 1 ∨ k = 2 ∨ k = 3 ∨ k = 4 ∨ k = 5 ∨ k = 6 ∨ k = 7 ∨ k = 8 ∨ k = 9 ∨ k = 10 ∨ k = 11 ∨ k = 12 := by omega
  rcases this with rfl | rfl | rfl | rfl | rfl | rfl | rfl | rfl | rfl | rfl | rfl | rfl | rfl <;> (cases h; exact ⟨_, rfl, by simp⟩)
set_option maxRecDepth 100000 in
set_option maxHeartbeats 3200000 in
theorem refFields (k : Nat) (f : Bool × Bool × Int) (h : formR[k]? = some f) (w : World) :
    Calls Tryd.prog 112 #[.int .u8 k] w fun e w' => e = .returned (.tuple #[.agg #[.bool f.1, .bool f.2.1, .int .i64 f.2.2], .bool true]) ∧ Below w.heap.size w w' := by
  have hk : k < 13 := by have := (List.getElem?_eq_some_iff.1 h).1; exact this
  have : k = 0 ∨ k = 1 ∨ k = 2 ∨ k = 3 ∨ k = 4 ∨ k = 5 ∨ k = 6 ∨ k = 7 ∨ k = 8 ∨ k = 9 ∨ k = 10 ∨ k = 11 ∨ k = 12 := by omega
  clear hk
  rcases this with rfl | rfl | rfl | rfl | rfl | rfl | rfl | rfl | rfl | rfl | rfl | rfl | rfl <;>
    (cases h
     go_enter Tryd.func112, Tryd.ntmps112
     go_wp2
     first
       | exact bodyPost_ret (v := .tuple #[.agg #[.bool true, .bool false, .int .i64 1], .bool true]) (by simp [results, Tryd.results112, go_sem]) rfl ⟨rfl, (Below.refl _ _).alloc (Nat.le_refl _) _⟩
       | exact bodyPost_ret (v := .tuple #[.agg #[.bool true, .bool false, .int .i64 (-1)], .bool true]) (by simp [results, Tryd.results112, go_sem]) rfl ⟨rfl, (Below.refl _ _).alloc (Nat.le_refl _) _⟩
       | exact bodyPost_ret (v := .tuple #[.agg #[.bool true, .bool true, .int .i64 1], .bool true]) (by simp [results, Tryd.results112, go_sem]) rfl ⟨rfl, (Below.refl _ _).alloc (Nat.le_refl _) _⟩
       | exact bodyPost_ret (v := .tuple #[.agg #[.bool false, .bool true, .int .i64 2], .bool true]) (by simp [results, Tryd.results112, go_sem]) rfl ⟨rfl, (Below.refl _ _).alloc (Nat.le_refl _) _⟩
       | exact bodyPost_ret (v := .tuple #[.agg #[.bool true, .bool true, .int .i64 (-1)], .bool true]) (by simp [results, Tryd.results112, go_sem]) rfl ⟨rfl, (Below.refl _ _).alloc (Nat.le_refl _) _⟩
       | exact bodyPost_ret (v := .tuple #[.agg #[.bool true, .bool true, .int .i64 0], .bool true]) (by simp [results, Tryd.results112, go_sem]) rfl ⟨rfl, (Below.refl _ _).alloc (Nat.le_refl _) _⟩
       | exact bodyPost_ret (v := .tuple #[.agg #[.bool false, .bool true, .int .i64 1], .bool true]) (by simp [results, Tryd.results112, go_sem]) rfl ⟨rfl, (Below.refl _ _).alloc (Nat.le_refl _) _⟩
       | exact bodyPost_ret (v := .tuple #[.agg #[.bool false, .bool true, .int .i64 0], .bool true]) (by simp [results, Tryd.results112, go_sem]) rfl ⟨rfl, (Below.refl _ _).alloc (Nat.le_refl _) _⟩
       | exact bodyPost_ret (v := .tuple #[.agg #[.bool false, .bool false, .int .i64 0], .bool true]) (by simp [results, Tryd.results112, go_sem]) rfl ⟨rfl, (Below.refl _ _).alloc (Nat.le_refl _) _⟩
       | exact bodyPost_ret (v := .tuple #[.agg #[.bool false, .bool false, .int .i64 1], .bool true]) (by simp [results, Tryd.results112, go_sem]) rfl ⟨rfl, (Below.refl _ _).alloc (Nat.le_refl _) _⟩)
set_option maxRecDepth 100000 in
set_option maxHeartbeats 1600000 in
theorem refFields_no (a : Int) (h : 13 ≤ a) (w : World) :
    Calls Tryd.prog 112 #[.int .u8 a] w fun e w' => e = .returned (.tuple #[.agg #[.bool false, .bool false, .int .i64 0], .bool false]) ∧ Below w.heap.size w w' := by
  have e0 : (a == 0) = false := by rw [beq_eq_false_iff_ne]; omega
  have e1 : (a == 1) = false := by rw [beq_eq_false_iff_ne]; omega
  have e2 : (a == 2) = false := by rw [beq_eq_false_iff_ne]; omega
  have e3 : (a == 3) = false := by rw [beq_eq_false_iff_ne]; omega
  have e4 : (a == 4) = false := by rw [beq_eq_false_iff_ne]; omega
  have e5 : (a == 5) = false := by rw [beq_eq_false_iff_ne]; omega
  have e6 : (a == 6) = false := by rw [beq_eq_false_iff_ne]; omega
  have e7 : (a == 7) = false := by rw [beq_eq_false_iff_ne]; omega
  have e8 : (a == 8) = false := by rw [beq_eq_false_iff_ne]; omega
  have e9 : (a == 9) = false := by rw [beq_eq_false_iff_ne]; omega
  have e10 : (a == 10) = false := by rw [beq_eq_false_iff_ne]; omega
  have e11 : (a == 11) = false := by rw [beq_eq_false_iff_ne]; omega
  have e12 : (a == 12) = false := by rw [beq_eq_false_iff_ne]; omega
  go_enter Tryd.func112, Tryd.ntmps112
  go_wp2
  exact bodyPost_ret (v := .tuple #[.agg #[.bool false, .bool false, .int .i64 0], .bool false]) (by simp [results, Tryd.results112, go_sem]) rfl ⟨rfl, (Below.refl _ _).alloc (Nat.le_refl _) _⟩
theorem field_casesR (d : Bool) (s : ByteArray) : (fieldB d s = false ∧ d = true ∧ named s = false) ∨ (fieldB d s = false ∧ d = false ∧ s.toList.isEmpty = false) ∨ (fieldB d s = true ∧ d = true ∧ named s = true) ∨ (fieldB d s = true ∧ d = false ∧ s.toList.isEmpty = true) := by
  cases d
  · cases h : s.toList.isEmpty <;> simp [fieldB, h]
  · cases h2 : named s <;> simp [fieldB, h2]
open Go.ChangeShapes Go.WideShapes Go.ChangeAt Go.RowKit
/-- Is the number of operands the one that the reference asks for? -/
def lenB (x : InstrD) (z : Int) : Bool := decide ((x.args.length : Int) = z)
theorem lenB_cases (x : InstrD) (z : Int) : (lenB x z = true ∧ ((x.args.length : Int) != z) = false) ∨ (lenB x z = false ∧ ((x.args.length : Int) != z) = true) := by
  unfold lenB
  by_cases h : (x.args.length : Int) = z <;> simp [h]
def rbad (d nm : Bool) (x : InstrD) (z : Int) : Bool := !(fieldB d x.dst && fieldB nm x.name && lenB x z)
theorem rbad_1 (d nm : Bool) (x : InstrD) (z : Int) (h : fieldB d x.dst = false) : rbad d nm x z = true := by unfold rbad; rw [h]; rfl
theorem rbad_2 (d nm : Bool) (x : InstrD) (z : Int) (_ : fieldB d x.dst = true) (h : fieldB nm x.name = false) : rbad d nm x z = true := by unfold rbad; rw [h]; cases fieldB d x.dst <;> rfl
theorem rbad_3 (d nm : Bool) (x : InstrD) (z : Int) (b : Bool) (h0 : fieldB d x.dst = true) (h : fieldB nm x.name = true) (h2 : lenB x z = b) : rbad d nm x z = !b := by unfold rbad; rw [h0, h, h2]; cases b <;> rfl
theorem formB_rbad (x : InstrD) (d nm : Bool) (n z : Int) (hf : formL[x.kind.toNat]? = some (d, nm, n)) (hz : lenB x z = countB x n) (h : rbad d nm x z = true) : formB x = false := by
  unfold rbad at h
  unfold formB
  rw [hf, ]
  simp only
  rw [← hz]
  revert h
  cases fieldB d x.dst <;> cases fieldB nm x.name <;> cases lenB x z <;> simp
theorem formB_rgood (x : InstrD) (d nm : Bool) (n z : Int) (hf : formL[x.kind.toNat]? = some (d, nm, n)) (ho : opB x = true) (hz : lenB x z = countB x n) (h : rbad d nm x z = false) : formB x = x.args.all argB := by
  unfold rbad at h
  unfold formB
  rw [hf]
  simp only
  rw [← hz, ho]
  revert h
  cases fieldB d x.dst <;> cases fieldB nm x.name <;> cases lenB x z <;> simp
theorem count_op (x : InstrD) (n : Int) (hw : wantZ x n = arityZ x.op) : lenB x (arityZ x.op) = countB x n := by
  have hz := arityZ_le x.op
  unfold lenB countB
  rw [hw]
  by_cases h : (x.args.length : Int) = arityZ x.op
  · have h3 : x.args.length ≤ 32 := by omega
    simp [h, h3]
  · have : ¬ arityZ x.op < 0 := by omega
    simp [h]; omega
theorem count_plain (x : InstrD) (n : Int) (h0 : 0 ≤ n) (h2 : n ≤ 2) (hw : wantZ x n = n) : lenB x n = countB x n := by
  unfold lenB countB
  rw [hw]
  by_cases h : (x.args.length : Int) = n
  · have h3 : x.args.length ≤ 32 := by omega
    simp [h, h3]
  · simp [h]; omega
theorem count_call (x : InstrD) (n : Int) (hn : n = -1) (hw : wantZ x n = n) (m : Int) (hm : m = min (x.args.length : Int) 32) : lenB x m = countB x n := by
  unfold lenB countB
  rw [hw, hn, hm]
  by_cases h : x.args.length ≤ 32
  · have : min (x.args.length : Int) 32 = x.args.length := by omega
    simp [h, this]
  · have : ¬ (x.args.length : Int) = min (x.args.length : Int) 32 := by omega
    simp [this, h]
theorem run_min2 {P : Program} (ats : Array TypeId) (ty : TypeId) (a b : Int) (w : World) : (Builtin.min_ ats ty #[.int .i64 a, .int .i64 b]).run P w = .ok (.int .i64 (min a b)) w := by
  have : (if b < a then b else a) = min a b := by split <;> omega
  simp [Builtin.min_, Builtin.min2, this]
set_option maxRecDepth 100000 in
set_option maxHeartbeats 12800000 in
theorem refForm (x : InstrD) (av : Value) (w : World) (h : RdInstr none w x av) :
    Calls Tryd.prog 98 #[instrV x av] w fun e w' => e = .returned (.bool (formB x)) ∧ Below w.heap.size w w' := by
  obtain ⟨h1, hk, ho, hli, hco, hds, hns⟩ := h
  obtain ⟨a, c, rfl, hlen, hr⟩ := id h1
  have HR := Lib.hid hr
  clear h1 hr
  obtain ⟨hk0, hk1⟩ := hk
  obtain ⟨ho0, ho1⟩ := ho
  by_cases hk13 : 13 ≤ x.kind
  · have HV : Hid (formB x = false) := by
      show _ = _
      unfold formB
      rw [List.getElem?_eq_none (by rw [formL_len]; omega)]
    have HF := Lib.hid (fun w => refFields_no x.kind hk13 w)
    go_enter Tryd.func98, Tryd.ntmps98
    go_wp2_with (go_at_call 112; refine (HF.out _).mono ?_; rintro e w1 ⟨rfl, hb⟩)
    go_ret
    exact ⟨by rw [HV.out]; rfl, ((Below.refl _ _).alloc (Nat.le_refl _) _).trans (hb.mono (by simp)) |>.alloc (by have := hb.size; simp at this; omega) _⟩
  · obtain ⟨⟨d, nm, n⟩, hf⟩ : ∃ f, formL[x.kind.toNat]? = some f := ⟨_, List.getElem?_eq_getElem (by rw [formL_len]; omega)⟩
    have HF0 := Lib.hid hf
    generalize hkn : x.kind.toNat = kn at *
    have ekn : x.kind = (kn : Int) := by omega
    obtain ⟨m, hfm, hmn⟩ := formR_is kn d nm n hf
    have HF := Lib.hid (fun w => refFields kn _ hfm w)
    have hnl := formL_n kn _ hf
    obtain ⟨hn1, hn2, hn3⟩ := hnl
    have hop := op_cases x n kn ekn ho0
    have HMN := Lib.hid hmn
    have HN3 := Lib.hid hn3
    clear hf hfm hmn hn3
    go_enter Tryd.func98, Tryd.ntmps98
    go_upto_region 1 with fail
    have hb0 : Below w.heap.size w (w.alloc (.cells #[.int .u8 x.kind, .int .u8 x.op, .string x.dst, .string x.name, .slice a x.args.length c, .int .i64 x.line, .int .i64 x.col] 60)) := (Below.refl _ _).alloc (Nat.le_refl _) _
    have G0 := heap_alloc_new w (.cells #[.int .u8 x.kind, .int .u8 x.op, .string x.dst, .string x.name, .slice a x.args.length c, .int .i64 x.line, .int .i64 x.col] 60)
    rw [ekn] at hb0 G0
    generalize w.alloc (.cells #[.int .u8 (kn : Int), .int .u8 x.op, .string x.dst, .string x.name, .slice a x.args.length c, .int .i64 x.line, .int .i64 x.col] 60) = W1 at *
    have i0 := row_of G0 0 (.int .u8 kn) rfl
    have i1 := row_of G0 1 (.int .u8 x.op) rfl
    have i2 := row_of G0 2 (.string x.dst) rfl
    have i3 := row_of G0 3 (.string x.name) rfl
    have i4 := row_of G0 4 (.slice a x.args.length c) rfl
    have HB0 := Lib.hid hb0
    clear hb0 G0
    have HD := Lib.hid ekn
    clear ekn hkn hk0 hk1 hk13
    go_upto_region 2 with (go_at_call 112; refine (HF.out _).mono ?_; rintro e w1 ⟨rfl, hb1⟩; have i0' := cell_keep hb1 i0; have i1' := cell_keep hb1 i1; have i2' := cell_keep hb1 i2; have i3' := cell_keep hb1 i3; have i4' := cell_keep hb1 i4; have HB1 := Lib.hid (bcomp HB0.out hb1); clear i0 i1 i2 i3 i4 hb1 HF)
    have hb1 : Below w1.heap.size w1 (w1.alloc (.cells #[.bool d, .bool nm, .int .i64 m] 167)) := (Below.refl _ _).alloc (Nat.le_refl _) _
    have G1 := heap_alloc_new w1 (.cells #[.bool d, .bool nm, .int .i64 m] 167)
    generalize w1.alloc (.cells #[.bool d, .bool nm, .int .i64 m] 167) = W2 at *
    have j0 := cell_keep hb1 i0'
    have j1 := cell_keep hb1 i1'
    have j2 := cell_keep hb1 i2'
    have j3 := cell_keep hb1 i3'
    have j4 := cell_keep hb1 i4'
    have k0 := row_of G1 0 (.bool d) rfl
    have k1 := row_of G1 1 (.bool nm) rfl
    have k2 := row_of G1 2 (.int .i64 m) rfl
    have HB := Lib.hid (bcomp HB1.out hb1)
    clear i0' i1' i2' i3' i4' hb1 G1
    generalize hN : w1.heap.size = N1 at *
    clear hN
    rcases hop with ⟨hv, rfl, ho2⟩ | ⟨hv, rfl, ho2⟩ | ⟨hv, rfl, ho2, ho3, hw⟩ | ⟨hv, hk1, ho2⟩ | ⟨hv, hk1, ho2, hw⟩
    · have HV := Lib.hid (formB_op x hv)
      clear hv
      go_wp2
      go_ret
      exact ⟨by rw [HV.out]; rfl, HB.out⟩
    · have HV := Lib.hid (formB_op x hv)
      clear hv
      go_wp2
      go_ret
      exact ⟨by rw [HV.out]; rfl, HB.out⟩
    rotate_left
    · have HV := Lib.hid (formB_op x hv)
      have hk2 : ((kn : Int) == 1) = false := by rw [beq_eq_false_iff_ne]; omega
      have ho4 : (x.op != 0) = true := by rw [bne_iff_ne]; exact ho2
      clear hv
      go_wp2
      go_ret
      exact ⟨by rw [HV.out]; rfl, HB.out⟩
    rotate_left
    · have c1 := fun w => refArity x.op w
      have hcnt := count_op x n hw
      generalize arityZ x.op = z at *
      have HA := Lib.hid c1
      have HO := Lib.hid (And.intro hv hcnt)
      clear c1 hv hw hcnt
      go_upto_region 13 with (go_at_call 85; refine (HA.out _).mono ?_; rintro e w2 ⟨rfl, rfl⟩)
      have l2 := j2
      have l3 := j3
      have l4 := j4
      have m0 := k0
      have m1 := k1
      have HC := HB
      clear j0 j1 j2 j3 j4 k0 k1 k2 HA HB
      generalize W2 = w2 at *
      go_cut [89] (fun cc wx => cc = .bool (rbad d nm x z) ∧ Below w2.heap.size w2 wx)
      case first =>
        have c1 := fun (w : World) => refNamed x.dst w hds
        have c2 := fun (w : World) => refNamed x.name w hns
        rcases field_casesR d x.dst with ⟨f1, rfl, f2⟩ | ⟨f1, rfl, f2⟩ | ⟨f1, rfl, f2⟩ | ⟨f1, rfl, f2⟩
        all_goals try rw [f2] at c1
        all_goals have C1 := Lib.hid c1
        all_goals clear c1
        iterate 2
          · have HV := Lib.hid (rbad_1 _ nm x z f1)
            clear f1
            go_wp2_with (go_at_call 97; refine (C1.out _).mono ?_; rintro e w3 ⟨rfl, hb3⟩; have p0 := cell_keep hb3 m0)
            go_meet
            exact ⟨by rw [HV.out], by first | exact hb3 | exact Below.refl _ _⟩
        all_goals
          have F1 := Lib.hid f1
          clear f1
          rcases field_casesR nm x.name with ⟨f1, rfl, f3⟩ | ⟨f1, rfl, f3⟩ | ⟨f1, rfl, f3⟩ | ⟨f1, rfl, f3⟩
          all_goals try rw [f3] at c2
          all_goals have C2 := Lib.hid c2
          all_goals clear c2
          iterate 2
            · have HV := Lib.hid (rbad_2 _ _ x z F1.out f1)
              clear f1
              go_wp2_with (first
                | (go_at_call_of 97 (Value.string x.dst); refine (C1.out _).mono ?_; rintro e w3 ⟨rfl, hb3⟩; have o2 := cell_keep hb3 l2; have o3 := cell_keep hb3 l3; have o4 := cell_keep hb3 l4; have p0 := cell_keep hb3 m0; have p1 := cell_keep hb3 m1)
                | (go_at_call_of 97 (Value.string x.name); refine (C2.out _).mono ?_; rintro e w4 ⟨rfl, hb4⟩; first | have o6 := cell_keep hb4 p1 | have o6 := cell_keep hb4 m1))
              go_meet
              exact ⟨by rw [HV.out], by first | exact bcomp hb3 hb4 | exact hb4 | exact hb3 | exact Below.refl _ _⟩
          all_goals
            have F2 := Lib.hid f1
            clear f1
            rcases lenB_cases x z with ⟨f4, f5⟩ | ⟨f4, f5⟩
            all_goals
              have HV := Lib.hid (rbad_3 _ _ x z _ F1.out F2.out f4)
              clear f4
              go_wp2_with (first
                | (go_at_call_of 97 (Value.string x.dst); refine (C1.out _).mono ?_; rintro e w3 ⟨rfl, hb3⟩; have o2 := cell_keep hb3 l2; have o3 := cell_keep hb3 l3; have o4 := cell_keep hb3 l4; have p0 := cell_keep hb3 m0; have p1 := cell_keep hb3 m1)
                | (go_at_call_of 97 (Value.string x.name); refine (C2.out _).mono ?_; rintro e w4 ⟨rfl, hb4⟩; (first | have o5 := cell_keep hb4 o4 | have o5 := cell_keep hb4 l4); (first | have o6 := cell_keep hb4 p1 | have o6 := cell_keep hb4 m1)))
              go_meet
              exact ⟨by rw [HV.out]; rfl, by first | exact bcomp hb3 hb4 | exact hb4 | exact hb3 | exact Below.refl _ _⟩
      case rest =>
        obtain ⟨rfl, hb2⟩ := hcut
        have n4 := cell_keep hb2 l4
        have HE := Lib.hid (bcomp HC.out hb2)
        have hf := HF0.out
        have hd := HD.out
        clear l2 l3 l4 m0 m1 hb2
        cases hfb : rbad d nm x z
        rotate_left
        · have HV := Lib.hid (formB_rbad x d nm _ z (by rw [hd]; exact hf) HO.out.2 hfb)
          clear hf hd
          go_wp2
          go_ret
          exact ⟨by rw [HV.out]; rfl, HE.out⟩
        have HV := Lib.hid (formB_rgood x d nm _ z (by rw [hd]; exact hf) HO.out.1 HO.out.2 hfb)
        clear hf hd
        go_wp2
        go_loopw [6] (fun i wr => ∃ k : Nat, k ≤ x.args.length ∧ i = .int .i64 k ∧ Hid (∀ (j : Nat) y, j < k → x.args[j]? = some y → argB y = true) ∧ wr.cell? ⟨w.heap.size, 4, none⟩ = some (.slice a x.args.length c) ∧ Below w.heap.size w wr) (fun i _ => x.args.length - (intOf i).toNat)
        case atStart => exact ⟨0, Nat.zero_le _, rfl, (fun j y h => by omega), n4, HE.out⟩
        case round =>
          obtain ⟨k, hk, rfl, hq, hc4, hb⟩ := hrel
          clear n4
          by_cases hlt : k < x.args.length
          · obtain ⟨y, hy⟩ : ∃ y, x.args[k]? = some y := ⟨_, List.getElem?_eq_getElem hlt⟩
            obtain ⟨b, o, rfl, _, c0, c1, hu, hns2⟩ := HR.out k y hy
            have d0 := cell_keepB hb c0 (block_lt_of_cell c0)
            have d1 := cell_keepB hb c1 (block_lt_of_cell c1)
            have HY := Lib.hid hy
            have hlt2 : (k : Int) < (x.args.length : Int) := by omega
            have HQ : Hid (argB y = true → ∀ (j : Nat) y, j < k + 1 → x.args[j]? = some y → argB y = true) := by
              intro hay j y' hj hy'
              rcases Nat.lt_or_ge j k with h | h
              · exact hq.out j y' h hy'
              · obtain rfl : j = k := by omega
                rw [hy] at hy'; cases hy'; exact hay
            have H4 := Lib.hid hc4
            have c2 := fun (w : World) => refNamed y.name w hns2
            clear c0 c1 hy
            rcases arg_cases y with ⟨f1, f2⟩ | ⟨f1, f2, f3⟩ | ⟨f1, f2, f3, f4⟩ | ⟨f1, f2, f3, f4⟩
            all_goals
              have HA := Lib.hid f1
              clear f1
              first | rw [f3] at c2 | skip
              have C2 := Lib.hid c2
              clear c2
              first | clear f3 | skip
              go_wp2_with (go_at_call 97; refine (C2.out _).mono ?_; rintro e w1' ⟨rfl, hb1'⟩; have hc' := heap1_of hb1'; have gg := row_of hc'.1 1 (.int .u64 y.num) rfl; have hb3 := hb.trans (hc'.2.mono hb.size); have g4 := cell_keep hc'.2 H4.out; clear hc' hb1')
              first
                | (go_roundw
                   case rel => first | exact ⟨k + 1, by omega, by go_num, HQ.out HA.out, g4, hb3⟩ | exact ⟨k + 1, by omega, by go_num, HQ.out HA.out, cell_keep ((Below.refl _ _).alloc (Nat.le_refl _) _) H4.out, hb.alloc hb.size _⟩
                   case measure => simp [intOf]; omega)
                | (go_ret
                   exact ⟨by rw [HV.out, all_miss HY.out HA.out]; rfl, by first | exact hb3 | exact hb.alloc hb.size _⟩)
          · obtain rfl : k = x.args.length := by omega
            go_wp2
            go_ret
            exact ⟨by rw [HV.out, all_hit (fun j y hj => hq.out j y (List.getElem?_eq_some_iff.1 hj).1 hj)]; rfl, hb⟩
    · have hk2 : ((kn : Int) == 1) = false := by rw [beq_eq_false_iff_ne]; omega
      obtain rfl := HMN.out hk1
      by_cases hk4 : kn = 4
      · subst hk4
        have hn : m = -1 := HN3.out.2 rfl
        obtain ⟨z, hz⟩ : ∃ z : Int, z = min (x.args.length : Int) 32 := ⟨_, rfl⟩
        have hcnt := count_call x m hn hw z hz
        have HO := Lib.hid (And.intro hv hcnt)
        have HZ := Lib.hid hz
        have hmin : ∀ w, (Builtin.min_ #[3, 3] 3 #[.int .i64 (x.args.length : Int), .int .i64 32]).run Tryd.prog w = .ok (.int .i64 z) w := by
          intro w
          rw [hz]
          exact run_min2 _ _ _ _ w
        clear hv hw hcnt hn hz
        go_upto_region 13 with fail
        have l2 := j2
        have l3 := j3
        have l4 := j4
        have m0 := k0
        have m1 := k1
        have HC := HB
        clear j0 j1 j2 j3 j4 k0 k1 k2 HB hmin
        generalize W2 = w2 at *
        go_cut [89] (fun cc wx => cc = .bool (rbad d nm x z) ∧ Below w2.heap.size w2 wx)
        case first =>
          have c1 := fun (w : World) => refNamed x.dst w hds
          have c2 := fun (w : World) => refNamed x.name w hns
          rcases field_casesR d x.dst with ⟨f1, rfl, f2⟩ | ⟨f1, rfl, f2⟩ | ⟨f1, rfl, f2⟩ | ⟨f1, rfl, f2⟩
          all_goals try rw [f2] at c1
          all_goals have C1 := Lib.hid c1
          all_goals clear c1
          iterate 2
            · have HV := Lib.hid (rbad_1 _ nm x z f1)
              clear f1
              go_wp2_with (go_at_call 97; refine (C1.out _).mono ?_; rintro e w3 ⟨rfl, hb3⟩; have p0 := cell_keep hb3 m0)
              go_meet
              exact ⟨by rw [HV.out], by first | exact hb3 | exact Below.refl _ _⟩
          all_goals
            have F1 := Lib.hid f1
            clear f1
            rcases field_casesR nm x.name with ⟨f1, rfl, f3⟩ | ⟨f1, rfl, f3⟩ | ⟨f1, rfl, f3⟩ | ⟨f1, rfl, f3⟩
            all_goals try rw [f3] at c2
            all_goals have C2 := Lib.hid c2
            all_goals clear c2
            iterate 2
              · have HV := Lib.hid (rbad_2 _ _ x z F1.out f1)
                clear f1
                go_wp2_with (first
                  | (go_at_call_of 97 (Value.string x.dst); refine (C1.out _).mono ?_; rintro e w3 ⟨rfl, hb3⟩; have o2 := cell_keep hb3 l2; have o3 := cell_keep hb3 l3; have o4 := cell_keep hb3 l4; have p0 := cell_keep hb3 m0; have p1 := cell_keep hb3 m1)
                  | (go_at_call_of 97 (Value.string x.name); refine (C2.out _).mono ?_; rintro e w4 ⟨rfl, hb4⟩; first | have o6 := cell_keep hb4 p1 | have o6 := cell_keep hb4 m1))
                go_meet
                exact ⟨by rw [HV.out], by first | exact bcomp hb3 hb4 | exact hb4 | exact hb3 | exact Below.refl _ _⟩
            all_goals
              have F2 := Lib.hid f1
              clear f1
              rcases lenB_cases x z with ⟨f4, f5⟩ | ⟨f4, f5⟩
              all_goals
                have HV := Lib.hid (rbad_3 _ _ x z _ F1.out F2.out f4)
                clear f4
                go_wp2_with (first
                  | (go_at_call_of 97 (Value.string x.dst); refine (C1.out _).mono ?_; rintro e w3 ⟨rfl, hb3⟩; have o2 := cell_keep hb3 l2; have o3 := cell_keep hb3 l3; have o4 := cell_keep hb3 l4; have p0 := cell_keep hb3 m0; have p1 := cell_keep hb3 m1)
                  | (go_at_call_of 97 (Value.string x.name); refine (C2.out _).mono ?_; rintro e w4 ⟨rfl, hb4⟩; (first | have o5 := cell_keep hb4 o4 | have o5 := cell_keep hb4 l4); (first | have o6 := cell_keep hb4 p1 | have o6 := cell_keep hb4 m1)))
                go_meet
                exact ⟨by rw [HV.out]; rfl, by first | exact bcomp hb3 hb4 | exact hb4 | exact hb3 | exact Below.refl _ _⟩
        case rest =>
          obtain ⟨rfl, hb2⟩ := hcut
          have n4 := cell_keep hb2 l4
          have HE := Lib.hid (bcomp HC.out hb2)
          have hf := HF0.out
          have hd := HD.out
          clear l2 l3 l4 m0 m1 hb2
          cases hfb : rbad d nm x z
          rotate_left
          · have HV := Lib.hid (formB_rbad x d nm _ z (by rw [hd]; exact hf) HO.out.2 hfb)
            clear hf hd
            go_wp2
            go_ret
            exact ⟨by rw [HV.out]; rfl, HE.out⟩
          have HV := Lib.hid (formB_rgood x d nm _ z (by rw [hd]; exact hf) HO.out.1 HO.out.2 hfb)
          clear hf hd
          go_wp2
          go_loopw [6] (fun i wr => ∃ k : Nat, k ≤ x.args.length ∧ i = .int .i64 k ∧ Hid (∀ (j : Nat) y, j < k → x.args[j]? = some y → argB y = true) ∧ wr.cell? ⟨w.heap.size, 4, none⟩ = some (.slice a x.args.length c) ∧ Below w.heap.size w wr) (fun i _ => x.args.length - (intOf i).toNat)
          case atStart => exact ⟨0, Nat.zero_le _, rfl, (fun j y h => by omega), n4, HE.out⟩
          case round =>
            obtain ⟨k, hk, rfl, hq, hc4, hb⟩ := hrel
            clear n4
            by_cases hlt : k < x.args.length
            · obtain ⟨y, hy⟩ : ∃ y, x.args[k]? = some y := ⟨_, List.getElem?_eq_getElem hlt⟩
              obtain ⟨b, o, rfl, _, c0, c1, hu, hns2⟩ := HR.out k y hy
              have d0 := cell_keepB hb c0 (block_lt_of_cell c0)
              have d1 := cell_keepB hb c1 (block_lt_of_cell c1)
              have HY := Lib.hid hy
              have hlt2 : (k : Int) < (x.args.length : Int) := by omega
              have HQ : Hid (argB y = true → ∀ (j : Nat) y, j < k + 1 → x.args[j]? = some y → argB y = true) := by
                intro hay j y' hj hy'
                rcases Nat.lt_or_ge j k with h | h
                · exact hq.out j y' h hy'
                · obtain rfl : j = k := by omega
                  rw [hy] at hy'; cases hy'; exact hay
              have H4 := Lib.hid hc4
              have c2 := fun (w : World) => refNamed y.name w hns2
              clear c0 c1 hy
              rcases arg_cases y with ⟨f1, f2⟩ | ⟨f1, f2, f3⟩ | ⟨f1, f2, f3, f4⟩ | ⟨f1, f2, f3, f4⟩
              all_goals
                have HA := Lib.hid f1
                clear f1
                first | rw [f3] at c2 | skip
                have C2 := Lib.hid c2
                clear c2
                first | clear f3 | skip
                go_wp2_with (go_at_call 97; refine (C2.out _).mono ?_; rintro e w1' ⟨rfl, hb1'⟩; have hc' := heap1_of hb1'; have gg := row_of hc'.1 1 (.int .u64 y.num) rfl; have hb3 := hb.trans (hc'.2.mono hb.size); have g4 := cell_keep hc'.2 H4.out; clear hc' hb1')
                first
                  | (go_roundw
                     case rel => first | exact ⟨k + 1, by omega, by go_num, HQ.out HA.out, g4, hb3⟩ | exact ⟨k + 1, by omega, by go_num, HQ.out HA.out, cell_keep ((Below.refl _ _).alloc (Nat.le_refl _) _) H4.out, hb.alloc hb.size _⟩
                     case measure => simp [intOf]; omega)
                  | (go_ret
                     exact ⟨by rw [HV.out, all_miss HY.out HA.out]; rfl, by first | exact hb3 | exact hb.alloc hb.size _⟩)
            · obtain rfl : k = x.args.length := by omega
              go_wp2
              go_ret
              exact ⟨by rw [HV.out, all_hit (fun j y hj => hq.out j y (List.getElem?_eq_some_iff.1 hj).1 hj)]; rfl, hb⟩
      · have hk5 : ((kn : Int) == 4) = false := by rw [beq_eq_false_iff_ne]; omega
        have hn : ¬ m = -1 := fun e => hk4 (HN3.out.1 e)
        obtain ⟨z, hz⟩ : ∃ z, z = m := ⟨_, rfl⟩
        subst hz
        have hcnt := count_plain x z (by omega) hn2 hw
        have HO := Lib.hid (And.intro hv hcnt)
        clear hv hw hcnt hn
        go_upto_region 13 with fail
        have l2 := j2
        have l3 := j3
        have l4 := j4
        have m0 := k0
        have m1 := k1
        have HC := HB
        clear j0 j1 j2 j3 j4 k0 k1 k2 HB
        generalize W2 = w2 at *
        go_cut [89] (fun cc wx => cc = .bool (rbad d nm x z) ∧ Below w2.heap.size w2 wx)
        case first =>
          have c1 := fun (w : World) => refNamed x.dst w hds
          have c2 := fun (w : World) => refNamed x.name w hns
          rcases field_casesR d x.dst with ⟨f1, rfl, f2⟩ | ⟨f1, rfl, f2⟩ | ⟨f1, rfl, f2⟩ | ⟨f1, rfl, f2⟩
          all_goals try rw [f2] at c1
          all_goals have C1 := Lib.hid c1
          all_goals clear c1
          iterate 2
            · have HV := Lib.hid (rbad_1 _ nm x z f1)
              clear f1
              go_wp2_with (go_at_call 97; refine (C1.out _).mono ?_; rintro e w3 ⟨rfl, hb3⟩; have p0 := cell_keep hb3 m0)
              go_meet
              exact ⟨by rw [HV.out], by first | exact hb3 | exact Below.refl _ _⟩
          all_goals
            have F1 := Lib.hid f1
            clear f1
            rcases field_casesR nm x.name with ⟨f1, rfl, f3⟩ | ⟨f1, rfl, f3⟩ | ⟨f1, rfl, f3⟩ | ⟨f1, rfl, f3⟩
            all_goals try rw [f3] at c2
            all_goals have C2 := Lib.hid c2
            all_goals clear c2
            iterate 2
              · have HV := Lib.hid (rbad_2 _ _ x z F1.out f1)
                clear f1
                go_wp2_with (first
                  | (go_at_call_of 97 (Value.string x.dst); refine (C1.out _).mono ?_; rintro e w3 ⟨rfl, hb3⟩; have o2 := cell_keep hb3 l2; have o3 := cell_keep hb3 l3; have o4 := cell_keep hb3 l4; have p0 := cell_keep hb3 m0; have p1 := cell_keep hb3 m1)
                  | (go_at_call_of 97 (Value.string x.name); refine (C2.out _).mono ?_; rintro e w4 ⟨rfl, hb4⟩; first | have o6 := cell_keep hb4 p1 | have o6 := cell_keep hb4 m1))
                go_meet
                exact ⟨by rw [HV.out], by first | exact bcomp hb3 hb4 | exact hb4 | exact hb3 | exact Below.refl _ _⟩
            all_goals
              have F2 := Lib.hid f1
              clear f1
              rcases lenB_cases x z with ⟨f4, f5⟩ | ⟨f4, f5⟩
              all_goals
                have HV := Lib.hid (rbad_3 _ _ x z _ F1.out F2.out f4)
                clear f4
                go_wp2_with (first
                  | (go_at_call_of 97 (Value.string x.dst); refine (C1.out _).mono ?_; rintro e w3 ⟨rfl, hb3⟩; have o2 := cell_keep hb3 l2; have o3 := cell_keep hb3 l3; have o4 := cell_keep hb3 l4; have p0 := cell_keep hb3 m0; have p1 := cell_keep hb3 m1)
                  | (go_at_call_of 97 (Value.string x.name); refine (C2.out _).mono ?_; rintro e w4 ⟨rfl, hb4⟩; (first | have o5 := cell_keep hb4 o4 | have o5 := cell_keep hb4 l4); (first | have o6 := cell_keep hb4 p1 | have o6 := cell_keep hb4 m1)))
                go_meet
                exact ⟨by rw [HV.out]; rfl, by first | exact bcomp hb3 hb4 | exact hb4 | exact hb3 | exact Below.refl _ _⟩
        case rest =>
          obtain ⟨rfl, hb2⟩ := hcut
          have n4 := cell_keep hb2 l4
          have HE := Lib.hid (bcomp HC.out hb2)
          have hf := HF0.out
          have hd := HD.out
          clear l2 l3 l4 m0 m1 hb2
          cases hfb : rbad d nm x z
          rotate_left
          · have HV := Lib.hid (formB_rbad x d nm _ z (by rw [hd]; exact hf) HO.out.2 hfb)
            clear hf hd
            go_wp2
            go_ret
            exact ⟨by rw [HV.out]; rfl, HE.out⟩
          have HV := Lib.hid (formB_rgood x d nm _ z (by rw [hd]; exact hf) HO.out.1 HO.out.2 hfb)
          clear hf hd
          go_wp2
          go_loopw [6] (fun i wr => ∃ k : Nat, k ≤ x.args.length ∧ i = .int .i64 k ∧ Hid (∀ (j : Nat) y, j < k → x.args[j]? = some y → argB y = true) ∧ wr.cell? ⟨w.heap.size, 4, none⟩ = some (.slice a x.args.length c) ∧ Below w.heap.size w wr) (fun i _ => x.args.length - (intOf i).toNat)
          case atStart => exact ⟨0, Nat.zero_le _, rfl, (fun j y h => by omega), n4, HE.out⟩
          case round =>
            obtain ⟨k, hk, rfl, hq, hc4, hb⟩ := hrel
            clear n4
            by_cases hlt : k < x.args.length
            · obtain ⟨y, hy⟩ : ∃ y, x.args[k]? = some y := ⟨_, List.getElem?_eq_getElem hlt⟩
              obtain ⟨b, o, rfl, _, c0, c1, hu, hns2⟩ := HR.out k y hy
              have d0 := cell_keepB hb c0 (block_lt_of_cell c0)
              have d1 := cell_keepB hb c1 (block_lt_of_cell c1)
              have HY := Lib.hid hy
              have hlt2 : (k : Int) < (x.args.length : Int) := by omega
              have HQ : Hid (argB y = true → ∀ (j : Nat) y, j < k + 1 → x.args[j]? = some y → argB y = true) := by
                intro hay j y' hj hy'
                rcases Nat.lt_or_ge j k with h | h
                · exact hq.out j y' h hy'
                · obtain rfl : j = k := by omega
                  rw [hy] at hy'; cases hy'; exact hay
              have H4 := Lib.hid hc4
              have c2 := fun (w : World) => refNamed y.name w hns2
              clear c0 c1 hy
              rcases arg_cases y with ⟨f1, f2⟩ | ⟨f1, f2, f3⟩ | ⟨f1, f2, f3, f4⟩ | ⟨f1, f2, f3, f4⟩
              all_goals
                have HA := Lib.hid f1
                clear f1
                first | rw [f3] at c2 | skip
                have C2 := Lib.hid c2
                clear c2
                first | clear f3 | skip
                go_wp2_with (go_at_call 97; refine (C2.out _).mono ?_; rintro e w1' ⟨rfl, hb1'⟩; have hc' := heap1_of hb1'; have gg := row_of hc'.1 1 (.int .u64 y.num) rfl; have hb3 := hb.trans (hc'.2.mono hb.size); have g4 := cell_keep hc'.2 H4.out; clear hc' hb1')
                first
                  | (go_roundw
                     case rel => first | exact ⟨k + 1, by omega, by go_num, HQ.out HA.out, g4, hb3⟩ | exact ⟨k + 1, by omega, by go_num, HQ.out HA.out, cell_keep ((Below.refl _ _).alloc (Nat.le_refl _) _) H4.out, hb.alloc hb.size _⟩
                     case measure => simp [intOf]; omega)
                  | (go_ret
                     exact ⟨by rw [HV.out, all_miss HY.out HA.out]; rfl, by first | exact hb3 | exact hb.alloc hb.size _⟩)
            · obtain rfl : k = x.args.length := by omega
              go_wp2
              go_ret
              exact ⟨by rw [HV.out, all_hit (fun j y hj => hq.out j y (List.getElem?_eq_some_iff.1 hj).1 hj)]; rfl, hb⟩
end Go.Proofs.YtgcfdbhpophnjaaDoor
