/- Contract of prog.formed: whether an instruction has the form of its kind. Conditions: the instruction reads; the two package tables read as laid. -/

import Derived.Test.YtgcfdbhpophnjaaDoorTurn
import Derived.Deep.DeepCutAuto
import Derived.Deep.RegionWith
set_option linter.unusedVariables false
set_option linter.unusedSimpArgs false
namespace Go.Proofs.YtgcfdbhpophnjaaDoor
open Go.ChangeShapes Go.WideShapes Go.ChangeAt Go.RowKit
theorem formL_len : formL.length = 13 := rfl
theorem field_cases (d : Bool) (s : ByteArray) : (fieldB d s = false ∧ d = true ∧ named s = false) ∨ (fieldB d s = false ∧ d = false ∧ named s = true) ∨ (fieldB d s = false ∧ d = false ∧ named s = false ∧ s.toList.isEmpty = false) ∨
    (fieldB d s = true ∧ d = true ∧ named s = true) ∨ (fieldB d s = true ∧ d = false ∧ named s = false ∧ s.toList.isEmpty = true) := by
  cases d
  · cases h : s.toList.isEmpty
    · cases h2 : named s <;> simp [fieldB, h]
    · simp [fieldB, h, named_empty h]
  · cases h2 : named s <;> simp [fieldB, h2]
theorem formL_n (k : Nat) (f : Bool × Bool × Int) (h : formL[k]? = some f) : -1 ≤ f.2.2 ∧ f.2.2 ≤ 2 ∧ (f.2.2 = -1 ↔ k = 4) := by
  have hk : k < 13 := by have := (List.getElem?_eq_some_iff.1 h).1; rw [formL_len] at this; exact this
  have : k = 0 ∨ k = 1 ∨ k = 2 ∨ k = 3 ∨ k = 4 ∨ k = 5 ∨ k = 6 ∨ k = 7 ∨ k = 8 ∨ k = 9 ∨ k = 10 ∨ k = 11 ∨ k = 12 := by omega
  rcases this with rfl | rfl | rfl | rfl | rfl | rfl | rfl | rfl | rfl | rfl | rfl | rfl | rfl <;> (cases h; simp)
theorem op_cases (x : InstrD) (n : Int) (k : Nat) (hk : x.kind = (k : Int)) (h0 : 0 ≤ x.op) : (opB x = false ∧ k = 1 ∧ x.op < 2) ∨ (opB x = false ∧ k = 1 ∧ 20 < x.op) ∨ (opB x = true ∧ k = 1 ∧ 2 ≤ x.op ∧ x.op ≤ 20 ∧ wantZ x n = arityZ x.op) ∨ (opB x = false ∧ k ≠ 1 ∧ x.op ≠ 0) ∨ (opB x = true ∧ k ≠ 1 ∧ x.op = 0 ∧ wantZ x n = n) := by
  unfold opB wantZ
  by_cases h : k = 1
  · have : x.kind = 1 := by omega
    rw [if_pos this, if_pos this]
    by_cases h1 : x.op < 2
    · left; (simp [h, h1] <;> omega)
    · by_cases h2 : 20 < x.op
      · right; left; (simp [h, h2] <;> omega)
      · right; right; left; (simp [h] <;> omega)
  · have : ¬ x.kind = 1 := by omega
    rw [if_neg this, if_neg this]
    by_cases h1 : x.op = 0
    · right; right; right; right; simp [h, h1]
    · right; right; right; left; exact ⟨by simp [h1], h, h1⟩
theorem formB_op (x : InstrD) (h : opB x = false) : formB x = false := by
  unfold formB
  split
  · rfl
  · simp [h]
theorem arg_cases (y : ArgD) : (argB y = true ∧ y.name.toList.isEmpty = true) ∨ (argB y = false ∧ y.name.toList.isEmpty = false ∧ named y.name = false) ∨ (argB y = true ∧ y.name.toList.isEmpty = false ∧ named y.name = true ∧ (y.num != 0) = false) ∨ (argB y = false ∧ y.name.toList.isEmpty = false ∧ named y.name = true ∧ (y.num != 0) = true) := by
  unfold argB
  cases h1 : y.name.toList.isEmpty
  · cases h2 : named y.name
    · simp
    · cases h3 : (y.num != 0)
      · right; right; left
        have : y.num = 0 := by simpa using h3
        simp [this]
      · right; right; right
        have : ¬ y.num = 0 := by simpa using h3
        simp [this]
  · simp
theorem all_miss {l : List ArgD} {k : Nat} {y : ArgD} (h : l[k]? = some y) (ha : argB y = false) : l.all argB = false := by
  rw [List.all_eq_false]
  exact ⟨y, List.mem_of_getElem? h, by rw [ha]; simp⟩
theorem all_hit {l : List ArgD} (h : ∀ (k : Nat) y, l[k]? = some y → argB y = true) : l.all argB = true := by
  rw [List.all_eq_true]
  intro y hy
  obtain ⟨k, hk⟩ := List.getElem?_of_mem hy
  exact h k y hk
def fbad (d nm : Bool) (x : InstrD) : Bool := !(fieldB d x.dst && fieldB nm x.name)
theorem fbad_left (d nm : Bool) (x : InstrD) (h1 : fieldB d x.dst = false) : fbad d nm x = true := by unfold fbad; rw [h1]; rfl
theorem fbad_is (d nm : Bool) (x : InstrD) (a b : Bool) (h1 : fieldB d x.dst = a) (h2 : fieldB nm x.name = b) : fbad d nm x = !(a && b) := by unfold fbad; rw [h1, h2]
def cbad (x : InstrD) (z : Int) : Bool := !((decide (z < 0) || decide ((x.args.length : Int) = z)) && decide (x.args.length ≤ 32))
theorem cbad_cases (x : InstrD) (z : Int) : (cbad x z = true ∧ z < 0 ∧ 32 < (x.args.length : Int)) ∨ (cbad x z = false ∧ z < 0 ∧ (x.args.length : Int) ≤ 32) ∨ (cbad x z = true ∧ 0 ≤ z ∧ ((x.args.length : Int) != z) = true) ∨
    (cbad x z = true ∧ 0 ≤ z ∧ ((x.args.length : Int) != z) = false ∧ 32 < (x.args.length : Int)) ∨ (cbad x z = false ∧ 0 ≤ z ∧ ((x.args.length : Int) != z) = false ∧ (x.args.length : Int) ≤ 32) := by
  unfold cbad
  by_cases h1 : z < 0 <;> by_cases h2 : (x.args.length : Int) = z <;> by_cases h3 : x.args.length ≤ 32 <;> simp [h1, h2, h3] <;> omega
theorem decide_nonneg (z : Int) : (z < 0 → decide (0 ≤ z) = false) ∧ (0 ≤ z → decide (0 ≤ z) = true) := ⟨fun h => decide_eq_false (by omega), fun h => decide_eq_true h⟩
theorem formB_bad (x : InstrD) (d nm : Bool) (n : Int) (hf : formL[x.kind.toNat]? = some (d, nm, n)) (h : fbad d nm x = true) : formB x = false := by
  unfold formB fbad at *
  rw [hf]
  simp only
  cases h1 : fieldB d x.dst <;> cases h2 : fieldB nm x.name <;> simp_all
theorem formB_count (x : InstrD) (d nm : Bool) (n z : Int) (hf : formL[x.kind.toNat]? = some (d, nm, n)) (hz : wantZ x n = z) (h : cbad x z = true) : formB x = false := by
  have : countB x n = false := by
    unfold cbad at h
    unfold countB
    rw [hz]
    revert h
    cases (decide (z < 0) || decide ((x.args.length : Int) = z)) <;> cases decide (x.args.length ≤ 32) <;> simp
  unfold formB
  rw [hf]
  simp [this]
theorem formB_rest (x : InstrD) (d nm : Bool) (n z : Int) (hf : formL[x.kind.toNat]? = some (d, nm, n)) (ho : opB x = true) (hz : wantZ x n = z) (hb : fbad d nm x = false) (h : cbad x z = false) : formB x = x.args.all argB := by
  have h1 : countB x n = true := by
    unfold cbad at h
    unfold countB
    rw [hz]
    revert h
    cases (decide (z < 0) || decide ((x.args.length : Int) = z)) <;> cases decide (x.args.length ≤ 32) <;> simp
  have h2 : fieldB d x.dst = true ∧ fieldB nm x.name = true := by
    unfold fbad at hb
    simpa using hb
  unfold formB
  rw [hf]
  simp [h1, h2.1, h2.2, ho]
set_option maxRecDepth 100000 in
set_option maxHeartbeats 12800000 in
theorem formed_any (x : InstrD) (av : Value) (w : World) (h : RdInstr none w x av) (hL : Laid w) :
    Calls Tryd.prog 108 #[instrV x av] w fun e w' => e = .returned (.bool (formB x)) ∧ Below w.heap.size w w' := by
  obtain ⟨h1, hk, ho, hli, hco, hds, hns⟩ := h
  obtain ⟨a, c, rfl, hlen, hr⟩ := id h1
  have H1 := Lib.hid h1
  have HR := Lib.hid hr
  have HLd := Lib.hid hL
  clear h1 hr hL
  obtain ⟨hk0, hk1⟩ := hk
  obtain ⟨ho0, ho1⟩ := ho
  have hwk : wrap64 x.kind = x.kind := by unfold wrap64; omega
  by_cases hk13 : 13 ≤ x.kind
  · have HV : Hid (formB x = false) := by
      show _ = _
      unfold formB
      rw [List.getElem?_eq_none (by rw [formL_len]; omega)]
    go_enter Tryd.func108, Tryd.ntmps108
    go_wp2
    go_ret
    exact ⟨by rw [HV.out]; rfl, (Below.refl _ _).alloc (Nat.le_refl _) _⟩
  · obtain ⟨⟨d, nm, n⟩, hf⟩ : ∃ f, formL[x.kind.toNat]? = some f := ⟨_, List.getElem?_eq_getElem (by rw [formL_len]; omega)⟩
    obtain ⟨g0, g1, g2⟩ := HLd.out.forms _ _ hf
    have HF := Lib.hid hf
    generalize hkn : x.kind.toNat = kn at *
    have ekn : x.kind = (kn : Int) := by omega
    have hkn13 : kn < 13 := by omega
    go_enter Tryd.func108, Tryd.ntmps108
    go_upto_region 1 with fail
    have hb0 : Below w.heap.size w (w.alloc (.cells #[.int .u8 x.kind, .int .u8 x.op, .string x.dst, .string x.name, .slice a x.args.length c, .int .i64 x.line, .int .i64 x.col] 60)) := (Below.refl _ _).alloc (Nat.le_refl _) _
    have G0 := heap_alloc_new w (.cells #[.int .u8 x.kind, .int .u8 x.op, .string x.dst, .string x.name, .slice a x.args.length c, .int .i64 x.line, .int .i64 x.col] 60)
    rw [ekn] at hb0 G0
    generalize w.alloc (.cells #[.int .u8 (kn : Int), .int .u8 x.op, .string x.dst, .string x.name, .slice a x.args.length c, .int .i64 x.line, .int .i64 x.col] 60) = W1 at *
    have i0 := row_of G0 0 (.int .u8 kn) rfl
    have i1 := row_of G0 1 (.int .u8 x.op) rfl
    have i2 := row_of G0 2 (.string x.dst) rfl
    have i3 := row_of G0 3 (.string x.name) rfl
    have i4 := row_of G0 4 (.slice a x.args.length c) rfl
    have g0' := cell_keep hb0 g0
    have g1' := cell_keep hb0 g1
    have g2' := cell_keep hb0 g2
    have HB0 := Lib.hid hb0
    clear g0 g1 g2 hf hb0 G0
    go_upto_region 4 with fail
    have hb1 : Below W1.heap.size W1 (W1.alloc (.cells #[.bool d, .bool nm, .int .i64 n] 174)) := (Below.refl _ _).alloc (Nat.le_refl _) _
    have G1 := heap_alloc_new W1 (.cells #[.bool d, .bool nm, .int .i64 n] 174)
    generalize W1.alloc (.cells #[.bool d, .bool nm, .int .i64 n] 174) = W2 at *
    have j0 := cell_keep hb1 i0
    have j1 := cell_keep hb1 i1
    have j2 := cell_keep hb1 i2
    have j3 := cell_keep hb1 i3
    have j4 := cell_keep hb1 i4
    have k0 := row_of G1 0 (.bool d) rfl
    have k1 := row_of G1 1 (.bool nm) rfl
    have k2 := row_of G1 2 (.int .i64 n) rfl
    have HB := Lib.hid (bcomp HB0.out hb1)
    clear i0 i1 i2 i3 i4 g0' g1' g2' hb1 G1
    have HD := Lib.hid ekn
    clear ekn hkn hwk hk0 hk1 hk13
    generalize hN : W1.heap.size = N1 at *
    clear hN
    have hnl := formL_n kn _ HF.out
    obtain ⟨hn1, hn2, hn3⟩ := hnl
    have hop := op_cases x n kn HD.out ho0
    rcases hop with ⟨hv, rfl, ho2⟩ | ⟨hv, rfl, ho2⟩ | ⟨hv, rfl, ho2, ho3, hw⟩ | ⟨hv, hk1, ho2⟩ | ⟨hv, hk1, ho2, hw⟩
    · have HV := Lib.hid (formB_op x hv)
      clear hv
      go_wp2
      go_ret
      exact ⟨by rw [HV.out]; rfl, HB.out⟩
    · have HV := Lib.hid (formB_op x hv)
      clear hv
      go_wp2
      go_ret
      exact ⟨by rw [HV.out]; rfl, HB.out⟩
    rotate_left
    · have HV := Lib.hid (formB_op x hv)
      have hk2 : ((kn : Int) == 1) = false := by rw [beq_eq_false_iff_ne]; omega
      have ho4 : (x.op != 0) = true := by rw [bne_iff_ne]; exact ho2
      clear hv
      go_wp2
      go_ret
      exact ⟨by rw [HV.out]; rfl, HB.out⟩
    rotate_left
    · have c1 := fun w => arity_of x.op ho0 w
      have hz := arityZ_le x.op
      obtain ⟨hz1, hz2⟩ := hz
      generalize arityZ x.op = z at *
      have HA := Lib.hid c1
      have HO := Lib.hid (And.intro hv hw)
      clear c1 hv hw
      go_upto_region 11 with (go_at_call 82; refine (HA.out _).mono ?_; rintro e w1 ⟨rfl, hb⟩)
      have l0 := cell_keep hb j0
      have l1 := cell_keep hb j1
      have l2 := cell_keep hb j2
      have l3 := cell_keep hb j3
      have l4 := cell_keep hb j4
      have m0 := cell_keep hb k0
      have m1 := cell_keep hb k1
      have HC := Lib.hid (bcomp HB.out hb)
      clear j0 j1 j2 j3 j4 k0 k1 k2 hb HA HB
      go_cut [70] (fun cc wx => cc = .bool (fbad d nm x) ∧ Below w1.heap.size w1 wx)
      case first =>
        have HL1 := Lib.hid (HLd.out.keep HC.out)
        have e2 := ext_cell l2
        have e3 := ext_cell l3
        have q0 := ext_cell m0
        have q1 := ext_cell m1
        clear l0 l1 l2 l3 l4 m0 m1
        have c1 := fun (w : World) (hL : Laid w) => named_any x.dst w hds hL
        have c2 := fun (w : World) (hL : Laid w) => named_any x.name w hns hL
        rcases field_cases d x.dst with ⟨f1, rfl, f2⟩ | ⟨f1, rfl, f2⟩ | ⟨f1, rfl, f2, f3⟩ | ⟨f1, rfl, f2⟩ | ⟨f1, rfl, f2, f3⟩
        all_goals rw [f2] at c1
        all_goals have C1 := Lib.hid c1
        all_goals clear c1 f2
        iterate 3
          · have HV := Lib.hid (fbad_left _ nm x f1)
            clear f1
            (refine wp_region_calm (by kernel_rfl) (by kernel_rfl) ?_; (repeat (go_big_quiet_step ((go_at_call 107; exact calls_calm (C1.out _ (HL1.out.ext _)))))); refine wpQuiet_nil ?_; intro wc hwc)
            go_wp2_with fail
            go_meet
            exact ⟨by rw [HV.out], hwc⟩
        all_goals
          have F1 := Lib.hid f1
          clear f1
          rcases field_cases nm x.name with ⟨f1, rfl, f2⟩ | ⟨f1, rfl, f2⟩ | ⟨f1, rfl, f2, f4⟩ | ⟨f1, rfl, f2⟩ | ⟨f1, rfl, f2, f4⟩
          all_goals rw [f2] at c2
          all_goals have C2 := Lib.hid c2
          all_goals clear c2 f2
          all_goals
            have HV := Lib.hid (fbad_is _ _ x _ _ F1.out f1)
            clear f1
            (refine wp_region_calm (by kernel_rfl) (by kernel_rfl) ?_; (repeat (go_big_quiet_step ((first | (go_at_call_of 107 (Value.string x.dst); exact calls_calm (C1.out _ (HL1.out.ext _))) | (go_at_call_of 107 (Value.string x.name); exact calls_calm (C2.out _ (HL1.out.ext _))))))); refine wpQuiet_nil ?_; intro wc hwc)
            go_wp2_with fail
            go_meet
            exact ⟨by rw [HV.out]; rfl, hwc⟩
      case rest =>
        obtain ⟨rfl, hb2⟩ := hcut
        have n4 := cell_keep hb2 l4
        have HE := Lib.hid (bcomp HC.out hb2)
        clear l0 l1 l2 l3 l4 m0 m1 hb2
        cases hfb : fbad d nm x
        rotate_left
        · have HV := Lib.hid (formB_bad x d nm _ (by rw [HD.out]; exact HF.out) hfb)
          go_wp2
          go_ret
          exact ⟨by rw [HV.out]; rfl, HE.out⟩
        have HFB := Lib.hid hfb
        go_upto_region 13 with fail
        clear hfb
        go_cut [85] (fun cc wx => cc = .bool (cbad x z) ∧ wx = wc)
        case first =>
          rcases cbad_cases x z with ⟨f1, f2, f3⟩ | ⟨f1, f2, f3⟩ | ⟨f1, f2, f3⟩ | ⟨f1, f2, f3, f4⟩ | ⟨f1, f2, f3, f4⟩
          all_goals
            first | (exfalso; omega) | skip
          all_goals
            have HV := Lib.hid f1
            have f5 := decide_nonneg z
            clear f1
            first | (have f6 := f5.1 f2; clear f5) | (have f6 := f5.2 f2; clear f5)
            go_wp2_with fail
            go_meet
            exact ⟨by first | (rw [HV.out, decide_eq_false (by omega)]; done) | (rw [HV.out, decide_eq_true (by omega)]; done) | rw [HV.out], rfl⟩
        case rest =>
          obtain ⟨rfl, rfl⟩ := hcut
          cases hcb : cbad x z
          rotate_left
          · have HV := Lib.hid (formB_count x d nm _ z (by rw [HD.out]; exact HF.out) HO.out.2 hcb)
            go_wp2
            go_ret
            exact ⟨by rw [HV.out]; rfl, HE.out⟩
          have HV := Lib.hid (formB_rest x d nm _ z (by rw [HD.out]; exact HF.out) HO.out.1 HO.out.2 HFB.out hcb)
          go_wp2
          go_loopw [89] (fun i wr => ∃ k : Nat, k ≤ x.args.length ∧ i = .int .i64 k ∧ Hid (∀ (j : Nat) y, j < k → x.args[j]? = some y → argB y = true) ∧ Below w.heap.size w wr) (fun i _ => x.args.length - (intOf i).toNat)
          case atStart => exact ⟨0, Nat.zero_le _, rfl, (fun j y h => by omega), HE.out⟩
          case round =>
            obtain ⟨k, hk, rfl, hq, hb⟩ := hrel
            by_cases hlt : k < x.args.length
            · obtain ⟨y, hy⟩ : ∃ y, x.args[k]? = some y := ⟨_, List.getElem?_eq_getElem hlt⟩
              obtain ⟨b, o, rfl, _, c0, c1, hu, hns2⟩ := HR.out k y hy
              have d0 := cell_keepB hb c0 (block_lt_of_cell c0)
              have d1 := cell_keepB hb c1 (block_lt_of_cell c1)
              have HY := Lib.hid hy
              have hlt2 : (k : Int) < (x.args.length : Int) := by omega
              have HQ : Hid (argB y = true → ∀ (j : Nat) y, j < k + 1 → x.args[j]? = some y → argB y = true) := by
                intro hay j y' hj hy'
                rcases Nat.lt_or_ge j k with h | h
                · exact hq.out j y' h hy'
                · obtain rfl : j = k := by omega
                  rw [hy] at hy'; cases hy'; exact hay
              have HLr := Lib.hid (fun A : Obj => (HLd.out.keep hb).keep ((Below.refl _ _).alloc (Nat.le_refl _) A))
              have c2 := fun (w : World) (hL : Laid w) => named_any y.name w hns2 hL
              clear c0 c1 hy
              rcases arg_cases y with ⟨f1, f2⟩ | ⟨f1, f2, f3⟩ | ⟨f1, f2, f3, f4⟩ | ⟨f1, f2, f3, f4⟩
              all_goals
                have HA := Lib.hid f1
                clear f1
                first | rw [f3] at c2 | skip
                have C2 := Lib.hid c2
                clear c2
                first | clear f3 | skip
                go_wp2_with (go_at_call 107; refine (C2.out _ (HLr.out _)).mono ?_; rintro e w1' ⟨rfl, hb1'⟩; have hc' := heap1_of hb1'; have gg := row_of hc'.1 1 (.int .u64 y.num) rfl; have hb3 := hb.trans (hc'.2.mono hb.size); clear hc' hb1')
                first
                  | (go_roundw
                     case rel => exact ⟨k + 1, by omega, by go_num, HQ.out HA.out, by first | exact hb3 | exact hb.alloc hb.size _⟩
                     case measure => simp [intOf]; omega)
                  | (go_ret
                     exact ⟨by rw [HV.out, all_miss HY.out HA.out]; rfl, by first | exact hb3 | exact hb.alloc hb.size _⟩)
            · obtain rfl : k = x.args.length := by omega
              go_wp2
              go_ret
              exact ⟨by rw [HV.out, all_hit (fun j y hj => hq.out j y (List.getElem?_eq_some_iff.1 hj).1 hj)]; rfl, hb⟩
    · have hk2 : ((kn : Int) == 1) = false := by rw [beq_eq_false_iff_ne]; omega
      obtain ⟨z, hz⟩ : ∃ z, z = n := ⟨_, rfl⟩
      subst hz
      have HO := Lib.hid (And.intro hv hw)
      clear hv hw
      go_upto_region 11 with fail
      rename_i W2' _ _ _
      have l0 := j0
      have l1 := j1
      have l2 := j2
      have l3 := j3
      have l4 := j4
      have m0 := k0
      have m1 := k1
      have HC := HB
      clear j0 j1 j2 j3 j4 k0 k1 k2 HB
      generalize W2 = w1 at *
      go_cut [70] (fun cc wx => cc = .bool (fbad d nm x) ∧ Below w1.heap.size w1 wx)
      case first =>
        have HL1 := Lib.hid (HLd.out.keep HC.out)
        have e2 := ext_cell l2
        have e3 := ext_cell l3
        have q0 := ext_cell m0
        have q1 := ext_cell m1
        clear l0 l1 l2 l3 l4 m0 m1
        have c1 := fun (w : World) (hL : Laid w) => named_any x.dst w hds hL
        have c2 := fun (w : World) (hL : Laid w) => named_any x.name w hns hL
        rcases field_cases d x.dst with ⟨f1, rfl, f2⟩ | ⟨f1, rfl, f2⟩ | ⟨f1, rfl, f2, f3⟩ | ⟨f1, rfl, f2⟩ | ⟨f1, rfl, f2, f3⟩
        all_goals rw [f2] at c1
        all_goals have C1 := Lib.hid c1
        all_goals clear c1 f2
        iterate 3
          · have HV := Lib.hid (fbad_left _ nm x f1)
            clear f1
            (refine wp_region_calm (by kernel_rfl) (by kernel_rfl) ?_; (repeat (go_big_quiet_step ((go_at_call 107; exact calls_calm (C1.out _ (HL1.out.ext _)))))); refine wpQuiet_nil ?_; intro wc hwc)
            go_wp2_with fail
            go_meet
            exact ⟨by rw [HV.out], hwc⟩
        all_goals
          have F1 := Lib.hid f1
          clear f1
          rcases field_cases nm x.name with ⟨f1, rfl, f2⟩ | ⟨f1, rfl, f2⟩ | ⟨f1, rfl, f2, f4⟩ | ⟨f1, rfl, f2⟩ | ⟨f1, rfl, f2, f4⟩
          all_goals rw [f2] at c2
          all_goals have C2 := Lib.hid c2
          all_goals clear c2 f2
          all_goals
            have HV := Lib.hid (fbad_is _ _ x _ _ F1.out f1)
            clear f1
            (refine wp_region_calm (by kernel_rfl) (by kernel_rfl) ?_; (repeat (go_big_quiet_step ((first | (go_at_call_of 107 (Value.string x.dst); exact calls_calm (C1.out _ (HL1.out.ext _))) | (go_at_call_of 107 (Value.string x.name); exact calls_calm (C2.out _ (HL1.out.ext _))))))); refine wpQuiet_nil ?_; intro wc hwc)
            go_wp2_with fail
            go_meet
            exact ⟨by rw [HV.out]; rfl, hwc⟩
      case rest =>
        obtain ⟨rfl, hb2⟩ := hcut
        have n4 := cell_keep hb2 l4
        have HE := Lib.hid (bcomp HC.out hb2)
        clear l0 l1 l2 l3 l4 m0 m1 hb2
        cases hfb : fbad d nm x
        rotate_left
        · have HV := Lib.hid (formB_bad x d nm _ (by rw [HD.out]; exact HF.out) hfb)
          go_wp2
          go_ret
          exact ⟨by rw [HV.out]; rfl, HE.out⟩
        have HFB := Lib.hid hfb
        go_upto_region 13 with fail
        clear hfb
        go_cut [85] (fun cc wx => cc = .bool (cbad x z) ∧ wx = wc)
        case first =>
          rcases cbad_cases x z with ⟨f1, f2, f3⟩ | ⟨f1, f2, f3⟩ | ⟨f1, f2, f3⟩ | ⟨f1, f2, f3, f4⟩ | ⟨f1, f2, f3, f4⟩
          all_goals
            first | (exfalso; omega) | skip
          all_goals
            have HV := Lib.hid f1
            have f5 := decide_nonneg z
            clear f1
            first | (have f6 := f5.1 f2; clear f5) | (have f6 := f5.2 f2; clear f5)
            go_wp2_with fail
            go_meet
            exact ⟨by first | (rw [HV.out, decide_eq_false (by omega)]; done) | (rw [HV.out, decide_eq_true (by omega)]; done) | rw [HV.out], rfl⟩
        case rest =>
          obtain ⟨rfl, rfl⟩ := hcut
          cases hcb : cbad x z
          rotate_left
          · have HV := Lib.hid (formB_count x d nm _ z (by rw [HD.out]; exact HF.out) HO.out.2 hcb)
            go_wp2
            go_ret
            exact ⟨by rw [HV.out]; rfl, HE.out⟩
          have HV := Lib.hid (formB_rest x d nm _ z (by rw [HD.out]; exact HF.out) HO.out.1 HO.out.2 HFB.out hcb)
          go_wp2
          go_loopw [89] (fun i wr => ∃ k : Nat, k ≤ x.args.length ∧ i = .int .i64 k ∧ Hid (∀ (j : Nat) y, j < k → x.args[j]? = some y → argB y = true) ∧ Below w.heap.size w wr) (fun i _ => x.args.length - (intOf i).toNat)
          case atStart => exact ⟨0, Nat.zero_le _, rfl, (fun j y h => by omega), HE.out⟩
          case round =>
            obtain ⟨k, hk, rfl, hq, hb⟩ := hrel
            by_cases hlt : k < x.args.length
            · obtain ⟨y, hy⟩ : ∃ y, x.args[k]? = some y := ⟨_, List.getElem?_eq_getElem hlt⟩
              obtain ⟨b, o, rfl, _, c0, c1, hu, hns2⟩ := HR.out k y hy
              have d0 := cell_keepB hb c0 (block_lt_of_cell c0)
              have d1 := cell_keepB hb c1 (block_lt_of_cell c1)
              have HY := Lib.hid hy
              have hlt2 : (k : Int) < (x.args.length : Int) := by omega
              have HQ : Hid (argB y = true → ∀ (j : Nat) y, j < k + 1 → x.args[j]? = some y → argB y = true) := by
                intro hay j y' hj hy'
                rcases Nat.lt_or_ge j k with h | h
                · exact hq.out j y' h hy'
                · obtain rfl : j = k := by omega
                  rw [hy] at hy'; cases hy'; exact hay
              have HLr := Lib.hid (fun A : Obj => (HLd.out.keep hb).keep ((Below.refl _ _).alloc (Nat.le_refl _) A))
              have c2 := fun (w : World) (hL : Laid w) => named_any y.name w hns2 hL
              clear c0 c1 hy
              rcases arg_cases y with ⟨f1, f2⟩ | ⟨f1, f2, f3⟩ | ⟨f1, f2, f3, f4⟩ | ⟨f1, f2, f3, f4⟩
              all_goals
                have HA := Lib.hid f1
                clear f1
                first | rw [f3] at c2 | skip
                have C2 := Lib.hid c2
                clear c2
                first | clear f3 | skip
                go_wp2_with (go_at_call 107; refine (C2.out _ (HLr.out _)).mono ?_; rintro e w1' ⟨rfl, hb1'⟩; have hc' := heap1_of hb1'; have gg := row_of hc'.1 1 (.int .u64 y.num) rfl; have hb3 := hb.trans (hc'.2.mono hb.size); clear hc' hb1')
                first
                  | (go_roundw
                     case rel => exact ⟨k + 1, by omega, by go_num, HQ.out HA.out, by first | exact hb3 | exact hb.alloc hb.size _⟩
                     case measure => simp [intOf]; omega)
                  | (go_ret
                     exact ⟨by rw [HV.out, all_miss HY.out HA.out]; rfl, by first | exact hb3 | exact hb.alloc hb.size _⟩)
            · obtain rfl : k = x.args.length := by omega
              go_wp2
              go_ret
              exact ⟨by rw [HV.out, all_hit (fun j y hj => hq.out j y (List.getElem?_eq_some_iff.1 hj).1 hj)]; rfl, hb⟩
end Go.Proofs.YtgcfdbhpophnjaaDoor
