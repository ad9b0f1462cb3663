/- Contract of (*checker).targets: the first fault of what instructions name. Conditions: the checker's map of parameters and the labels are what they are named; the instructions read. -/
import Derived.Test.YtfdinncgncbmfaaDoorTurn
import Derived.Deep.CutRange
set_option linter.unusedVariables false
set_option linter.unusedSimpArgs false
namespace Go.Proofs.YtfdinncgncbmfaaDoor
open Go.ChangeShapes Go.WideShapes Go.ChangeAt Go.RowKit
theorem int_zero (w : World) : (zeroValue 3).run Tryd.prog w = .ok (.int .i64 0) w := by kernel_rfl
theorem tkind_cases (z : Int) : ((z == 8) = true) ∨ ((z == 8) = false ∧ (z == 9) = true) ∨ ((z == 8) = false ∧ (z == 9) = false ∧ (z == 4) = true) ∨ ((z == 8) = false ∧ (z == 9) = false ∧ (z == 4) = false) := by
  cases z == 8 <;> cases z == 9 <;> cases z == 4 <;> simp
section
variable (params : List (ByteArray × Int)) (labels : List ByteArray) (x : InstrD)
theorem targetF_lab (h : (x.kind == 8) = true ∨ (x.kind == 9) = true) : targetF params labels x = needF (inL x.name labels) x.line x.col 6 := by unfold targetF; rw [if_pos (by simpa using h)]
theorem targetF_call (h : (x.kind == 4) = true) : targetF params labels x = (needF (atL x.name params).isSome x.line x.col 6).or (needF (decide ((atL x.name params).getD 0 = x.args.length)) x.line x.col 4) := by
  unfold targetF; simp at h; rw [if_neg (by omega), if_pos h]
theorem targetF_no (h8 : (x.kind == 8) = false) (h9 : (x.kind == 9) = false) (h4 : (x.kind == 4) = false) : targetF params labels x = none := by
  unfold targetF; simp at h8 h9 h4; rw [if_neg (by omega), if_neg (by omega)]
end
set_option maxRecDepth 100000 in
set_option maxHeartbeats 12800000 in
theorem targets_any (cb bp lb : Nat) (cv : Value) (params : List (ByteArray × Int)) (labels : List ByteArray) (code : List InstrD) (w : World)
    (h8 : w.cell? ⟨cb, 8, none⟩ = some (.map (some bp))) (hp : IntsIs w bp params) (hd : params.Pairwise (fun p q => p.1 ≠ q.1)) (hl : SetIs w lb labels) (hcode : RdInstrs none w cv code) :
    Calls Tryd.prog 46 #[.pointer (some ⟨cb, 0, none⟩), cv, .map (some lb)] w fun e w' => e = endF (targetsF params labels code) ∧ Below w.heap.size w w' := by
  obtain ⟨a, c, rfl, hlen, hr⟩ := hcode
  have HR := Lib.hid hr
  have HP := Lib.hid hp
  have HD := Lib.hid hd
  have HL := Lib.hid hl
  have H8 := Lib.hid h8
  clear hr hp hd hl h8
  go_enter Tryd.func46, Tryd.ntmps46
  go_wp2
  go_loopw [12] (fun i wr => ∃ k : Nat, k ≤ code.length ∧ i = .int .i64 k ∧ Hid (targetsF params labels code = firstF (fun _ x => targetF params labels x) (code.take k) (code.drop k)) ∧ Below w.heap.size w wr) (fun i _ => code.length - (intOf i).toNat)
  case atStart => exact ⟨0, Nat.zero_le _, rfl, rfl, Below.refl _ _⟩
  case round =>
    obtain ⟨k, hk, rfl, hq, hb⟩ := hrel
    by_cases hlt : k < code.length
    rotate_left
    · obtain rfl : k = code.length := by omega
      have HN : Hid (targetsF params labels code = none) := firstF_end hq.out
      go_wp2
      go_end0
      exact ⟨by rw [HN.out]; rfl, hb⟩
    obtain ⟨x, hx⟩ : ∃ x, code[k]? = some x := ⟨_, List.getElem?_eq_getElem hlt⟩
    obtain ⟨b, o, av2, rfl, _, c0, c1, c2, c3, c4, c5, c6, hri⟩ := HR.out k x hx
    obtain ⟨aa, ca, rfl, _⟩ := id hri.1
    have d0 := cell_keep hb c0
    have d1 := cell_keep hb c1
    have d2 := cell_keep hb c2
    have d3 := cell_keep hb c3
    have d4 := cell_keep hb c4
    have d5 := cell_keep hb c5
    have d6 := cell_keep hb c6
    have hns : x.name.size ≤ maxLen := hri.2.2.2.2.2.2
    have HX := Lib.hid hx
    have hlt2 : (k : Int) < (code.length : Int) := by omega
    clear c0 c1 c2 c3 c4 c5 c6 hri hx
    go_upto_region 3 with fail
    have hb4 : Below wr.heap.size wr (wr.alloc (.cells #[.int .u8 x.kind, .int .u8 x.op, .string x.dst, .string x.name, .slice aa x.args.length ca, .int .i64 x.line, .int .i64 x.col] 37)) := (Below.refl _ _).alloc (Nat.le_refl _) _
    have G4 := heap_alloc_new wr (.cells #[.int .u8 x.kind, .int .u8 x.op, .string x.dst, .string x.name, .slice aa x.args.length ca, .int .i64 x.line, .int .i64 x.col] 37)
    generalize wr.alloc (.cells #[.int .u8 x.kind, .int .u8 x.op, .string x.dst, .string x.name, .slice aa x.args.length ca, .int .i64 x.line, .int .i64 x.col] 37) = W4 at *
    have i0' := row_of G4 0 (.int .u8 x.kind) rfl
    have i3' := row_of G4 3 (.string x.name) rfl
    have i4' := row_of G4 4 (.slice aa x.args.length ca) rfl
    have i5' := row_of G4 5 (.int .i64 x.line) rfl
    have i6' := row_of G4 6 (.int .i64 x.col) rfl
    have hb5 : Below w.heap.size w W4 := bcomp hb hb4
    have HB5 := Lib.hid hb5
    have HL4 := Lib.hid (HL.out.keep hb5)
    have HP4 := Lib.hid (HP.out.keep hb5)
    have c8 := cell_keep hb5 H8.out
    generalize wr.heap.size = wn at *
    clear d0 d1 d2 d3 d4 d5 d6 hb4 G4 hb5 hb
    rcases tkind_cases x.kind with h8 | ⟨h8, h9⟩ | ⟨h8, h9, h4⟩ | ⟨h8, h9, h4⟩
    iterate 2
      · have HKF : Hid (targetF params labels x = needF (inL x.name labels) x.line x.col 6) := by show _ = _; first | exact targetF_lab params labels x (.inl h8) | exact targetF_lab params labels x (.inr h9)
        cases hin : inL x.name labels
        · have HIN := Lib.hid hin
          clear hin
          go_wp2_with (at_lookup; refine wpList_set_lookup rfl _ _ _ rfl _ _ Tryd.underlying9 Tryd.underlying87 (names_zero _) lb labels rfl x.name rfl hns HL4.out ?_; rw [HIN.out])
          refine (need_bad x.line x.col 6 _).mono ?_
          rintro e w6 ⟨rfl, hb6⟩
          have hF2 := firstF_fault hq.out HX.out (by rw [HKF.out, HIN.out]; rfl)
          refine ⟨rfl, ?_, bcomp HB5.out hb6⟩
          unfold targetsF; rw [hF2]; rfl
        · have HIN := Lib.hid hin
          clear hin
          go_wp2_with (at_lookup; refine wpList_set_lookup rfl _ _ _ rfl _ _ Tryd.underlying9 Tryd.underlying87 (names_zero _) lb labels rfl x.name rfl hns HL4.out ?_; rw [HIN.out])
          refine (need_ok x.line x.col 6 _).mono ?_
          rintro e w6 ⟨rfl, hb6⟩
          have hQ : Hid (targetsF params labels code = firstF (fun _ x => targetF params labels x) (code.take (k + 1)) (code.drop (k + 1))) := firstF_ok hq.out HX.out (by rw [HKF.out, HIN.out]; rfl)
          have HB6 := Lib.hid (bcomp HB5.out hb6)
          clear hb6
          go_wp2_with fail
          go_roundw
          case rel => exact ⟨k + 1, by omega, by go_num, hQ, HB6.out⟩
          case measure => simp [intOf]; omega
    · have HKF := Lib.hid (targetF_call params labels x h4)
      obtain ⟨n, hn⟩ : ∃ n, (atL x.name params).getD 0 = n := ⟨_, rfl⟩
      have HN := Lib.hid hn
      cases his : (atL x.name params).isSome
      · have HIS := Lib.hid his
        have e0 := ext_cell c8
        have e3 := ext_cell i3'
        have hlook := ints_look Tryd.underlying9 Tryd.underlying88 int_zero HP4.out HD.out x.name hns n _ hn his
        have I := Lib.hid (And.intro i5' i6')
        clear his hn i5' i6' i3' c8
        go_upto_region 8 with fail
        clear i0' i4'
        (refine wp_region_calm (by kernel_rfl) (by kernel_rfl) ?_; (repeat (go_big_quiet_step (fail))); refine wpQuiet_nil ?_; intro wc hwc)
        clear e0 e3 hlook
        have j5 := cell_keep hwc I.out.1
        have j6 := cell_keep hwc I.out.2
        go_wp2_with fail
        refine (need_bad x.line x.col 6 _).mono ?_
        rintro e w6 ⟨rfl, hb6⟩
        have hF2 := firstF_fault hq.out HX.out (by rw [HKF.out, HIS.out]; rfl)
        refine ⟨rfl, ?_, bcomp (bcomp HB5.out hwc) hb6⟩
        unfold targetsF; rw [hF2]; rfl
      · have HIS := Lib.hid his
        have e0 := ext_cell c8
        have e3 := ext_cell i3'
        have hlook := ints_look Tryd.underlying9 Tryd.underlying88 int_zero HP4.out HD.out x.name hns n _ hn his
        have I := Lib.hid (And.intro i4' (And.intro i5' i6'))
        clear his hn i5' i6' i3' i4' c8
        go_upto_region 8 with fail
        clear i0'
        (refine wp_region_calm (by kernel_rfl) (by kernel_rfl) ?_; (repeat (go_big_quiet_step (fail))); refine wpQuiet_nil ?_; intro wc hwc)
        clear e0 e3 hlook
        have j4 := cell_keep hwc I.out.1
        have j5 := cell_keep hwc I.out.2.1
        have j6 := cell_keep hwc I.out.2.2
        have J := Lib.hid (And.intro j4 (And.intro j5 j6))
        clear I j4
        go_wp2_with fail
        refine (need_ok x.line x.col 6 _).mono ?_
        rintro e w6 ⟨rfl, hb6⟩
        have k4 := cell_keep hb6 J.out.1
        have k5 := cell_keep hb6 J.out.2.1
        have k6 := cell_keep hb6 J.out.2.2
        clear j5 j6
        by_cases hnl : n = (x.args.length : Int)
        · have hE : (n == (x.args.length : Int)) = true := by rw [beq_iff_eq]; exact hnl
          have HNL := Lib.hid hnl
          clear hnl
          go_wp2_with fail
          refine (need_ok x.line x.col 4 _).mono ?_
          rintro e w7 ⟨rfl, hb7⟩
          have hQ : Hid (targetsF params labels code = firstF (fun _ x => targetF params labels x) (code.take (k + 1)) (code.drop (k + 1))) := firstF_ok hq.out HX.out (by rw [HKF.out, HIS.out, HN.out, decide_eq_true HNL.out]; rfl)
          have HB7 := Lib.hid (bcomp (bcomp (bcomp HB5.out hwc) hb6) hb7)
          clear k4 k5 k6 hE
          go_wp2_with fail
          go_roundw
          case rel => exact ⟨k + 1, by omega, by go_num, hQ, HB7.out⟩
          case measure => simp [intOf]; omega
        · have hE : (n == (x.args.length : Int)) = false := by rw [beq_eq_false_iff_ne]; exact hnl
          have HNL := Lib.hid hnl
          clear hnl
          go_wp2_with fail
          refine (need_bad x.line x.col 4 _).mono ?_
          rintro e w7 ⟨rfl, hb7⟩
          have hF2 := firstF_fault hq.out HX.out (by rw [HKF.out, HIS.out, HN.out, decide_eq_false HNL.out]; rfl)
          refine ⟨rfl, ?_, bcomp (bcomp (bcomp HB5.out hwc) hb6) hb7⟩
          unfold targetsF; rw [hF2]; rfl
    · have HKF := Lib.hid (targetF_no params labels x h8 h9 h4)
      have hQ : Hid (targetsF params labels code = firstF (fun _ x => targetF params labels x) (code.take (k + 1)) (code.drop (k + 1))) := firstF_ok hq.out HX.out HKF.out
      go_wp2_with fail
      go_roundw
      case rel => exact ⟨k + 1, by omega, by go_num, hQ, HB5.out⟩
      case measure => simp [intOf]; omega
end Go.Proofs.YtfdinncgncbmfaaDoor
