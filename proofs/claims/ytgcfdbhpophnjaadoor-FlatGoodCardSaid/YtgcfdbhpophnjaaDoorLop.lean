/- Contract of (*checker).targets: the first fault of what instructions name. Conditions: the checker's map of parameters and the labels are what they are named; the instructions read. Contracts of prog.calls, slices.IndexFunc at functions, (*checker).loops: does a function call itself, directly or through others. Conditions: the functions read; each function that is called is there. Contract of (*checker).loops: does a function call itself, directly or through others. Conditions: the functions read; each function that is called is there. -/
import Derived.Test.YtgcfdbhpophnjaaDoorTurn
import Derived.Deep.CutRange
import Derived.Test.YtgcfdbhpophnjaaDoorRefA
import Derived.Deep.LoopGhost
import Derived.Maps.AppendAt

set_option linter.unusedVariables false
set_option linter.unusedSimpArgs false
namespace Go.Proofs.YtgcfdbhpophnjaaDoor
open Go.ChangeShapes Go.WideShapes Go.ChangeAt Go.RowKit
theorem int_zero (w : World) : (zeroValue 3).run Tryd.prog w = .ok (.int .i64 0) w := by kernel_rfl
theorem tkind_cases (z : Int) : ((z == 8) = true) ∨ ((z == 8) = false ∧ (z == 9) = true) ∨ ((z == 8) = false ∧ (z == 9) = false ∧ (z == 4) = true) ∨ ((z == 8) = false ∧ (z == 9) = false ∧ (z == 4) = false) := by
  cases z == 8 <;> cases z == 9 <;> cases z == 4 <;> simp
section
variable (params : List (ByteArray × Int)) (labels : List ByteArray) (x : InstrD)
theorem targetF_lab (h : (x.kind == 8) = true ∨ (x.kind == 9) = true) : targetF params labels x = needF (inL x.name labels) x.line x.col 6 := by unfold targetF; rw [if_pos (by simpa using h)]
theorem targetF_call (h : (x.kind == 4) = true) : targetF params labels x = (needF (atL x.name params).isSome x.line x.col 6).or (needF (decide ((atL x.name params).getD 0 = x.args.length)) x.line x.col 4) := by
  unfold targetF; simp at h; rw [if_neg (by omega), if_pos h]
theorem targetF_no (h8 : (x.kind == 8) = false) (h9 : (x.kind == 9) = false) (h4 : (x.kind == 4) = false) : targetF params labels x = none := by
  unfold targetF; simp at h8 h9 h4; rw [if_neg (by omega), if_neg (by omega)]
end
set_option maxRecDepth 100000 in
set_option maxHeartbeats 12800000 in
theorem targets_any (cb bp lb : Nat) (cv : Value) (params : List (ByteArray × Int)) (labels : List ByteArray) (code : List InstrD) (w : World)
    (h8 : w.cell? ⟨cb, 8, none⟩ = some (.map (some bp))) (hp : IntsIs w bp params) (hd : params.Pairwise (fun p q => p.1 ≠ q.1)) (hl : SetIs w lb labels) (hcode : RdInstrs none w cv code) :
    Calls Tryd.prog 90 #[.pointer (some ⟨cb, 0, none⟩), cv, .map (some lb)] w fun e w' => e = endF (targetsF params labels code) ∧ Below w.heap.size w w' := by
  obtain ⟨a, c, rfl, hlen, hr⟩ := hcode
  have HR := Lib.hid hr
  have HP := Lib.hid hp
  have HD := Lib.hid hd
  have HL := Lib.hid hl
  have H8 := Lib.hid h8
  clear hr hp hd hl h8
  go_enter Tryd.func90, Tryd.ntmps90
  go_wp2
  go_loopw [12] (fun i wr => ∃ k : Nat, k ≤ code.length ∧ i = .int .i64 k ∧ Hid (targetsF params labels code = firstF (fun _ x => targetF params labels x) (code.take k) (code.drop k)) ∧ Below w.heap.size w wr) (fun i _ => code.length - (intOf i).toNat)
  case atStart => exact ⟨0, Nat.zero_le _, rfl, rfl, Below.refl _ _⟩
  case round =>
    obtain ⟨k, hk, rfl, hq, hb⟩ := hrel
    by_cases hlt : k < code.length
    rotate_left
    · obtain rfl : k = code.length := by omega
      have HN : Hid (targetsF params labels code = none) := firstF_end hq.out
      go_wp2
      go_end0
      exact ⟨by rw [HN.out]; rfl, hb⟩
    obtain ⟨x, hx⟩ : ∃ x, code[k]? = some x := ⟨_, List.getElem?_eq_getElem hlt⟩
    obtain ⟨b, o, av2, rfl, _, c0, c1, c2, c3, c4, c5, c6, hri⟩ := HR.out k x hx
    obtain ⟨aa, ca, rfl, _⟩ := id hri.1
    have d0 := cell_keep hb c0
    have d1 := cell_keep hb c1
    have d2 := cell_keep hb c2
    have d3 := cell_keep hb c3
    have d4 := cell_keep hb c4
    have d5 := cell_keep hb c5
    have d6 := cell_keep hb c6
    have hns : x.name.size ≤ maxLen := hri.2.2.2.2.2.2
    have HX := Lib.hid hx
    have hlt2 : (k : Int) < (code.length : Int) := by omega
    clear c0 c1 c2 c3 c4 c5 c6 hri hx
    go_upto_region 3 with fail
    have hb4 : Below wr.heap.size wr (wr.alloc (.cells #[.int .u8 x.kind, .int .u8 x.op, .string x.dst, .string x.name, .slice aa x.args.length ca, .int .i64 x.line, .int .i64 x.col] 60)) := (Below.refl _ _).alloc (Nat.le_refl _) _
    have G4 := heap_alloc_new wr (.cells #[.int .u8 x.kind, .int .u8 x.op, .string x.dst, .string x.name, .slice aa x.args.length ca, .int .i64 x.line, .int .i64 x.col] 60)
    generalize wr.alloc (.cells #[.int .u8 x.kind, .int .u8 x.op, .string x.dst, .string x.name, .slice aa x.args.length ca, .int .i64 x.line, .int .i64 x.col] 60) = W4 at *
    have i0' := row_of G4 0 (.int .u8 x.kind) rfl
    have i3' := row_of G4 3 (.string x.name) rfl
    have i4' := row_of G4 4 (.slice aa x.args.length ca) rfl
    have i5' := row_of G4 5 (.int .i64 x.line) rfl
    have i6' := row_of G4 6 (.int .i64 x.col) rfl
    have hb5 : Below w.heap.size w W4 := bcomp hb hb4
    have HB5 := Lib.hid hb5
    have HL4 := Lib.hid (HL.out.keep hb5)
    have HP4 := Lib.hid (HP.out.keep hb5)
    have c8 := cell_keep hb5 H8.out
    generalize wr.heap.size = wn at *
    clear d0 d1 d2 d3 d4 d5 d6 hb4 G4 hb5 hb
    rcases tkind_cases x.kind with h8 | ⟨h8, h9⟩ | ⟨h8, h9, h4⟩ | ⟨h8, h9, h4⟩
    iterate 2
      · have HKF : Hid (targetF params labels x = needF (inL x.name labels) x.line x.col 6) := by show _ = _; first | exact targetF_lab params labels x (.inl h8) | exact targetF_lab params labels x (.inr h9)
        cases hin : inL x.name labels
        · have HIN := Lib.hid hin
          clear hin
          go_wp2_with (at_lookup; refine wpList_set_lookup rfl _ _ _ rfl _ _ Tryd.underlying9 Tryd.underlying108 (names_zero _) lb labels rfl x.name rfl hns HL4.out ?_; rw [HIN.out])
          refine (need_bad x.line x.col 6 _).mono ?_
          rintro e w6 ⟨rfl, hb6⟩
          have hF2 := firstF_fault hq.out HX.out (by rw [HKF.out, HIN.out]; rfl)
          refine ⟨rfl, ?_, bcomp HB5.out hb6⟩
          unfold targetsF; rw [hF2]; rfl
        · have HIN := Lib.hid hin
          clear hin
          go_wp2_with (at_lookup; refine wpList_set_lookup rfl _ _ _ rfl _ _ Tryd.underlying9 Tryd.underlying108 (names_zero _) lb labels rfl x.name rfl hns HL4.out ?_; rw [HIN.out])
          refine (need_ok x.line x.col 6 _).mono ?_
          rintro e w6 ⟨rfl, hb6⟩
          have hQ : Hid (targetsF params labels code = firstF (fun _ x => targetF params labels x) (code.take (k + 1)) (code.drop (k + 1))) := firstF_ok hq.out HX.out (by rw [HKF.out, HIN.out]; rfl)
          have HB6 := Lib.hid (bcomp HB5.out hb6)
          clear hb6
          go_wp2_with fail
          go_roundw
          case rel => exact ⟨k + 1, by omega, by go_num, hQ, HB6.out⟩
          case measure => simp [intOf]; omega
    · have HKF := Lib.hid (targetF_call params labels x h4)
      obtain ⟨n, hn⟩ : ∃ n, (atL x.name params).getD 0 = n := ⟨_, rfl⟩
      have HN := Lib.hid hn
      cases his : (atL x.name params).isSome
      · have HIS := Lib.hid his
        have e0 := ext_cell c8
        have e3 := ext_cell i3'
        have hlook := ints_look Tryd.underlying9 Tryd.underlying109 int_zero HP4.out HD.out x.name hns n _ hn his
        have I := Lib.hid (And.intro i5' i6')
        clear his hn i5' i6' i3' c8
        go_upto_region 8 with fail
        clear i0' i4'
        (refine wp_region_calm (by kernel_rfl) (by kernel_rfl) ?_; (repeat (go_big_quiet_step (fail))); refine wpQuiet_nil ?_; intro wc hwc)
        clear e0 e3 hlook
        have j5 := cell_keep hwc I.out.1
        have j6 := cell_keep hwc I.out.2
        go_wp2_with fail
        refine (need_bad x.line x.col 6 _).mono ?_
        rintro e w6 ⟨rfl, hb6⟩
        have hF2 := firstF_fault hq.out HX.out (by rw [HKF.out, HIS.out]; rfl)
        refine ⟨rfl, ?_, bcomp (bcomp HB5.out hwc) hb6⟩
        unfold targetsF; rw [hF2]; rfl
      · have HIS := Lib.hid his
        have e0 := ext_cell c8
        have e3 := ext_cell i3'
        have hlook := ints_look Tryd.underlying9 Tryd.underlying109 int_zero HP4.out HD.out x.name hns n _ hn his
        have I := Lib.hid (And.intro i4' (And.intro i5' i6'))
        clear his hn i5' i6' i3' i4' c8
        go_upto_region 8 with fail
        clear i0'
        (refine wp_region_calm (by kernel_rfl) (by kernel_rfl) ?_; (repeat (go_big_quiet_step (fail))); refine wpQuiet_nil ?_; intro wc hwc)
        clear e0 e3 hlook
        have j4 := cell_keep hwc I.out.1
        have j5 := cell_keep hwc I.out.2.1
        have j6 := cell_keep hwc I.out.2.2
        have J := Lib.hid (And.intro j4 (And.intro j5 j6))
        clear I j4
        go_wp2_with fail
        refine (need_ok x.line x.col 6 _).mono ?_
        rintro e w6 ⟨rfl, hb6⟩
        have k4 := cell_keep hb6 J.out.1
        have k5 := cell_keep hb6 J.out.2.1
        have k6 := cell_keep hb6 J.out.2.2
        clear j5 j6
        by_cases hnl : n = (x.args.length : Int)
        · have hE : (n == (x.args.length : Int)) = true := by rw [beq_iff_eq]; exact hnl
          have HNL := Lib.hid hnl
          clear hnl
          go_wp2_with fail
          refine (need_ok x.line x.col 4 _).mono ?_
          rintro e w7 ⟨rfl, hb7⟩
          have hQ : Hid (targetsF params labels code = firstF (fun _ x => targetF params labels x) (code.take (k + 1)) (code.drop (k + 1))) := firstF_ok hq.out HX.out (by rw [HKF.out, HIS.out, HN.out, decide_eq_true HNL.out]; rfl)
          have HB7 := Lib.hid (bcomp (bcomp (bcomp HB5.out hwc) hb6) hb7)
          clear k4 k5 k6 hE
          go_wp2_with fail
          go_roundw
          case rel => exact ⟨k + 1, by omega, by go_num, hQ, HB7.out⟩
          case measure => simp [intOf]; omega
        · have hE : (n == (x.args.length : Int)) = false := by rw [beq_eq_false_iff_ne]; exact hnl
          have HNL := Lib.hid hnl
          clear hnl
          go_wp2_with fail
          refine (need_bad x.line x.col 4 _).mono ?_
          rintro e w7 ⟨rfl, hb7⟩
          have hF2 := firstF_fault hq.out HX.out (by rw [HKF.out, HIS.out, HN.out, decide_eq_false HNL.out]; rfl)
          refine ⟨rfl, ?_, bcomp (bcomp (bcomp HB5.out hwc) hb6) hb7⟩
          unfold targetsF; rw [hF2]; rfl
    · have HKF := Lib.hid (targetF_no params labels x h8 h9 h4)
      have hQ : Hid (targetsF params labels code = firstF (fun _ x => targetF params labels x) (code.take (k + 1)) (code.drop (k + 1))) := firstF_ok hq.out HX.out HKF.out
      go_wp2_with fail
      go_roundw
      case rel => exact ⟨k + 1, by omega, by go_num, hQ, HB5.out⟩
      case measure => simp [intOf]; omega
open Go.ChangeShapes Go.WideShapes Go.ChangeAt Go.RowKit
theorem callsOf_step (l : List InstrD) (x : InstrD) (k : Nat) (h : l[k]? = some x) : callsOf (l.take (k + 1)) = if x.kind == 4 then callsOf (l.take k) ++ [x.name] else callsOf (l.take k) := by
  rw [List.take_add_one, h]
  unfold callsOf
  cases h : x.kind == 4 <;> simp [h]
theorem callsOf_le (l : List InstrD) : (callsOf l).length ≤ l.length := by
  unfold callsOf; rw [List.length_map]; exact List.length_filter_le _ _
theorem many_new' (w : World) (A : Obj) (xs : List Value) (t : TypeId) : ∀ j u, xs[j]? = some u → ((w.alloc A).alloc (.cells xs.toArray t)).cell? ((⟨w.heap.size + 1, 0, none⟩ : Addr).add j) = some u := by
  have := many_new (w.alloc A) xs t
  have e : (w.alloc A).heap.size = w.heap.size + 1 := by
    show (w.heap.push _).size = _
    simp
  rw [e] at this
  exact this
set_option maxRecDepth 100000 in
set_option maxHeartbeats 3200000 in
theorem calls_any (cv : Value) (code : List InstrD) (w : World) (h : RdInstrs none w cv code) :
    Calls Tryd.prog 110 #[cv] w fun e w' => ∃ v, e = .returned v ∧ RdStrs (some (upFrom w.heap.size)) w' v (callsOf code) ∧ Below w.heap.size w w' := by
  obtain ⟨a, c, rfl, hl, hr⟩ := h
  obtain ⟨i0, hi, hz0, hz1, hz2⟩ := info_parts infoStr
  have hok : Hid (∀ s ∈ callsOf code, s.size ≤ maxLen) := by
    intro s hs
    obtain ⟨x, hx, rfl⟩ := List.mem_map.1 hs
    obtain ⟨i, hi⟩ := List.getElem?_of_mem (List.mem_filter.1 hx).1
    obtain ⟨b, o, av, _, _, _, _, _, _, _, _, _, hri⟩ := hr i x hi
    exact hri.2.2.2.2.2.2
  have HR := Lib.hid hr
  clear hr
  go_enter Tryd.func110, Tryd.ntmps110
  go_wp2
  go_loopw [3, 8] (fun v i wr => ∃ k : Nat, k ≤ code.length ∧ i = .int .i64 k ∧ wr.ownsRow w.heap.size 9 1 v (callsOf (code.take k)).length ((callsOf (code.take k)).flatMap strCells) ∧ Below w.heap.size w wr) (fun _ i _ => code.length - (intOf i).toNat)
  case atStart => exact ⟨0, Nat.zero_le _, rfl, World.ownsRow_nil _ _ _ _, Below.refl _ _⟩
  case round =>
    obtain ⟨k, hk, rfl, hown, hb⟩ := hrel
    by_cases hlt : k < code.length
    rotate_left
    · obtain rfl : k = code.length := by omega
      rw [List.take_length] at hown
      go_wp2
      go_ret
      exact ⟨_, rfl, own_strs hown (by have := callsOf_le code; omega) hok.out, hb⟩
    obtain ⟨x, hx⟩ : ∃ x, code[k]? = some x := ⟨_, List.getElem?_eq_getElem hlt⟩
    obtain ⟨b, o, av2, rfl, _, c0, c1, c2, c3, c4, c5, c6, hri⟩ := HR.out k x hx
    obtain ⟨aa, ca, rfl, _⟩ := id hri.1
    have d0 := cell_keepB hb c0 (block_lt_of_cell c0)
    have d1 := cell_keepB hb c1 (block_lt_of_cell c1)
    have d2 := cell_keepB hb c2 (block_lt_of_cell c2)
    have d3 := cell_keepB hb c3 (block_lt_of_cell c3)
    have d4 := cell_keepB hb c4 (block_lt_of_cell c4)
    have d5 := cell_keepB hb c5 (block_lt_of_cell c5)
    have d6 := cell_keepB hb c6 (block_lt_of_cell c6)
    have hst := callsOf_step code x k hx
    have hlt2 : (k : Int) < (code.length : Int) := by omega
    have hsz := hb.size
    have hle : (callsOf (code.take k)).length ≤ k := by have := callsOf_le (code.take k); rw [List.length_take] at this; omega
    clear c0 c1 c2 c3 c4 c5 c6 hri hx
    cases h4 : (x.kind == 4)
    · rw [h4, if_neg (by simp)] at hst
      have HS := Lib.hid hst
      clear hst
      go_wp2
      go_roundw
      case rel => exact ⟨k + 1, by omega, by go_num, by rw [HS.out]; exact hown.alloc _, hb.alloc hsz _⟩
      case measure => simp [intOf]; omega
    · rw [h4, if_pos rfl] at hst
      have HX : Hid ((callsOf (code.take (k + 1))).flatMap strCells = (callsOf (code.take k)).flatMap strCells ++ strCells x.name ∧ (callsOf (code.take (k + 1))).length = (callsOf (code.take k)).length + 1) := by
        rw [hst]; exact ⟨by simp, by simp⟩
      clear hst
      go_wp2_with (at_builtin; refine wpList_append_own _ rfl (.tmp 15) (.tmp 18) 22 rfl w.heap.size 9 i0 (.string ⟨#[]⟩) 1 16 Tryd.underlying22 hi hz0 hz1 hz2 rfl (by decide) _ _ _ rfl ((hown.alloc _).alloc _) ⟨wr.heap.size + 1, 0, none⟩ 1 1 (strCells x.name) rfl rfl (many_new' _ _ _ _) ?c2 ?c3 ?c4 ?c5 ?_)
      case c2 => intro u hu; simp [strCells] at hu; subst hu; rfl
      case c3 => unfold maxLen; omega
      case c4 => omega
      case c5 => simp; omega
      · intro v' w1 hown' hgrow _
        rw [← HX.out.1, ← HX.out.2] at hown'
        have hb1 := ((hb.alloc hsz (.cells #[.int .u8 x.kind, .int .u8 x.op, .string x.dst, .string x.name, .slice aa x.args.length ca, .int .i64 x.line, .int .i64 x.col] 60)).alloc (by simp; omega) (.cells (strCells x.name).toArray 9)).grown hgrow (by simp; omega) (own_row_le hown)
        clear hown
        go_wp2
        go_roundw
        case rel => exact ⟨k + 1, by omega, by go_num, hown', hb1⟩
        case measure => simp [intOf]; omega
set_option maxRecDepth 100000 in
theorem isNamed (x : FuncD) (pv cv : Value) (fb : Nat) (s : ByteArray) (w : World) (hc : w.cell? ⟨fb, 0, none⟩ = some (.string s)) (hpv : ∃ a n c, pv = .slice a n c) (hcv : ∃ a n c, cv = .slice a n c) :
    Calls Tryd.prog 109 #[funcV x pv cv, .pointer (some ⟨fb, 0, none⟩)] w fun e w' => e = .returned (.bool (x.name.toList == s.toList)) ∧ Below w.heap.size w w' := by
  obtain ⟨a1, n1, c1, rfl⟩ := hpv
  obtain ⟨a2, n2, c2, rfl⟩ := hcv
  go_enter Tryd.func109, Tryd.ntmps109
  go_upto_region 1 with fail
  have hb0 : Below w.heap.size w (w.alloc (.cells #[.string x.name, .slice a1 n1 c1, .slice a2 n2 c2, .int .i64 x.line, .int .i64 x.col] 57)) := (Below.refl _ _).alloc (Nat.le_refl _) _
  have G0 := heap_alloc_new w (.cells #[.string x.name, .slice a1 n1 c1, .slice a2 n2 c2, .int .i64 x.line, .int .i64 x.col] 57)
  generalize w.alloc (.cells #[.string x.name, .slice a1 n1 c1, .slice a2 n2 c2, .int .i64 x.line, .int .i64 x.col] 57) = W1 at *
  have i0 := row_of G0 0 (.string x.name) rfl
  have hc1 := cell_keep hb0 hc
  have HB := Lib.hid hb0
  clear G0 hb0 hc
  go_wp2
  go_ret
  exact ⟨rfl, HB.out⟩
set_option maxRecDepth 100000 in
set_option maxHeartbeats 1600000 in
theorem indexFunc (fv : Value) (fs : List FuncD) (fb : Nat) (s : ByteArray) (w : World) (h : RdFuncs none w fv fs) (hc : w.cell? ⟨fb, 0, none⟩ = some (.string s)) :
    Calls Tryd.prog 95 #[fv, .func (.func 109) #[] #[.pointer (some ⟨fb, 0, none⟩)]] w fun e w' => e = .returned (.int .i64 (findZ s fs)) ∧ Below w.heap.size w w' := by
  obtain ⟨a, c, rfl, hl, hr⟩ := h
  have HR := Lib.hid hr
  have HC := Lib.hid hc
  clear hr hc
  go_enter Tryd.func95, Tryd.ntmps95
  go_wp2
  go_loopw [8] (fun i wr => ∃ k : Nat, k ≤ fs.length ∧ i = .int .i64 k ∧ Hid (∀ (j : Nat) x, j < k → fs[j]? = some x → (x.name.toList == s.toList) = false) ∧ Below w.heap.size w wr) (fun i _ => fs.length - (intOf i).toNat)
  case atStart => exact ⟨0, Nat.zero_le _, rfl, (fun j x h => by omega), Below.refl _ _⟩
  case round =>
    obtain ⟨k, hk, rfl, hq, hb⟩ := hrel
    by_cases hlt : k < fs.length
    rotate_left
    · obtain rfl : k = fs.length := by omega
      have HV := Lib.hid (findZ_none (s := s) (l := fs) (fun j x h => hq.out j x (List.getElem?_eq_some_iff.1 h).1 h))
      go_wp2
      go_ret
      exact ⟨by rw [HV.out]; rfl, hb⟩
    obtain ⟨x, hx⟩ : ∃ x, fs[k]? = some x := ⟨_, List.getElem?_eq_getElem hlt⟩
    obtain ⟨b, o, pv2, cv2, rfl, _, c0, c1, c2, c3, c4, hf⟩ := HR.out k x hx
    obtain ⟨ap, kp, rfl, _⟩ := id hf.1
    obtain ⟨ac, kc, rfl, _⟩ := id hf.2.1
    have d0 := cell_keepB hb c0 (block_lt_of_cell c0)
    have d1 := cell_keepB hb c1 (block_lt_of_cell c1)
    have d2 := cell_keepB hb c2 (block_lt_of_cell c2)
    have d3 := cell_keepB hb c3 (block_lt_of_cell c3)
    have d4 := cell_keepB hb c4 (block_lt_of_cell c4)
    have HX := Lib.hid hx
    have hlt2 : (k : Int) < (fs.length : Int) := by omega
    have cl := isNamed x (.slice ap x.params.length kp) (.slice ac x.code.length kc) fb s wr (cell_keep hb HC.out) ⟨_, _, _, rfl⟩ ⟨_, _, _, rfl⟩
    clear hx c0 c1 c2 c3 c4 hf
    cases he : (x.name.toList == s.toList)
    · rw [he] at cl
      have HE := Lib.hid he
      have HCl := Lib.hid cl
      clear he cl
      go_wp2_with (go_at_call 109; refine HCl.out.mono ?_; rintro e w1 ⟨rfl, hb1⟩)
      have hb2 := bcomp hb hb1
      go_roundw
      case rel =>
        refine ⟨k + 1, by omega, by go_num, ?_, hb2⟩
        intro j y hj hy
        rcases Nat.lt_or_ge j k with h | h
        · exact hq.out j y h hy
        · obtain rfl : j = k := by omega
          rw [HX.out] at hy; cases hy; exact HE.out
      case measure => simp [intOf]; omega
    · have HV := Lib.hid (findZ_hit HX.out he hq.out)
      rw [he] at cl
      have HCl := Lib.hid cl
      clear he cl
      go_wp2_with (go_at_call 109; refine HCl.out.mono ?_; rintro e w1 ⟨rfl, hb1⟩)
      go_ret
      exact ⟨by rw [HV.out]; rfl, bcomp hb hb1⟩
open Go.ChangeShapes Go.WideShapes Go.ChangeAt Go.RowKit
theorem nodup_le : ∀ (S l : List ByteArray), S.Nodup → (∀ x ∈ S, x ∈ l) → S.length ≤ l.length
  | [], _, _, _ => Nat.zero_le _
  | a :: r, l, hn, hs => by
    obtain ⟨p, q, rfl⟩ := List.append_of_mem (hs a (by simp))
    have hn' := List.nodup_cons.1 hn
    have := nodup_le r (p ++ q) hn'.2 (fun x hx => by
      have h1 := hs x (by simp [hx])
      have h2 : x ≠ a := fun e => hn'.1 (e ▸ hx)
      simp at h1 ⊢
      rcases h1 with h | h | h
      · exact .inl h
      · exact absurd h h2
      · exact .inr h)
    simp at this ⊢
    omega
/-- What holds between two rounds of the search: S: seen, T: to do. -/
structure Dfs (fs : List FuncD) (a : ByteArray) (S T : List ByteArray) : Prop where
  reach : ∀ x ∈ S, Reach fs a x
  todo : ∀ x ∈ T, x = a ∨ x ∈ S
  done : ∀ x, (x = a ∨ x ∈ S) → x ∉ T → ∀ b, CallsN fs x b → b ≠ a ∧ b ∈ S
  nodup : S.Nodup
  sub : ∀ x ∈ S, x ∈ fNames fs
/-- What holds while the functions that f calls are gone through: j of them are done. -/
structure DfsIn (fs : List FuncD) (a f : ByteArray) (gs : List ByteArray) (j : Nat) (S T : List ByteArray) : Prop where
  reach : ∀ x ∈ S, Reach fs a x
  todo : ∀ x ∈ T, x = a ∨ x ∈ S
  fin : f = a ∨ f ∈ S
  done : ∀ x, (x = a ∨ x ∈ S) → x ∉ T → x ≠ f → ∀ b, CallsN fs x b → b ≠ a ∧ b ∈ S
  got : ∀ (i : Nat) b, i < j → gs[i]? = some b → b ≠ a ∧ b ∈ S
  nodup : S.Nodup
  sub : ∀ x ∈ S, x ∈ fNames fs
theorem Dfs.start (fs : List FuncD) (a : ByteArray) : Dfs fs a [] [a] :=
  ⟨(fun _ h => nomatch h), (fun x h => .inl (by simpa using h)), (fun x h hn => by
    simp at hn
    rcases h with h | h
    · exact absurd h hn
    · exact (nomatch h)), List.nodup_nil, (fun _ h => nomatch h)⟩
open Classical in
theorem Dfs.stop {fs : List FuncD} {a : ByteArray} {S : List ByteArray} (h : Dfs fs a S []) : loopB fs a = false := by
  unfold loopB
  rw [decide_eq_false_iff_not]
  have hall : ∀ x, Reach fs a x → x ≠ a ∧ x ∈ S := by
    intro x hx
    induction hx with
    | one hc => exact h.done a (.inl rfl) (by simp) _ hc
    | more _ hc ih => exact h.done _ (.inr ih.2) (by simp) _ hc
  exact fun hr => (hall a hr).1 rfl
open Classical in
theorem DfsIn.found {fs : List FuncD} {a f : ByteArray} {gs : List ByteArray} {j : Nat} {S T : List ByteArray} (h : DfsIn fs a f gs j S T) (hc : CallsN fs f a) : loopB fs a = true := by
  unfold loopB
  rw [decide_eq_true_iff]
  rcases h.fin with e | e
  · subst e; exact .one hc
  · exact .more (h.reach f e) hc
theorem Dfs.enter {fs : List FuncD} {a f : ByteArray} {S T : List ByteArray} (h : Dfs fs a S (T ++ [f])) (gs : List ByteArray) : DfsIn fs a f gs 0 S T :=
  ⟨h.reach, fun x hx => h.todo x (by simp [hx]), h.todo f (by simp), fun x hx hn hf => h.done x hx (by simp [hn, hf]), fun i b hi => by omega, h.nodup, h.sub⟩
theorem DfsIn.leave {fs : List FuncD} {a f : ByteArray} {gs : List ByteArray} {S T : List ByteArray} (h : DfsIn fs a f gs gs.length S T) (hg : ∀ b, CallsN fs f b → b ∈ gs) : Dfs fs a S T :=
  ⟨h.reach, h.todo, fun x hx hn b hb => by
    by_cases e : x = f
    · subst e
      obtain ⟨i, hi⟩ := List.getElem?_of_mem (hg b hb)
      exact h.got i b (List.getElem?_eq_some_iff.1 hi).1 hi
    · exact h.done x hx hn e b hb, h.nodup, h.sub⟩
theorem DfsIn.old {fs : List FuncD} {a f : ByteArray} {gs : List ByteArray} {j : Nat} {S T : List ByteArray} (h : DfsIn fs a f gs j S T) {g : ByteArray} (hg : gs[j]? = some g) (hne : g ≠ a) (hs : g ∈ S) : DfsIn fs a f gs (j + 1) S T :=
  ⟨h.reach, h.todo, h.fin, h.done, fun i b hi hb => by
    rcases Nat.lt_or_ge i j with hij | hij
    · exact h.got i b hij hb
    · obtain rfl : i = j := by omega
      rw [hg] at hb; cases hb; exact ⟨hne, hs⟩, h.nodup, h.sub⟩
theorem DfsIn.new {fs : List FuncD} {a f : ByteArray} {gs : List ByteArray} {j : Nat} {S T : List ByteArray} (h : DfsIn fs a f gs j S T) {g : ByteArray} (hg : gs[j]? = some g) (hne : g ≠ a) (hs : g ∉ S) (hc : CallsN fs f g) (hm : g ∈ fNames fs) : DfsIn fs a f gs (j + 1) (S ++ [g]) (T ++ [g]) :=
  ⟨fun x hx => by
    rcases List.mem_append.1 hx with hx | hx
    · exact h.reach x hx
    · rw [List.mem_singleton] at hx; subst hx
      rcases h.fin with e | e
      · subst e; exact .one hc
      · exact .more (h.reach f e) hc,
   fun x hx => by
    rcases List.mem_append.1 hx with hx | hx
    · rcases h.todo x hx with e | e
      · exact .inl e
      · exact .inr (by simp [e])
    · rw [List.mem_singleton] at hx; subst hx; exact .inr (by simp),
   by rcases h.fin with e | e; exact .inl e; exact .inr (by simp [e]),
   fun x hx hn hf b hb => by
    simp only [List.mem_append, List.mem_singleton, not_or] at hn hx
    have : x = a ∨ x ∈ S := by
      rcases hx with e | e | e
      · exact .inl e
      · exact .inr e
      · exact absurd e hn.2
    have := h.done x this hn.1 hf b hb
    exact ⟨this.1, by simp [this.2]⟩,
   fun i b hi hb => by
    rcases Nat.lt_or_ge i j with hij | hij
    · have := h.got i b hij hb; exact ⟨this.1, by simp [this.2]⟩
    · obtain rfl : i = j := by omega
      rw [hg] at hb; cases hb; exact ⟨hne, by simp⟩,
   by rw [List.nodup_append]; exact ⟨h.nodup, by simp, fun x hx y hy e => by simp at hy; subst hy; subst e; exact hs hx⟩,
   fun x hx => by
    rcases List.mem_append.1 hx with hx | hx
    · exact h.sub x hx
    · rw [List.mem_singleton] at hx; subst hx; exact hm⟩
theorem findZ_there {s : ByteArray} {l : List FuncD} (h : s ∈ fNames l) : ∃ (i : Nat) (f : FuncD), findZ s l = i ∧ l[i]? = some f ∧ l.find? (fun f => decide (f.name = s)) = some f := by
  obtain ⟨f0, hf0, hn0⟩ := List.mem_map.1 h
  cases hfi : l.findIdx? (fun f => decide (f.name = s)) with
  | none =>
    rw [List.findIdx?_eq_none_iff] at hfi
    have := hfi f0 hf0
    simp [hn0] at this
  | some i =>
    obtain ⟨hi, h1, h2⟩ := List.findIdx?_eq_some_iff_getElem.1 hfi
    refine ⟨i, l[i], by unfold findZ; rw [hfi], List.getElem?_eq_getElem hi, ?_⟩
    rw [List.find?_eq_some_iff_getElem]
    exact ⟨h1, i, hi, rfl, fun j hj => by simpa using h2 j hj⟩
theorem own_one (w : World) (base : Nat) (v : Value) (t : TypeId) (hb : base ≤ w.heap.size) : (w.alloc (.cells #[v] t)).ownsRow base t 1 (.slice (some ⟨w.heap.size, 0, none⟩) 1 1) 1 [v] :=
  ⟨rfl, .inr ⟨w.heap.size, 1, #[v], rfl, hb, heap_alloc_new _ _, Nat.le_refl _, by unfold maxLen; omega, rfl, rfl⟩⟩
theorem own_shrink {w : World} {base : Nat} {e : TypeId} {a : Option Addr} {c n m : Nat} {xs ys : List Value} (h : w.ownsRow base e 1 (.slice a (n + m) c) (n + m) (xs ++ ys)) (hx : xs.length = n) (hp : 0 < n + m) : w.ownsRow base e 1 (.slice a n c) n xs := by
  obtain ⟨hl, ⟨h1, h2⟩ | ⟨g, cap, cur, h1, hg, hb, hn, hc, hs, ht⟩⟩ := h
  · omega
  · simp only [Value.slice.injEq] at h1
    obtain ⟨rfl, _, rfl⟩ := h1
    refine ⟨by omega, .inr ⟨g, c, cur, rfl, hg, hb, by omega, hc, hs, ?_⟩⟩
    have : (cur.toList.take ((n + m) * 1)).take n = (xs ++ ys).take n := by rw [ht]
    rw [List.take_take, Nat.mul_one, Nat.min_eq_left (by omega)] at this
    rw [Nat.mul_one, this, ← hx]
    simp
set_option maxRecDepth 100000 in
set_option maxHeartbeats 12800000 in
theorem loops_any (cb : Nat) (fv : Value) (fs : List FuncD) (s : ByteArray) (w : World) (h3 : w.cell? ⟨cb, 3, none⟩ = some fv) (hf : RdFuncs none w fv fs) (hres : ∀ f ∈ fs, ∀ g ∈ callsOf f.code, g ∈ fNames fs) (hs : s ∈ fNames fs) :
    Calls Tryd.prog 91 #[.pointer (some ⟨cb, 0, none⟩), .string s] w fun e w' => e = .returned (.bool (loopB fs s)) ∧ Below w.heap.size w w' := by
  obtain ⟨a, c, rfl, hlen, hr⟩ := id hf
  obtain ⟨i0, hi, hz0, hz1, hz2⟩ := info_parts infoStr
  have hnm : Hid (∀ x ∈ fNames fs, x.size ≤ maxLen) := by
    intro x hx
    obtain ⟨f, hf, rfl⟩ := List.mem_map.1 hx
    obtain ⟨i, hi⟩ := List.getElem?_of_mem hf
    obtain ⟨b, o, pv, cv, _, _, _, _, _, _, _, hri⟩ := hr i f hi
    exact hri.2.2.2.2
  have HR := Lib.hid hr
  have HF := Lib.hid hf
  have HRES := Lib.hid hres
  have HS := Lib.hid hs
  have H3 := Lib.hid h3
  have hmm := @run_makeMap Tryd.prog
  have hmf : ∀ (fn : Fn) (first cap : Array Value) (w : World), (Instr.makeFunc fn first cap).run Tryd.prog w = .ok (.func fn first cap) w := fun _ _ _ _ => rfl
  clear hr hf hres hs h3
  go_enter Tryd.func91, Tryd.ntmps91
  go_wp2
  go_loopg [6] (fs.length + 1) (fun gk todo wr => ∃ (S T : List ByteArray), Dfs fs s S T ∧ SetIs wr w.heap.size S ∧ wr.ownsRow w.heap.size 9 1 todo T.length (T.flatMap strCells) ∧ Below w.heap.size w wr ∧ w.heap.size < wr.heap.size ∧ T.length + (fs.length - S.length) ≤ gk ∧ gk ≤ fs.length + 1)
  case atStart =>
    have hb1 : Below w.heap.size w (w.alloc (.map #[] 0)) := (Below.refl _ _).alloc (Nat.le_refl _) _
    have e1 : (w.alloc (.map #[] 0)).heap.size = w.heap.size + 1 := by
      show (w.heap.push _).size = _
      simp
    have hb2 : Below (w.alloc (.map #[] 0)).heap.size (w.alloc (.map #[] 0)) ((w.alloc (.map #[] 0)).alloc (.cells #[.string s] 9)) := (Below.refl _ _).alloc (Nat.le_refl _) _
    refine ⟨[], [s], Dfs.start _ _, (SetIs.made w).keep hb2, ?_, bcomp hb1 hb2, by simp; omega, by simp; omega, Nat.le_refl _⟩
    have := own_one (w.alloc (.map #[] 0)) w.heap.size (.string s) 9 (by omega)
    rw [e1] at this
    exact this
  case round =>
    obtain ⟨wo, rfl⟩ : ∃ x : World, x = wr := ⟨_, rfl⟩
    obtain ⟨go, rfl⟩ : ∃ x : Nat, x = gk := ⟨_, rfl⟩
    obtain ⟨S, T, hdfs, hset, hown, hb, hsz, hms, hgk⟩ := hrel
    clear hmm
    have HSET := Lib.hid hset
    have HB := Lib.hid hb
    rcases List.eq_nil_or_concat T with rfl | ⟨T', f, rfl⟩
    · have HV := Lib.hid hdfs.stop
      obtain ⟨a6, c6, rfl, _⟩ := own_read hown
      clear hdfs hset hown hb
      go_wp2
      go_ret
      exact ⟨by rw [HV.out]; rfl, HB.out⟩
    rw [List.concat_eq_append] at *
    have hfm : f ∈ fNames fs := by
      rcases hdfs.todo f (by simp) with e | e
      · rw [e]; exact HS.out
      · exact hdfs.sub f e
    obtain ⟨i, fd, hidx, hfi, hfind⟩ := findZ_there hfm
    obtain ⟨b, o, pv2, cv2, rfl, _, q0, q1, q2, q3, q4, hfd⟩ := HR.out i fd hfi
    have HCV := Lib.hid hfd.2.1
    obtain ⟨ac, kc, rfl, _⟩ := id hfd.2.1
    have hilt : (i : Int) < (fs.length : Int) := by have := (List.getElem?_eq_some_iff.1 hfi).1; omega
    have hcalls : Hid ((∀ g, CallsN fs f g → g ∈ callsOf fd.code) ∧ ∀ g, g ∈ callsOf fd.code → CallsN fs f g ∧ g ∈ fNames fs) := by
      refine ⟨fun g hg => ?_, fun g hg => ⟨⟨fd, hfind, hg⟩, HRES.out fd (List.mem_of_getElem? hfi) g hg⟩⟩
      obtain ⟨f', h1, h2⟩ := hg
      rw [hfind] at h1; cases h1; exact h2
    have hlenT : (T' ++ [f]).length = T'.length + 1 := by simp
    rw [hlenT] at hown hms
    rw [show (T' ++ [f]).flatMap strCells = T'.flatMap strCells ++ [.string f] from by simp [strCells]] at hown
    have hT'l : (T'.flatMap strCells).length = T'.length := by rw [flat_length strCells 1 (fun _ => rfl)]; omega
    obtain ⟨g6, c6, rfl, _, hcell⟩ := own_at hown (by simp)
    have hcf := hcell T'.length (.string f) (by rw [List.getElem?_append_right (by omega), hT'l]; simp)
    rw [Nat.zero_add] at hcf
    have hshr := own_shrink hown hT'l (by omega)
    have hSl := nodup_le S (fNames fs) hdfs.nodup hdfs.sub
    have hSl2 : S.length ≤ fs.length := by simpa [fNames] using hSl
    have HSH := Lib.hid hshr
    have HIN := Lib.hid (hdfs.enter (callsOf fd.code))
    have c3 := cell_keep hb H3.out
    have c1 := fun (w : World) (h : RdFuncs none w (.slice (some ⟨b, o, none⟩) fs.length c) fs) (hc : w.cell? ⟨wo.heap.size, 0, none⟩ = some (.string f)) => indexFunc _ fs wo.heap.size f w h hc
    rw [hidx] at c1
    have C1 := Lib.hid c1
    have Q2 := Lib.hid q2
    have hcap : T'.length + 1 ≤ c6 := by
      obtain ⟨_, ⟨h1, h2⟩ | ⟨g', cap, cur, h1, _, _, hn, _⟩⟩ := hown
      · omega
      · simp only [Value.slice.injEq] at h1; omega
    clear hdfs hset hown hcell hidx hfi hfind hshr hSl c1 q0 q1 q2 q3 q4 hfd hlenT hT'l hfm
    have hb4 : Below wo.heap.size wo (wo.alloc (.cells #[.string f] 9)) := (Below.refl _ _).alloc (Nat.le_refl _) _
    have HB4 := Lib.hid hb4
    have c3' := cell_keep hb4 c3
    clear hb4 hb
    go_wp2_with (first
      | (go_at_call 95; refine (C1.out _ (HF.out.keep (bcomp HB.out HB4.out)) (row_of (heap_alloc_new _ _) 0 _ rfl)).mono ?_; rintro e w1 ⟨rfl, hb1⟩; have HB1 := Lib.hid (bcomp HB4.out hb1); have c3'' := cell_keep hb1 c3'; have r2 := cell_keep (bcomp HB.out HB1.out) Q2.out; clear hb1 c3' c3 hcf)
      | (go_at_call 110; refine (calls_any _ fd.code _ (HCV.out.keep (bcomp HB.out HB1.out))).mono ?_; rintro e w2 ⟨gv, rfl, hgs, hb2⟩; obtain ⟨ag, kg, rfl, hgl, _⟩ := id hgs; have HGS := Lib.hid hgs; have hs12 := hb2.size; clear hgs; have HB2 := Lib.hid (bcomp HB1.out hb2); clear hb2 c3'' r2))
    have hg6 : g6 < wo.heap.size := by
      obtain ⟨_, cur, hgb⟩ := own_is HSH.out (k := g6) (by simp [Value.ownBlock])
      exact (Array.getElem?_eq_some_iff.1 hgb).1
    have hs1 := HB1.out.size
    have hs2 := HB2.out.size
    have HSET2 := Lib.hid (HSET.out.keep HB2.out)
    have HSH2 := Lib.hid (own_below HSH.out HB2.out)
    have HBW2 := Lib.hid (bcomp HB.out HB2.out)
    generalize hgsd : callsOf fd.code = gs at *
    clear hgsd
    go_loopg [6, 46] gs.length (fun gk2 todo ii wi => ∃ (j : Nat) (S2 T2 : List ByteArray), j ≤ gs.length ∧ ii = .int .i64 j ∧ gk2 = gs.length - j ∧ DfsIn fs s f gs j S2 T2 ∧ SetIs wi w.heap.size S2 ∧ wi.ownsRow w.heap.size 9 1 todo T2.length (T2.flatMap strCells) ∧ (∀ k, todo.ownBlock = some k → k < w1.heap.size ∨ w2.heap.size ≤ k) ∧ Below w.heap.size w wi ∧ w2.heap.size ≤ wi.heap.size ∧ (∀ b, w1.heap.size ≤ b → b < w2.heap.size → wi.heap[b]? = w2.heap[b]?) ∧ T2.length + 1 + (fs.length - S2.length) ≤ go)
    case atStart => exact ⟨0, S, T', Nat.zero_le _, rfl, rfl, HIN.out, HSET2.out, HSH2.out, (fun k hk => by simp [Value.ownBlock] at hk; omega), HBW2.out, Nat.le_refl _, (fun _ _ _ => rfl), hms⟩
    case round =>
      obtain ⟨wi, rfl⟩ : ∃ x : World, x = wr := ⟨_, rfl⟩
      obtain ⟨j, S2, T2, hj, rfl, rfl, hd2, hset2, hown2, hob, hbw, hszi, hrg, hms2⟩ := hrel
      have HD2 := Lib.hid hd2
      have HSI := Lib.hid hset2
      have HOI := Lib.hid hown2
      have HOB := Lib.hid hob
      have HRG := Lib.hid hrg
      have HBW := Lib.hid hbw
      clear hd2 hset2 hown2 hob hrg hbw
      by_cases hjl : j < gs.length
      rotate_left
      · obtain rfl : j = gs.length := by omega
        have HQ := Lib.hid (HD2.out.leave hcalls.out.1)
        go_wp2
        go_roundg (go - 1)
        case measure => omega
        case rel => exact ⟨S2, T2, HQ.out, HSI.out, HOI.out, HBW.out, by omega, by omega, by omega⟩
      obtain ⟨g, hg⟩ : ∃ g, gs[j]? = some g := ⟨_, List.getElem?_eq_getElem hjl⟩
      have HGJ := Lib.hid hg
      have HGM := Lib.hid (hcalls.out.2 g (List.mem_of_getElem? hg))
      have hgz := hnm.out g HGM.out.2
      have hrd : RdStrs (some (upFrom w1.heap.size)) wi (.slice ag gs.length kg) gs := RdStrs.same HGS.out (fun b hb hb2 => HRG.out b hb hb2) (fun _ _ h => h)
      obtain ⟨ag', kg', hage, _, hrr⟩ := hrd
      simp only [Value.slice.injEq] at hage
      obtain ⟨rfl, _, rfl⟩ := hage
      obtain ⟨bg, og, rfl, _, cg, _⟩ := hrr j g hg
      have hjl2 : (j : Int) < (gs.length : Int) := by omega
      clear hrr hg
      cases he : (g.toList == s.toList)
      rotate_left
      · have hgs2 : g = s := toList_inj (by simpa using he)
        have HV := Lib.hid (HD2.out.found (hgs2 ▸ HGM.out.1))
        clear hgs2
        go_wp2
        go_ret
        exact ⟨by rw [HV.out]; rfl, HBW.out⟩
      have hne : Hid (g ≠ s) := fun e => by rw [e] at he; simp at he
      cases hin : inL g S2
      rotate_left
      · have HN := Lib.hid hin
        have HQ := Lib.hid (HD2.out.old HGJ.out hne.out (inL_iff.1 hin))
        clear hin
        go_wp2_with (at_lookup; refine wpList_set_lookup rfl _ _ _ rfl _ _ Tryd.underlying9 Tryd.underlying108 (names_zero _) w.heap.size S2 rfl g rfl hgz HSI.out ?_; rw [HN.out])
        go_roundg (gs.length - (j + 1))
        case measure => omega
        case rel => exact ⟨j + 1, S2, T2, by omega, by go_num, rfl, HQ.out, HSI.out, HOI.out, HOB.out, HBW.out, hszi, HRG.out, hms2⟩
      have HN := Lib.hid hin
      have HQ := Lib.hid (HD2.out.new HGJ.out hne.out (inL_not.1 hin) HGM.out.1 HGM.out.2)
      have hS3 : (S2 ++ [g]).length ≤ fs.length := by have := nodup_le _ (fNames fs) HQ.out.nodup HQ.out.sub; simpa [fNames] using this
      rw [List.length_append, List.length_singleton] at hS3
      have hput : Hid (putL g S2 = S2 ++ [g]) := by show _ = _; unfold putL; rw [hin]; rfl
      clear hin
      obtain ⟨a7, c7, rfl, _⟩ := own_read HOI.out
      go_wp2_with (first
        | (at_lookup; refine wpList_set_lookup rfl _ _ _ rfl _ _ Tryd.underlying9 Tryd.underlying108 (names_zero _) w.heap.size S2 rfl g rfl hgz HSI.out ?_; rw [HN.out])
        | (at_mapUpdate; refine wpList_set_store rfl _ _ _ _ rfl _ _ Tryd.underlying9 Tryd.underlying108 w.heap.size S2 rfl g rfl rfl hgz HSI.out ?_; intro w5 hs5 hg5 hz5; have HS5 := Lib.hid hs5; have HG5 := Lib.hid hg5; have HO5 := Lib.hid (own_turn HOI.out (Turned.of_grown (S := fun k => k = w.heap.size) hg5 (fun b e => by cases e; rfl)) (fun k hk e => own_ne_map HOI.out HSI.out (by rw [hk, e]))); have hz7 := Nat.le_of_eq hz5.symm; clear hs5 hg5 hz5)
        | (at_builtin; refine wpList_append_own_at _ rfl (.tmp 59) (.tmp 61) 22 rfl w.heap.size 9 i0 (.string ⟨#[]⟩) 1 16 Tryd.underlying22 hi hz0 hz1 hz2 rfl (by decide) _ _ _ rfl (HO5.out.alloc _) ⟨w5.heap.size, 0, none⟩ 1 1 (strCells g) rfl rfl (many_new _ _ _) ?c2 ?c3 ?c4 ?c5 ?_))
      case c2 => intro u hu; simp [strCells] at hu; subst hu; rfl
      case c3 => unfold maxLen; omega
      case c4 => omega
      case c5 => simp; omega
      · intro v' w6 hown' hgrow _ hat
        have hal : Below w5.heap.size w5 (w5.alloc (.cells (strCells g).toArray 9)) := (Below.refl _ _).alloc (Nat.le_refl _) _
        have e5 : (w5.alloc (.cells (strCells g).toArray 9)).heap.size = w5.heap.size + 1 := by
          show (w5.heap.push _).size = _
          simp
        have ht5 : Turned (fun k => k = w.heap.size) wi w5 := Turned.of_grown HG5.out (fun b e => by cases e; rfl)
        have ht6 : Turned (fun k => (Value.slice a7 T2.length c7).ownBlock = some k) w5 w6 := (Turned.of_below hal).trans (Turned.of_grown hgrow (fun b e => e))
        have hob6 : ∀ k, (Value.slice a7 T2.length c7).ownBlock = some k → w.heap.size ≤ k := fun k hk => (own_is HOI.out hk).1
        have HSN : Hid (SetIs w6 w.heap.size (S2 ++ [g])) := by
          have h := HS5.out
          rw [hput.out] at h
          exact h.turn ht6 (own_ne_map HO5.out h)
        have HBN : Hid (Below w.heap.size w w6) := below_then (below_then HBW.out ht5 (by omega) (fun i e => by omega)) ht6 (by omega) hob6
        have HRN : Hid (∀ b, w1.heap.size ≤ b → b < w2.heap.size → w6.heap[b]? = w2.heap[b]?) := by
          intro b h1 h2
          rw [ht6.block b (by omega) (fun e => by rcases HOB.out b e with h | h <;> omega), ht5.block b (by omega) (by omega)]
          exact HRG.out b h1 h2
        have HON : Hid (∀ k, v'.ownBlock = some k → k < w1.heap.size ∨ w2.heap.size ≤ k) := by
          intro k hk
          rcases hat with h | h
          · exact HOB.out k (by rw [← h]; exact hk)
          · rw [hk] at h; simp only [Option.some.injEq] at h; right; (try rw [e5] at h); omega
        have hz6 := ht6.size
        have HWN : Hid (w6.ownsRow w.heap.size 9 1 v' (T2 ++ [g]).length ((T2 ++ [g]).flatMap strCells)) := by
          have : (T2 ++ [g]).flatMap strCells = T2.flatMap strCells ++ strCells g := by simp
          rw [this, List.length_append, List.length_singleton]
          exact hown'
        clear hown' hgrow hat hal e5 ht5 ht6 hob6
        go_wp2
        go_roundg (gs.length - (j + 1))
        case measure => omega
        case rel => exact ⟨j + 1, S2 ++ [g], T2 ++ [g], by omega, by go_num, rfl, HQ.out, HSN.out, HWN.out, HON.out, HBN.out, by omega, HRN.out, by simp; omega⟩
end Go.Proofs.YtgcfdbhpophnjaaDoor
