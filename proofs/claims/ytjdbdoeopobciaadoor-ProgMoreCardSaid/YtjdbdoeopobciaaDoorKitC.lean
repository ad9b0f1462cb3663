/- Contracts of the copies of the kit's lists: what comes back reads as what came in, in new memory, and nothing that was there is written. Condition: what comes in reads as the list. -/
import Derived.Test.YtjdbdoeopobciaaDoorProg
import Derived.Test.YtjdbdoeopobciaaDoorLib
set_option linter.unusedVariables false
set_option linter.unusedSimpArgs false
namespace Go.Proofs.YtjdbdoeopobciaaDoor
open Go.ChangeShapes Go.WideShapes Go.ChangeAt Go.RowKit
theorem infoStr : (Tryd.prog.info? 9).map (fun i => (i.zero, i.size, i.bytes)) = some (some (.string ⟨#[]⟩), 1, 16) := by kernel_rfl
set_option maxRecDepth 100000 in
set_option maxHeartbeats 400000 in
theorem copyStrs (av : Value) (l : List ByteArray) (w : World) (h : RdStrs none w av l) :
    Calls Tryd.prog 29 #[av] w fun e w' => ∃ v, e = .returned v ∧ RdStrs (some (upFrom w.heap.size)) w' v l ∧ Below w.heap.size w w' := by
  obtain ⟨a, c, rfl, hl, hr⟩ := h
  obtain ⟨i0, hi, hz0, hz1, hz2⟩ := info_parts infoStr
  have hok : Hid (∀ s ∈ l, s.size ≤ maxLen) := by
    intro s hs
    obtain ⟨i, hi⟩ := List.getElem?_of_mem hs
    obtain ⟨b, o, _, _, _, h1⟩ := hr i s hi
    exact h1
  have HR := Lib.hid hr
  clear hr
  go_enter Tryd.func29, Tryd.ntmps29
  go_wp2
  go_loopw [3, 4] (fun v i wr => ∃ k : Nat, k ≤ l.length ∧ i = .int .i64 k ∧ wr.ownsRow w.heap.size 9 1 v k ((l.take k).flatMap strCells) ∧ Below w.heap.size w wr) (fun _ i _ => l.length - (intOf i).toNat)
  case atStart => exact ⟨0, Nat.zero_le _, rfl, World.ownsRow_nil _ _ _ _, Below.refl _ _⟩
  case round =>
    obtain ⟨k, hk, rfl, hown, hb⟩ := hrel
    by_cases hlt : k < l.length
    · obtain ⟨x, hx⟩ : ∃ x, l[k]? = some x := ⟨_, List.getElem?_eq_getElem hlt⟩
      obtain ⟨b, o, rfl, _, c0, _⟩ := HR.out k x hx
      have c0' := cell_keepB hb c0 (block_lt_of_cell c0)
      have HX := Lib.hid (flat_take strCells l k x hx)
      clear c0
      have hsz := hb.size
      clear hx
      go_wp2_with (at_builtin; refine wpList_append_own _ rfl (.tmp 11) (.tmp 16) 22 rfl w.heap.size 9 i0 (.string ⟨#[]⟩) 1 16 Tryd.underlying22 hi hz0 hz1 hz2 rfl (by decide) _ _ _ rfl (hown.alloc _) ⟨wr.heap.size, 0, none⟩ 1 1 (strCells x) rfl rfl (many_new _ _ _) ?c2 ?c3 ?c4 ?c5 ?_)
      case c2 => intro u hu; simp [strCells, arrCells, argCells] at hu; first | (rcases hu with rfl | rfl <;> rfl) | (subst hu; rfl)
      case c3 => unfold maxLen; omega
      case c4 => omega
      case c5 => simp; omega
      · intro v' w1 hown' hgrow _
        rw [← HX.out] at hown'
        have hb1 := (hb.alloc hb.size (.cells (strCells x).toArray 9)).grown hgrow (by simp; omega) (own_row_le hown)
        clear hown
        go_wp2
        go_roundw
        case rel => exact ⟨k + 1, by omega, by go_num, hown', hb1⟩
        case measure => simp [intOf]; omega
    · obtain rfl : k = l.length := by omega
      rw [List.take_length] at hown
      go_wp2
      go_ret
      exact ⟨_, rfl, own_strs hown hl.1 hok.out, hb⟩
theorem infoArr : (Tryd.prog.info? 50).map (fun i => (i.zero, i.size, i.bytes)) = some (some (.agg #[.string ⟨#[]⟩, .int .i64 0]), 2, 24) := by kernel_rfl
set_option maxRecDepth 100000 in
set_option maxHeartbeats 400000 in
theorem copyArrs (av : Value) (l : List ArrD) (w : World) (h : RdArrs none w av l) :
    Calls Tryd.prog 30 #[av] w fun e w' => ∃ v, e = .returned v ∧ RdArrs (some (upFrom w.heap.size)) w' v l ∧ Below w.heap.size w w' := by
  obtain ⟨a, c, rfl, hl, hr⟩ := h
  obtain ⟨i0, hi, hz0, hz1, hz2⟩ := info_parts infoArr
  have hok : Hid (∀ s ∈ l, InI64 s.size ∧ s.name.size ≤ maxLen) := by
    intro s hs
    obtain ⟨i, hi⟩ := List.getElem?_of_mem hs
    obtain ⟨b, o, _, _, _, _, h1⟩ := hr i s hi
    exact h1
  have HR := Lib.hid hr
  clear hr
  go_enter Tryd.func30, Tryd.ntmps30
  go_wp2
  go_loopw [3, 4] (fun v i wr => ∃ k : Nat, k ≤ l.length ∧ i = .int .i64 k ∧ wr.ownsRow w.heap.size 50 2 v k ((l.take k).flatMap arrCells) ∧ Below w.heap.size w wr) (fun _ i _ => l.length - (intOf i).toNat)
  case atStart => exact ⟨0, Nat.zero_le _, rfl, World.ownsRow_nil _ _ _ _, Below.refl _ _⟩
  case round =>
    obtain ⟨k, hk, rfl, hown, hb⟩ := hrel
    by_cases hlt : k < l.length
    · obtain ⟨x, hx⟩ : ∃ x, l[k]? = some x := ⟨_, List.getElem?_eq_getElem hlt⟩
      obtain ⟨b, o, rfl, _, c0, c1, _⟩ := HR.out k x hx
      have c0' := cell_keepB hb c0 (block_lt_of_cell c0)
      have c1' := cell_keepB hb c1 (block_lt_of_cell c1)
      have HX := Lib.hid (flat_take arrCells l k x hx)
      clear c0 c1
      have hsz := hb.size
      clear hx
      go_wp2_with (at_builtin; refine wpList_append_own _ rfl (.tmp 11) (.tmp 16) 23 rfl w.heap.size 50 i0 (.agg #[.string ⟨#[]⟩, .int .i64 0]) 2 24 Tryd.underlying23 hi hz0 hz1 hz2 rfl (by decide) _ _ _ rfl (hown.alloc _) ⟨wr.heap.size, 0, none⟩ 1 1 (arrCells x) rfl rfl (many_new _ _ _) ?c2 ?c3 ?c4 ?c5 ?_)
      case c2 => intro u hu; simp [strCells, arrCells, argCells] at hu; first | (rcases hu with rfl | rfl <;> rfl) | (subst hu; rfl)
      case c3 => unfold maxLen; omega
      case c4 => omega
      case c5 => simp; omega
      · intro v' w1 hown' hgrow _
        rw [← HX.out] at hown'
        have hb1 := (hb.alloc hb.size (.cells (arrCells x).toArray 50)).grown hgrow (by simp; omega) (own_row_le hown)
        clear hown
        go_wp2
        go_roundw
        case rel => exact ⟨k + 1, by omega, by go_num, hown', hb1⟩
        case measure => simp [intOf]; omega
    · obtain rfl : k = l.length := by omega
      rw [List.take_length] at hown
      go_wp2
      go_ret
      exact ⟨_, rfl, own_arrs hown hl.1 hok.out, hb⟩
theorem infoArg : (Tryd.prog.info? 46).map (fun i => (i.zero, i.size, i.bytes)) = some (some (.agg #[.string ⟨#[]⟩, .int .u64 0]), 2, 24) := by kernel_rfl
set_option maxRecDepth 100000 in
set_option maxHeartbeats 400000 in
theorem copyArgs (av : Value) (l : List ArgD) (w : World) (h : RdArgs none w av l) :
    Calls Tryd.prog 73 #[av] w fun e w' => ∃ v, e = .returned v ∧ RdArgs (some (upFrom w.heap.size)) w' v l ∧ Below w.heap.size w w' := by
  obtain ⟨a, c, rfl, hl, hr⟩ := h
  obtain ⟨i0, hi, hz0, hz1, hz2⟩ := info_parts infoArg
  have hok : Hid (∀ s ∈ l, InU64 s.num ∧ s.name.size ≤ maxLen) := by
    intro s hs
    obtain ⟨i, hi⟩ := List.getElem?_of_mem hs
    obtain ⟨b, o, _, _, _, _, h1⟩ := hr i s hi
    exact h1
  have HR := Lib.hid hr
  clear hr
  go_enter Tryd.func73, Tryd.ntmps73
  go_wp2
  go_loopw [3, 4] (fun v i wr => ∃ k : Nat, k ≤ l.length ∧ i = .int .i64 k ∧ wr.ownsRow w.heap.size 46 2 v k ((l.take k).flatMap argCells) ∧ Below w.heap.size w wr) (fun _ i _ => l.length - (intOf i).toNat)
  case atStart => exact ⟨0, Nat.zero_le _, rfl, World.ownsRow_nil _ _ _ _, Below.refl _ _⟩
  case round =>
    obtain ⟨k, hk, rfl, hown, hb⟩ := hrel
    by_cases hlt : k < l.length
    · obtain ⟨x, hx⟩ : ∃ x, l[k]? = some x := ⟨_, List.getElem?_eq_getElem hlt⟩
      obtain ⟨b, o, rfl, _, c0, c1, _⟩ := HR.out k x hx
      have c0' := cell_keepB hb c0 (block_lt_of_cell c0)
      have c1' := cell_keepB hb c1 (block_lt_of_cell c1)
      have HX := Lib.hid (flat_take argCells l k x hx)
      clear c0 c1
      have hsz := hb.size
      clear hx
      go_wp2_with (at_builtin; refine wpList_append_own _ rfl (.tmp 11) (.tmp 16) 41 rfl w.heap.size 46 i0 (.agg #[.string ⟨#[]⟩, .int .u64 0]) 2 24 Tryd.underlying41 hi hz0 hz1 hz2 rfl (by decide) _ _ _ rfl (hown.alloc _) ⟨wr.heap.size, 0, none⟩ 1 1 (argCells x) rfl rfl (many_new _ _ _) ?c2 ?c3 ?c4 ?c5 ?_)
      case c2 => intro u hu; simp [strCells, arrCells, argCells] at hu; first | (rcases hu with rfl | rfl <;> rfl) | (subst hu; rfl)
      case c3 => unfold maxLen; omega
      case c4 => omega
      case c5 => simp; omega
      · intro v' w1 hown' hgrow _
        rw [← HX.out] at hown'
        have hb1 := (hb.alloc hb.size (.cells (argCells x).toArray 46)).grown hgrow (by simp; omega) (own_row_le hown)
        clear hown
        go_wp2
        go_roundw
        case rel => exact ⟨k + 1, by omega, by go_num, hown', hb1⟩
        case measure => simp [intOf]; omega
    · obtain rfl : k = l.length := by omega
      rw [List.take_length] at hown
      go_wp2
      go_ret
      exact ⟨_, rfl, own_args hown hl.1 hok.out, hb⟩
/-- An instruction as a value: its operands are the slice av. -/
abbrev instrV (x : InstrD) (av : Value) : Value := .agg #[.int .u8 x.kind, .int .u8 x.op, .string x.dst, .string x.name, av, .int .i64 x.line, .int .i64 x.col]
abbrev funcV (x : FuncD) (pv cv : Value) : Value := .agg #[.string x.name, pv, cv, .int .i64 x.line, .int .i64 x.col]
abbrev progV (p : ProgD) (cv av fv mv : Value) : Value := .agg #[.int .i64 p.width, cv, av, fv, mv]
set_option maxRecDepth 100000 in
set_option maxHeartbeats 400000 in
theorem copyInstr (x : InstrD) (av : Value) (w : World) (h : RdInstr none w x av) :
    Calls Tryd.prog 57 #[instrV x av] w fun e w' => ∃ av', e = .returned (instrV x av') ∧ RdInstr (some (upFrom w.heap.size)) w' x av' ∧ Below w.heap.size w w' := by
  obtain ⟨h, hrest⟩ := h
  obtain ⟨a, c, rfl, _⟩ := id h
  have H := Lib.hid h
  clear h
  go_enter Tryd.func57, Tryd.ntmps57
  go_wp2_with (first
    | (go_at_call 73; refine (copyArgs _ x.args _ (H.out.keep (((Below.refl _ _).alloc (Nat.le_refl _) _).alloc (by simp) _))).mono ?_; rintro e w1 ⟨v, rfl, hr, hb⟩; obtain ⟨h0, h1, hb'⟩ := heap2_of hb; obtain ⟨a', c', rfl, _⟩ := id hr; have c4 := row_of h0 4 (.slice a x.args.length c) rfl; have f4 := frozen_of_row w1 _ 4 _ _ h0; have H0 := Lib.hid (heap_setCell_same _ _ 4 _ _ (.slice a' x.args.length c') h0); have H1 := Lib.hid ((heap_setCell_other w1 ⟨w.heap.size, 4, none⟩ (w.heap.size + 1) (.slice a' x.args.length c') (by simp)).trans h1); have HB := Lib.hid hb; have HR := Lib.hid hr; clear h0 h1 hb hr)
    | (refine wpList_load_row rfl 43 (.tmp 1) rfl w.heap.size rfl 43 #[.int .u8 x.kind, .int .u8 x.op, .string x.dst, .string x.name, .slice a' x.args.length c', .int .i64 x.line, .int .i64 x.col] (0,0) _ ?h Tryd.underlying43 rfl ?s ?_; exact H0.out; kernel_rfl)
    | (refine wpList_store_row rfl 43 (.tmp 2) (.tmp 7) rfl (w.heap.size + 1) #[.int .u8 x.kind, .int .u8 x.op, .string x.dst, .string x.name, .slice a' x.args.length c', .int .i64 x.line, .int .i64 x.col] rfl rfl 43 #[.int .u8 0, .int .u8 0, .string ⟨#[]⟩, .string ⟨#[]⟩, .slice none 0 0, .int .i64 0, .int .i64 0] ?h2 ?s2 ?s3 ?s4 ?_; exact H1.out; kernel_rfl; kernel_rfl; kernel_rfl))
  refine bodyPost_ret (v := instrV x (.slice a' x.args.length c')) ?_ rfl ⟨_, rfl, ⟨?_, hrest⟩, below_row (hb'.setCell (by simp) _) (by simp) _⟩
  · exact results_cell_row (P := Tryd.prog) (fn := Tryd.f57) rfl _ _ (w.heap.size + 1) 43 _ (0,0) _ rfl (setRow_heap _ _ _ _ _ _ H1.out) Tryd.underlying43 rfl (by kernel_rfl)
  · have e : ((w.alloc (.cells #[.int .u8 x.kind, .int .u8 x.op, .string x.dst, .string x.name, .slice a x.args.length c, .int .i64 x.line, .int .i64 x.col] 43)).alloc (.cells #[.int .u8 0, .int .u8 0, .string ⟨#[]⟩, .string ⟨#[]⟩, .slice none 0 0, .int .i64 0, .int .i64 0] 43)).heap.size = w.heap.size + 1 + 1 := by
      show ((w.heap.push _).push _).size = _
      simp
    have hr := HR.out
    rw [e] at hr
    have hfr : From (w.heap.size + 1 + 1) w1 ((w1.setCell ⟨w.heap.size, 4, none⟩ (.slice a' x.args.length c')).setRow (w.heap.size + 1) #[.int .u8 x.kind, .int .u8 x.op, .string x.dst, .string x.name, .slice a' x.args.length c', .int .i64 x.line, .int .i64 x.col]) :=
      ((From.refl _ _).setCell (by simp; omega) _).setRow (by omega) _
    exact RdArgs.same hr hfr (fun b _ h => by unfold upFrom at *; omega)
theorem infoInstr : (Tryd.prog.info? 43).map (fun i => (i.zero, i.size, i.bytes)) = some (some (.agg #[.int .u8 0, .int .u8 0, .string ⟨#[]⟩, .string ⟨#[]⟩, .slice none 0 0, .int .i64 0, .int .i64 0]), 7, 80) := by kernel_rfl
set_option maxRecDepth 100000 in
set_option maxHeartbeats 1000000 in
theorem copyInstrs (av : Value) (l : List InstrD) (w : World) (h : RdInstrs none w av l) :
    Calls Tryd.prog 33 #[av] w fun e w' => ∃ v, e = .returned v ∧ RdInstrs (some (upFrom w.heap.size)) w' v l ∧ Below w.heap.size w w' := by
  obtain ⟨a, c, rfl, hl, hr⟩ := h
  obtain ⟨i0, hi, hz0, hz1, hz2⟩ := info_parts infoInstr
  have HR := Lib.hid hr
  clear hr
  go_enter Tryd.func33, Tryd.ntmps33
  go_wp2
  go_loopw [3, 4] (fun v i wr => ∃ (k : Nat) (P : List (InstrD × Value)), k ≤ l.length ∧ i = .int .i64 k ∧ P.map Prod.fst = l.take k ∧ wr.ownsRow w.heap.size 43 7 v k (P.flatMap insCells) ∧ (∀ p ∈ P, RdInstr (some (upFrom w.heap.size)) wr p.1 p.2) ∧ Below w.heap.size w wr) (fun _ i _ => l.length - (intOf i).toNat)
  case atStart => exact ⟨0, [], Nat.zero_le _, rfl, rfl, World.ownsRow_nil _ _ _ _, (fun p hp => nomatch hp), Below.refl _ _⟩
  case round =>
    obtain ⟨k, P, hk, rfl, hP, hown, hp, hb⟩ := hrel
    have HP := Lib.hid hP
    have HQ := Lib.hid hp
    clear hP hp
    by_cases hlt : k < l.length
    · obtain ⟨x, hx⟩ : ∃ x, l[k]? = some x := ⟨_, List.getElem?_eq_getElem hlt⟩
      obtain ⟨b, o, av, rfl, _, c0, c1, c2, c3, c4, c5, c6, hri⟩ := HR.out k x hx
      have d0 := cell_keepB hb c0 (block_lt_of_cell c0)
      have d1 := cell_keepB hb c1 (block_lt_of_cell c1)
      have d2 := cell_keepB hb c2 (block_lt_of_cell c2)
      have d3 := cell_keepB hb c3 (block_lt_of_cell c3)
      have d4 := cell_keepB hb c4 (block_lt_of_cell c4)
      have d5 := cell_keepB hb c5 (block_lt_of_cell c5)
      have d6 := cell_keepB hb c6 (block_lt_of_cell c6)
      have HRI := Lib.hid (hri.keep hb)
      have HX := Lib.hid hx
      have hsz := hb.size
      clear c0 c1 c2 c3 c4 c5 c6 hx hri
      go_wp2_with (first
        | (go_at_call 57; refine (copyInstr x av _ HRI.out).mono ?_; rintro e w1 ⟨av', rfl, hr1, hb1⟩; have hs1 := hb1.size; have hown1 := own_below hown hb1)
        | (at_builtin; refine wpList_append_own _ rfl (.tmp 11) (.tmp 17) 25 rfl w.heap.size 43 i0 (.agg #[.int .u8 0, .int .u8 0, .string ⟨#[]⟩, .string ⟨#[]⟩, .slice none 0 0, .int .i64 0, .int .i64 0]) 7 80 Tryd.underlying25 hi hz0 hz1 hz2 rfl (by decide) _ _ _ rfl (hown1.alloc _) ⟨w1.heap.size, 0, none⟩ 1 1 (insCells (x, av')) rfl rfl (many_new _ _ _) ?c2 ?c3 ?c4 ?c5 ?_))
      case c2 => intro u hu; simp [insCells] at hu; have h1 := rdArgs_one hr1.1; rcases hu with rfl | rfl | rfl | rfl | rfl | rfl | rfl <;> first | rfl | exact h1
      case c3 => unfold maxLen; omega
      case c4 => omega
      case c5 => simp; omega
      · intro v' w2 hown' hgrow _
        have hal : Below w1.heap.size w1 (w1.alloc (.cells (insCells (x, av')).toArray 43)) := (Below.refl _ _).alloc (Nat.le_refl _) _
        have hown2 := hown1.alloc (.cells (insCells (x, av')).toArray 43)
        have hnew : Hid (∀ p ∈ P ++ [(x, av')], RdInstr (some (upFrom w.heap.size)) w2 p.1 p.2) := by
          intro p hp
          rcases List.mem_append.1 hp with h | h
          · exact instr_grown hown2 hgrow (((HQ.out p h).keep hb1).keep hal)
          · rw [List.mem_singleton] at h; subst h
            exact instr_grown hown2 hgrow ((hr1.keep hal).up hsz)
        have hb2 : Below w.heap.size w w2 := (((hb.trans (hb1.mono hsz)).alloc (by omega) _).grown hgrow (by simp; omega) (own_row_le hown))
        rw [show P.flatMap insCells ++ insCells (x, av') = (P ++ [(x, av')]).flatMap insCells from by simp] at hown'
        clear hown hown1 hown2 hgrow hr1 hb1 hal hs1
        go_wp2
        go_roundw
        case rel => exact ⟨k + 1, P ++ [(x, av')], by omega, by go_num, map_take_snoc av' HP.out HX.out, hown', hnew.out, hb2⟩
        case measure => simp [intOf]; omega
    · obtain rfl : k = l.length := by omega
      have hP := HP.out
      rw [List.take_length] at hP
      go_wp2
      go_ret
      exact ⟨_, rfl, own_instrs hP hown hl.1 HQ.out, hb⟩
end Go.Proofs.YtjdbdoeopobciaaDoor
