/- Contract of the reference's refers: the first fault of what instructions refer to. Condition: the program reads. -/
import Derived.Test.YtjdbdoeopobciaaDoorRefS
set_option linter.unnecessarySimpa false
set_option linter.unusedVariables false
set_option linter.unusedSimpArgs false
namespace Go.Proofs.YtjdbdoeopobciaaDoor
open Go.ChangeShapes Go.WideShapes Go.ChangeAt Go.RowKit
theorem find_atL (s : ByteArray) (l : List FuncD) : (∃ (j : Nat) (f : FuncD), findZ s l = j ∧ l[j]? = some f ∧ atL s (paramsOf l) = some (f.params.length : Int)) ∨ (findZ s l = -1 ∧ atL s (paramsOf l) = none) := by
  unfold findZ atL paramsOf
  rw [List.find?_map]
  cases h : l.findIdx? (fun f => decide (f.name = s)) with
  | none =>
    refine .inr ⟨rfl, ?_⟩
    have : l.find? ((fun p : ByteArray × Int => decide (p.1 = s)) ∘ fun f => (f.name, (f.params.length : Int))) = none := by
      rw [List.find?_eq_none]
      intro x hx
      simpa using List.findIdx?_eq_none_iff.1 h x hx
    rw [this]; rfl
  | some j =>
    refine .inl ⟨j, ?_⟩
    obtain ⟨hj, h1, h2⟩ := List.findIdx?_eq_some_iff_getElem.1 h
    refine ⟨l[j], rfl, List.getElem?_eq_getElem hj, ?_⟩
    have : l.find? ((fun p : ByteArray × Int => decide (p.1 = s)) ∘ fun f => (f.name, (f.params.length : Int))) = some l[j] := by
      rw [List.find?_eq_some_iff_getElem]
      exact ⟨h1, j, hj, rfl, fun i hi => by simpa using h2 i hi⟩
    rw [this]; rfl
theorem labR_step (l : List InstrD) {k : Nat} {x : InstrD} (h : l[k]? = some x) : labelsOf (l.take (k + 1)) = if x.kind == 10 then labelsOf (l.take k) ++ [x.name] else labelsOf (l.take k) := by
  rw [List.take_add_one, h]
  exact labelsOf_snoc _ _
theorem inL_snocR (s x : ByteArray) (l : List ByteArray) : inL s (l ++ [x]) = (inL s l || decide (s = x)) := by
  unfold inL
  rw [List.any_append]; simp
theorem target_jump {ps : List (ByteArray × Int)} {ls : List ByteArray} {x : InstrD} (h : x.kind = 8 ∨ x.kind = 9) : targetF ps ls x = needF (inL x.name ls) x.line x.col 6 := by unfold targetF; rw [if_pos h]
theorem target_none {ps : List (ByteArray × Int)} {ls : List ByteArray} {x : InstrD} (h : ¬ (x.kind = 8 ∨ x.kind = 9)) (h4 : x.kind ≠ 4) : targetF ps ls x = none := by unfold targetF; rw [if_neg h, if_neg h4]
theorem target_call {ps : List (ByteArray × Int)} {ls : List ByteArray} {x : InstrD} (h4 : x.kind = 4) : targetF ps ls x = (needF (atL x.name ps).isSome x.line x.col 6).or (needF (decide ((atL x.name ps).getD 0 = x.args.length)) x.line x.col 4) := by
  unfold targetF; rw [if_neg (by omega), if_pos h4]
def refV (F : Option FaultD) : Value := .tuple #[.agg #[.int .i64 (posL F), .int .i64 (posC F)], .int .i64 (errOf F)]
theorem res_refers (tmps : Array Value) (W : World) (g : Nat) (l c e : Int) (h4 : tmps.getD 4 undef = .pointer (some ⟨g, 0, none⟩)) (h5 : tmps.getD 5 undef = .int .i64 e) (hg : W.heap[g]? = some (.cells #[.int .i64 l, .int .i64 c] 30 (0, 0))) :
    (results Tryd.f66 tmps).run Tryd.prog W = .ok (.tuple #[.agg #[.int .i64 l, .int .i64 c], .int .i64 e]) W := by
  have r0 := row_of hg 0 _ rfl
  have r1 := row_of hg 1 _ rfl
  rw [Array.getD_eq_getD_getElem?] at h4 h5
  have r0 : W.cell? ⟨g, 0, none⟩ = some (.int .i64 l) := r0
  have r1 : W.cell? ⟨g, 1, none⟩ = some (.int .i64 c) := r1
  simp [results, Tryd.results66, go_sem, h4, h5, r0, r1]
theorem pos_row {w : World} {g : Nat} {l c l' c' : Int} (hg : w.heap[g]? = some (.cells #[.int .i64 l, .int .i64 c] 30 (0, 0))) :
    ((w.setCell ⟨g, 0, none⟩ (.int .i64 l')).setCell ⟨g, 1, none⟩ (.int .i64 c')).heap[g]? = some (.cells #[.int .i64 l', .int .i64 c'] 30 (0, 0)) :=
  heap_setCell_same _ _ 1 _ _ (.int .i64 c') (heap_setCell_same _ _ 0 _ _ (.int .i64 l') hg)
set_option maxRecDepth 100000 in
set_option maxHeartbeats 6400000 in
theorem refRefers (p : ProgD) (cv av fv mv : Value) (i : Nat) (w : World) (h : RdProg none w p cv av fv mv) (hi : i ≤ p.funcs.length) :
    Calls Tryd.prog 66 #[progV p cv av fv mv, .int .i64 i] w fun e w' => e = .returned (refV (targetsF (paramsOf p.funcs) (labelsOf (codeAt p i)) (codeAt p i))) ∧ Below w.heap.size w w' := by
  obtain ⟨hrc, hra, hrf, hrm, hrw⟩ := id h
  obtain ⟨ac, kc, rfl, -, -⟩ := id hrc
  obtain ⟨aa, ka, rfl, -, -⟩ := id hra
  obtain ⟨af, kf, rfl, -, hrfs⟩ := id hrf
  obtain ⟨am, km, rfl, -, -⟩ := id hrm
  have H := Lib.hid h
  clear h hrc hra hrf hrm hrw
  go_enter Tryd.func66, Tryd.ntmps66
  go_upto_region 1 with fail
  have hb0 := ((Below.refl w.heap.size w).alloc (Nat.le_refl _) (.cells #[.int .i64 p.width, .slice ac p.chans.length kc, .slice aa p.arrays.length ka, .slice af p.funcs.length kf, .slice am p.main.length km] 27)).alloc (by simp) (.cells #[.int .i64 0, .int .i64 0] 30)
  have g0 := heap_alloc2_old w (.cells #[.int .i64 p.width, .slice ac p.chans.length kc, .slice aa p.arrays.length ka, .slice af p.funcs.length kf, .slice am p.main.length km] 27) (.cells #[.int .i64 0, .int .i64 0] 30)
  have g1 := heap_alloc2_new w (.cells #[.int .i64 p.width, .slice ac p.chans.length kc, .slice aa p.arrays.length ka, .slice af p.funcs.length kf, .slice am p.main.length km] 27) (.cells #[.int .i64 0, .int .i64 0] 30)
  generalize ((w.alloc (.cells #[.int .i64 p.width, .slice ac p.chans.length kc, .slice aa p.arrays.length ka, .slice af p.funcs.length kf, .slice am p.main.length km] 27)).alloc (.cells #[.int .i64 0, .int .i64 0] 30)) = W0 at *
  have hs0 : w.heap.size + 1 < W0.heap.size := (Array.getElem?_eq_some_iff.1 g1).1
  have G0 := Lib.hid g0
  have G1 := Lib.hid g1
  have HB0 := Lib.hid hb0
  have l0 := row_of g0 0 _ rfl
  have l1 := row_of g0 1 _ rfl
  have l2 := row_of g0 2 _ rfl
  have l3 := row_of g0 3 _ rfl
  have l4 := row_of g0 4 _ rfl
  clear g0 g1 hb0
  have HBd := Lib.hid (refBody2 p _ _ _ _ i W0 (H.out.keep HB0.out) hi)
  go_upto_region 2 with (go_at_call 28; refine HBd.out.mono ?_; rintro e w1 ⟨bv, rfl, hbr, hb1⟩; obtain ⟨ba, bc, rfl, ⟨hlb, -⟩, hbr⟩ := hbr W0 (H.out.keep HB0.out) (Below.refl _ _))
  have HR := Lib.hid hbr
  have HB1 := Lib.hid hb1
  obtain ⟨code, hcode⟩ : ∃ c, codeAt p i = c := ⟨_, rfl⟩
  rw [hcode] at HR hlb ⊢
  clear hbr hb1 l0 l1 l2 l3 l4 HBd hrfs
  go_wp2_with fail
  have HCD := Lib.hid hcode
  clear hcode hi
  go_loopw [7, 8, 9, 10, 11] (fun ii _ _ _ _ wr => ∃ k : Nat, k ≤ code.length ∧ ii = .int .i64 k ∧ firstF (fun _ x => targetF (paramsOf p.funcs) (labelsOf code) x) [] (code.take k) = none ∧ Below W0.heap.size W0 wr) (fun ii _ _ _ _ _ => code.length - (intOf ii).toNat)
  case atStart => exact ⟨0, Nat.zero_le _, rfl, rfl, HB1.out⟩
  case round =>
    obtain ⟨k, hk, rfl, hq, hb⟩ := hrel
    have HQ := Lib.hid hq
    have HB := Lib.hid hb
    have hszr := hb.size
    clear hq hb
    by_cases hlt : k < code.length
    · have hlt' : (k : Int) < (code.length : Int) := by omega
      obtain ⟨x, hx⟩ : ∃ x, code[k]? = some x := ⟨_, List.getElem?_eq_getElem hlt⟩
      obtain ⟨b, o, av', rfl, -, c0, c1, c2, c3, c4, c5, c6, hri⟩ := HR.out k x hx
      obtain ⟨axa, axc, rfl, hlx, -⟩ := id hri.1
      have d0 := cell_keep HB.out c0
      have d1 := cell_keep HB.out c1
      have d2 := cell_keep HB.out c2
      have d3 := cell_keep HB.out c3
      have d4 := cell_keep HB.out c4
      have d5 := cell_keep HB.out c5
      have d6 := cell_keep HB.out c6
      have HX := Lib.hid hx
      clear c0 c1 c2 c3 c4 c5 c6 hx hri
      go_upto_region 6 with fail
      have hbx : Below wr.heap.size wr (wr.alloc (.cells #[.int .u8 x.kind, .int .u8 x.op, .string x.dst, .string x.name, .slice axa x.args.length axc, .int .i64 x.line, .int .i64 x.col] 43)) := (Below.refl _ _).alloc (Nat.le_refl _) _
      have gx := heap_alloc_new wr (.cells #[.int .u8 x.kind, .int .u8 x.op, .string x.dst, .string x.name, .slice axa x.args.length axc, .int .i64 x.line, .int .i64 x.col] 43)
      have HB6 := Lib.hid (HB.out.trans (hbx.mono hszr))
      clear d0 d1 d2 d3 d4 d5 d6 hbx HB
      generalize wr.alloc (.cells #[.int .u8 x.kind, .int .u8 x.op, .string x.dst, .string x.name, .slice axa x.args.length axc, .int .i64 x.line, .int .i64 x.col] 43) = w6 at *
      generalize wr.heap.size = bx at *
      have x0 := row_of gx 0 _ rfl
      have GX := Lib.hid gx
      clear gx
      by_cases h89 : x.kind = 8 ∨ x.kind = 9
      · have HT := Lib.hid (target_jump (ps := paramsOf p.funcs) (ls := labelsOf code) h89)
        go_cut [32] from 15 to 85 (fun cc wx => cc = .bool true ∧ wx = w6)
        case first =>
          rcases h89 with h | h
          · have hb : (x.kind == 8) = true := by simp [h]
            go_wp2_with fail
            go_meet
            exact ⟨rfl, rfl⟩
          · have hb : (x.kind == 8) = false := by simp [h]
            have hb9 : (x.kind == 9) = true := by simp [h]
            go_wp2_with fail
            go_meet
            exact ⟨rfl, rfl⟩
        obtain ⟨rfl, rfl⟩ := hcut
        obtain ⟨w6, rfl⟩ : ∃ y : World, y = wc := ⟨_, rfl⟩
        go_wp2_with fail
        go_loopw [9, 10] (fun tt jj wi => ∃ j : Nat, j ≤ code.length ∧ jj = .int .i64 j ∧ tt = .bool (inL x.name (labelsOf (code.take j))) ∧ Below w6.heap.size w6 wi) (fun _ jj _ => code.length - (intOf jj).toNat)
        case atStart => exact ⟨0, Nat.zero_le _, rfl, by simp [labelsOf, inL], Below.refl _ _⟩
        case round =>
          obtain ⟨j, hj, rfl, rfl, hbi⟩ := hrel
          obtain ⟨wi, rfl⟩ : ∃ y : World, y = wr := ⟨_, rfl⟩
          have HBI := Lib.hid hbi
          clear hbi
          by_cases hjl : j < code.length
          · have hjl' : (j : Int) < (code.length : Int) := by omega
            obtain ⟨y, hy⟩ : ∃ y, code[j]? = some y := ⟨_, List.getElem?_eq_getElem hjl⟩
            obtain ⟨b2, o2, av2, e2, -, c0, -, -, c3, -⟩ := HR.out j y hy
            simp only [Option.some.injEq, Addr.mk.injEq, and_true] at e2
            obtain ⟨rfl, rfl⟩ := e2
            have HY0 := Lib.hid (cell_keep HBI.out (cell_keep HB6.out c0))
            have HY3 := Lib.hid (cell_keep HBI.out (cell_keep HB6.out c3))
            have HX3 := Lib.hid (cell_keep HBI.out (row_of GX.out 3 _ rfl))
            have HST := Lib.hid (labR_step code hy)
            clear c0 c3 hy
            go_upto_region 11 with fail
            have e0 := fun z => ext_cell HY0.out z
            have e3 := fun z => ext_cell HY3.out z
            have ex := fun z => ext_cell HX3.out z
            cases ht : inL x.name (labelsOf (code.take j))
            · have HT0 := Lib.hid ht
              clear ht
              by_cases h10 : y.kind = 10
              · rw [h10] at e0
                have h10b : (y.kind == 10) = true := by simp [h10]
                cases hn : (y.name.toList == x.name.toList)
                · have HV : Hid (inL x.name (labelsOf (code.take (j + 1))) = false) := by
                    unfold Hid
                    rw [HST.out, if_pos h10b, inL_snocR, HT0.out, Bool.false_or]
                    rw [beq_is] at hn
                    simp only [decide_eq_false_iff_not] at hn ⊢
                    exact fun e => hn e.symm
                  clear h10 h10b
                  (refine wp_region_calm (by kernel_rfl) (by kernel_rfl) ?_; (repeat (go_big_quiet_step (fail))); refine wpQuiet_nil ?_; intro wc hwc)
                  have HBN := Lib.hid (bcomp HBI.out hwc)
                  clear e0 e3 ex hn
                  go_wp2_with fail
                  go_roundw
                  case rel => exact ⟨j + 1, by omega, by go_num, by rw [HV.out], HBN.out⟩
                  case measure => simp [intOf]; omega
                · have HV : Hid (inL x.name (labelsOf (code.take (j + 1))) = true) := by
                    unfold Hid
                    rw [HST.out, if_pos h10b, inL_snocR]
                    rw [beq_is] at hn
                    simp only [decide_eq_true_eq] at hn
                    simp [hn]
                  clear h10 h10b
                  (refine wp_region_calm (by kernel_rfl) (by kernel_rfl) ?_; (repeat (go_big_quiet_step (fail))); refine wpQuiet_nil ?_; intro wc hwc)
                  have HBN := Lib.hid (bcomp HBI.out hwc)
                  clear e0 e3 ex hn
                  go_wp2_with fail
                  go_roundw
                  case rel => exact ⟨j + 1, by omega, by go_num, by rw [HV.out], HBN.out⟩
                  case measure => simp [intOf]; omega
              · have h10b : (y.kind == 10) = false := by simp [h10]
                have HV : Hid (inL x.name (labelsOf (code.take (j + 1))) = false) := by
                  unfold Hid
                  rw [HST.out, h10b]
                  exact HT0.out
                (refine wp_region_calm (by kernel_rfl) (by kernel_rfl) ?_; (repeat (go_big_quiet_step (fail))); refine wpQuiet_nil ?_; intro wc hwc)
                have HBN := Lib.hid (bcomp HBI.out hwc)
                clear e0 e3 ex
                go_wp2_with fail
                go_roundw
                case rel => exact ⟨j + 1, by omega, by go_num, by rw [HV.out], HBN.out⟩
                case measure => simp [intOf]; omega
            · have HV : Hid (inL x.name (labelsOf (code.take (j + 1))) = true) := by
                unfold Hid
                rw [HST.out]
                split
                · rw [inL_snocR, ht]; rfl
                · exact ht
              clear ht
              (refine wp_region_calm (by kernel_rfl) (by kernel_rfl) ?_; (repeat (go_big_quiet_step (fail))); refine wpQuiet_nil ?_; intro wc hwc)
              have HBN := Lib.hid (bcomp HBI.out hwc)
              clear e0 e3 ex
              go_wp2_with fail
              go_roundw
              case rel => exact ⟨j + 1, by omega, by go_num, by rw [HV.out], HBN.out⟩
              case measure => simp [intOf]; omega
          · obtain rfl : j = code.length := by omega
            have hW := HBI.out.size
            have hBN : Below W0.heap.size W0 wi := bcomp' HBI.out HB6.out
            have gxn := (HBI.out.block bx (Array.getElem?_eq_some_iff.1 GX.out).1).trans GX.out
            have grn := (hBN.block (w.heap.size + 1) hs0).trans G1.out
            have p5 := row_of gxn 5 _ rfl
            have p6 := row_of gxn 6 _ rfl
            have p0 := row_of gxn 0 _ rfl
            have z0 := row_of grn 0 _ rfl
            have z1 := row_of grn 1 _ rfl
            have f0 := frozen_of_row wi _ 0 _ _ grn
            have f1 := frozen_of_row wi _ 1 _ _ grn
            have HGR := Lib.hid grn
            have HBN := Lib.hid hBN
            have hb4 : (x.kind == 4) = false := by rcases h89 with h | h <;> simp [h]
            clear gxn grn hBN hW h89
            cases ht : inL x.name (labelsOf code)
            · have HV : Hid (targetsF (paramsOf p.funcs) (labelsOf code) code = some ⟨x.line, x.col, 6⟩) := by
                unfold Hid targetsF
                refine firstF_hit HX.out HQ.out ?_
                rw [HT.out, ht]; rfl
              rw [List.take_length] at *
              rw [ht]
              clear ht
              go_wp2_with fail
              refine bodyPost_ret (v := refV (some ⟨x.line, x.col, 6⟩)) (res_refers _ _ (w.heap.size + 1) x.line x.col 6 rfl rfl (pos_row HGR.out)) rfl ⟨by rw [HCD.out, HV.out], ?_⟩
              exact ((HB0.out.trans (HBN.out.mono HB0.out.size)).setCell (by simp) _).setCell (by simp) _
            · have HV : Hid (firstF (fun _ x => targetF (paramsOf p.funcs) (labelsOf code) x) [] (code.take (k + 1)) = none) := firstF_go HX.out HQ.out (by rw [HT.out, ht]; rfl)
              rw [List.take_length]
              rw [ht]
              clear ht
              go_wp2_with fail
              go_roundw
              case rel => exact ⟨k + 1, by omega, by go_num, HV.out, HBN.out⟩
              case measure => simp [intOf]; omega
      · have hb8 : (x.kind == 8) = false := by simp; exact fun e => h89 (.inl e)
        have hb9 : (x.kind == 9) = false := by simp; exact fun e => h89 (.inr e)
        by_cases h4 : x.kind = 4
        · have hb4 : (x.kind == 4) = true := by simp [h4]
          have HT := Lib.hid (target_call (ps := paramsOf p.funcs) (ls := labelsOf code) h4)
          have hg0 := (HB6.out.block w.heap.size (by omega)).trans G0.out
          have l0 := row_of hg0 0 _ rfl
          have l1 := row_of hg0 1 _ rfl
          have l2 := row_of hg0 2 _ rfl
          have l3 := row_of hg0 3 _ rfl
          have l4 := row_of hg0 4 _ rfl
          have x3 := row_of GX.out 3 _ rfl
          have C := refFind p (.slice ac p.chans.length kc) (.slice aa p.arrays.length ka) (.slice af p.funcs.length kf) (.slice am p.main.length km) x.name w6 ((H.out.keep HB0.out).keep HB6.out).2.2.1
          clear h89 h4
          rcases find_atL x.name p.funcs with ⟨j, f, e1, e2, e3⟩ | ⟨e1, e2⟩
          · rw [e1] at C
            have HC := Lib.hid C
            have HE := Lib.hid e3
            have hjl : j < p.funcs.length := (List.getElem?_eq_some_iff.1 e2).1
            have hjl' : (j : Int) < (p.funcs.length : Int) := by omega
            obtain ⟨a9, c9, e9, -, hr9⟩ := id ((H.out.keep HB0.out).keep HB6.out).2.2.1
            simp only [Value.slice.injEq] at e9
            obtain ⟨rfl, -, -⟩ := e9
            obtain ⟨fb, fo, pv9, cv9, rfl, -, -, y1, -, -, -, hf9⟩ := hr9 j f e2
            obtain ⟨pa, pcap, rfl, -⟩ := id hf9.1
            have HY1 := Lib.hid y1
            have HX4 := Lib.hid (row_of GX.out 4 _ rfl)
            have HL3 := Lib.hid l3
            clear C e1 e2 e3 hr9 hf9 y1
            go_upto_region 18 with (go_at_call 83; refine HC.out.mono ?_; rintro e w7 ⟨rfl, hb7⟩)
            have HB7 := Lib.hid (bcomp' hb7 HB6.out)
            have g3 := fun z => ext_cell (cell_keep hb7 HL3.out) z
            have g1' := fun z => ext_cell (cell_keep hb7 HY1.out) z
            have g4 := fun z => ext_cell (cell_keep hb7 HX4.out) z
            have hbx7 := Lib.hid ((hb7.block bx (Array.getElem?_eq_some_iff.1 GX.out).1).trans GX.out)
            clear l0 l1 l2 l3 l4 x3 x0 hb7 hg0
            by_cases hne : (f.params.length : Int) = (x.args.length : Int)
            · have HV : Hid (firstF (fun _ x => targetF (paramsOf p.funcs) (labelsOf code) x) [] (code.take (k + 1)) = none) := firstF_go HX.out HQ.out (by rw [HT.out, HE.out]; simp [needF, hne])
              have hneb : ((f.params.length : Int) != (x.args.length : Int)) = false := by simp [hne]
              clear hne
              (refine wp_region_calm (by kernel_rfl) (by kernel_rfl) ?_; (repeat (go_big_quiet_step (fail))); refine wpQuiet_nil ?_; intro wc hwc)
              have HB8 := Lib.hid (bcomp HB7.out hwc)
              clear g3 g1' g4
              go_wp2_with fail
              go_roundw
              case rel => exact ⟨k + 1, by omega, by go_num, HV.out, HB8.out⟩
              case measure => simp [intOf]; omega
            · have HV : Hid (targetsF (paramsOf p.funcs) (labelsOf code) code = some ⟨x.line, x.col, 4⟩) := by
                unfold Hid targetsF
                refine firstF_hit HX.out HQ.out ?_
                rw [HT.out, HE.out]; simp [needF, hne]
              have hneb : ((f.params.length : Int) != (x.args.length : Int)) = true := by simp [hne]
              clear hne
              (refine wp_region_calm (by kernel_rfl) (by kernel_rfl) ?_; (repeat (go_big_quiet_step (fail))); refine wpQuiet_nil ?_; intro wc hwc)
              have HB8 := Lib.hid (bcomp HB7.out hwc)
              have gx8 := (hwc.block bx (Array.getElem?_eq_some_iff.1 hbx7.out).1).trans hbx7.out
              have gr8 := (HB8.out.block (w.heap.size + 1) hs0).trans G1.out
              have p5 := row_of gx8 5 _ rfl
              have p6 := row_of gx8 6 _ rfl
              have z0 := row_of gr8 0 _ rfl
              have z1 := row_of gr8 1 _ rfl
              have f0 := frozen_of_row wc _ 0 _ _ gr8
              have f1 := frozen_of_row wc _ 1 _ _ gr8
              have HGR := Lib.hid gr8
              clear g3 g1' g4 gx8 gr8 hwc
              go_wp2_with fail
              refine bodyPost_ret (v := refV (some ⟨x.line, x.col, 4⟩)) (res_refers _ _ (w.heap.size + 1) x.line x.col 4 rfl rfl (pos_row HGR.out)) rfl ⟨by rw [HCD.out, HV.out], ?_⟩
              exact ((HB0.out.trans (HB8.out.mono HB0.out.size)).setCell (by simp) _).setCell (by simp) _
          · rw [e1] at C
            have HC := Lib.hid C
            have HV : Hid (targetsF (paramsOf p.funcs) (labelsOf code) code = some ⟨x.line, x.col, 6⟩) := by
              unfold Hid targetsF
              refine firstF_hit HX.out HQ.out ?_
              rw [HT.out, e2]; rfl
            clear C e1 e2
            go_upto_region 17 with (go_at_call 83; refine HC.out.mono ?_; rintro e w7 ⟨rfl, hb7⟩)
            have HB8 := Lib.hid (bcomp' hb7 HB6.out)
            have gx8 := (hb7.block bx (Array.getElem?_eq_some_iff.1 GX.out).1).trans GX.out
            have gr8 := (HB8.out.block (w.heap.size + 1) hs0).trans G1.out
            have p5 := row_of gx8 5 _ rfl
            have p6 := row_of gx8 6 _ rfl
            have z0 := row_of gr8 0 _ rfl
            have z1 := row_of gr8 1 _ rfl
            have f0 := frozen_of_row w7 _ 0 _ _ gr8
            have f1 := frozen_of_row w7 _ 1 _ _ gr8
            have HGR := Lib.hid gr8
            clear gx8 gr8 hb7 l0 l1 l2 l3 l4 x3 x0 hg0
            go_wp2_with fail
            refine bodyPost_ret (v := refV (some ⟨x.line, x.col, 6⟩)) (res_refers _ _ (w.heap.size + 1) x.line x.col 6 rfl rfl (pos_row HGR.out)) rfl ⟨by rw [HCD.out, HV.out], ?_⟩
            exact ((HB0.out.trans (HB8.out.mono HB0.out.size)).setCell (by simp) _).setCell (by simp) _
        · have hb4 : (x.kind == 4) = false := by simp [h4]
          have HV : Hid (firstF (fun _ x => targetF (paramsOf p.funcs) (labelsOf code) x) [] (code.take (k + 1)) = none) := firstF_go HX.out HQ.out (target_none h89 h4)
          clear h89 h4
          go_wp2_with fail
          go_roundw
          case rel => exact ⟨k + 1, by omega, by go_num, HV.out, HB6.out⟩
          case measure => simp [intOf]; omega
    · obtain rfl : k = code.length := by omega
      have hq := HQ.out
      rw [List.take_length] at hq
      have HV : Hid (targetsF (paramsOf p.funcs) (labelsOf code) code = none) := hq
      have hr0 := (HB.out.block (w.heap.size + 1) hs0).trans G1.out
      have z0 := row_of hr0 0 _ rfl
      have z1 := row_of hr0 1 _ rfl
      have fz0 := frozen_of_row wr _ 0 _ _ hr0
      have fz1 := frozen_of_row wr _ 1 _ _ hr0
      have HR0 := Lib.hid hr0
      clear hq hr0 HR
      go_wp2_with fail
      refine bodyPost_ret (v := refV none) (res_refers _ _ (w.heap.size + 1) 0 0 0 rfl rfl (pos_row HR0.out)) rfl ⟨by rw [HCD.out, HV.out], ?_⟩
      exact ((HB0.out.trans (HB.out.mono HB0.out.size)).setCell (by simp) _).setCell (by simp) _
end Go.Proofs.YtjdbdoeopobciaaDoor
