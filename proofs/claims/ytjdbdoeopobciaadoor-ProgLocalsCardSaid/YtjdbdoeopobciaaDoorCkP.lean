/- Contract of the reference's Later: targets and loops. Conditions: the program reads; its functions have different names, and are at most 32. What the reference's check says of names; where all is right the functions have different names. Plain. -/
import Derived.Test.YtjdbdoeopobciaaDoorRea
import Derived.Test.YtjdbdoeopobciaaDoorLoc
set_option linter.unnecessarySimpa false
set_option linter.unusedVariables false
set_option linter.unusedSimpArgs false
namespace Go.Proofs.YtjdbdoeopobciaaDoor
open Go.ChangeShapes Go.WideShapes Go.ChangeAt Go.RowKit
def codesL (p : ProgD) : List (List InstrD) := p.funcs.map (·.code) ++ [p.main]
theorem codesL_at (p : ProgD) {i : Nat} (h : i ≤ p.funcs.length) : (codesL p)[i]? = some (codeAt p i) := by
  unfold codesL codeAt
  by_cases hi : i < p.funcs.length
  · rw [List.getElem?_append_left (by simpa using hi), List.getElem?_map]
    cases hf : p.funcs[i]? with
    | none => rw [List.getElem?_eq_none_iff] at hf; omega
    | some f => rfl
  · obtain rfl : i = p.funcs.length := by omega
    rw [List.getElem?_append_right (by simp)]
    simp
theorem codesL_len (p : ProgD) : (codesL p).length = p.funcs.length + 1 := by simp [codesL]
def tgtsF (p : ProgD) : Option FaultD := firstF (fun _ c => targetsF (paramsOf p.funcs) (labelsOf c) c) [] (codesL p)
noncomputable def laterF (p : ProgD) : Option FaultD := (tgtsF p).or (loopsF p.funcs)
theorem tgts_map (ps : List (ByteArray × Int)) (f : List InstrD → Option FaultD) : ∀ (l : List FuncD) (d : List (List InstrD)) (d' : List FuncD), firstF (fun _ c => f c) d (l.map (·.code)) = firstF (fun _ x => f x.code) d' l
  | [], _, _ => rfl
  | x :: r, d, d' => by
    simp only [List.map_cons, firstF]
    rw [tgts_map ps f r (d ++ [x.code]) (d' ++ [x])]
theorem laterF_is (p : ProgD) : laterF p = (targsF p.funcs).or ((targetsF (paramsOf p.funcs) (labelsOf p.main) p.main).or (loopsF p.funcs)) := by
  unfold laterF tgtsF codesL targsF
  rw [firstF_append, tgts_map (paramsOf p.funcs) (fun c => targetsF (paramsOf p.funcs) (labelsOf c) c) p.funcs [] [], Option.or_assoc]
  simp [firstF]
theorem res_later (tmps : Array Value) (W : World) (g : Nat) (l c e : Int) (h2 : tmps.getD 2 undef = .pointer (some ⟨g, 0, none⟩)) (h3 : tmps.getD 3 undef = .int .i64 e) (hg : W.heap[g]? = some (.cells #[.int .i64 l, .int .i64 c] 30 (0, 0))) :
    (results Tryd.f39 tmps).run Tryd.prog W = .ok (.tuple #[.agg #[.int .i64 l, .int .i64 c], .int .i64 e]) W := by
  have r0 := row_of hg 0 _ rfl
  have r1 := row_of hg 1 _ rfl
  rw [Array.getD_eq_getD_getElem?] at h2 h3
  have r0 : W.cell? ⟨g, 0, none⟩ = some (.int .i64 l) := r0
  have r1 : W.cell? ⟨g, 1, none⟩ = some (.int .i64 c) := r1
  simp [results, Tryd.results39, go_sem, h2, h3, r0, r1]
theorem targets_err {ps : List (ByteArray × Int)} {ls : List ByteArray} {code : List InstrD} {F : FaultD} (h : targetsF ps ls code = some F) : 3 ≤ F.e ∧ F.e ≤ 9 :=
  targetsF_ev (P := fun F => 3 ≤ F.e ∧ F.e ≤ 9) ps ls code (fun _ _ e h1 h2 => ⟨h1, h2⟩) F h
open Classical in
theorem loop_iff (fs : List FuncD) (a : ByteArray) : loopB fs a = true ↔ Reach fs a a := by unfold loopB; rw [decide_eq_true_iff]
theorem loop_not {fs : List FuncD} {a : ByteArray} (h : loopB fs a = false) : ¬ Reach fs a a := fun hr => by rw [(loop_iff fs a).2 hr] at h; cases h
theorem refV_some (F : FaultD) : refV (some F) = .tuple #[.agg #[.int .i64 F.line, .int .i64 F.col], .int .i64 F.e] := rfl
theorem refV_none : refV none = .tuple #[.agg #[.int .i64 0, .int .i64 0], .int .i64 0] := rfl
set_option maxRecDepth 100000 in
set_option maxHeartbeats 6400000 in
theorem refLater (p : ProgD) (cv av fv mv : Value) (w : World) (h : RdProg none w p cv av fv mv) (hd : Distinct p.funcs) (hl : p.funcs.length ≤ 32) :
    Calls Tryd.prog 39 #[progV p cv av fv mv] w fun e w' => e = .returned (refV (laterF p)) ∧ Below w.heap.size w w' := by
  obtain ⟨hrc, hra, hrf, hrm, hrw⟩ := id h
  obtain ⟨ac, kc, rfl, -, -⟩ := id hrc
  obtain ⟨aa, ka, rfl, -, -⟩ := id hra
  obtain ⟨af, kf, rfl, -, hrfs⟩ := id hrf
  obtain ⟨am, km, rfl, -, -⟩ := id hrm
  have H := Lib.hid h
  have HD := Lib.hid hd
  have HR := Lib.hid hrfs
  clear h hrc hra hrf hrm hrw hrfs hd
  go_enter Tryd.func39, Tryd.ntmps39
  go_upto_region 1 with fail
  have hb0 := ((Below.refl w.heap.size w).alloc (Nat.le_refl _) (.cells #[.int .i64 p.width, .slice ac p.chans.length kc, .slice aa p.arrays.length ka, .slice af p.funcs.length kf, .slice am p.main.length km] 27)).alloc (by simp) (.cells #[.int .i64 0, .int .i64 0] 30)
  have g0 := heap_alloc2_old w (.cells #[.int .i64 p.width, .slice ac p.chans.length kc, .slice aa p.arrays.length ka, .slice af p.funcs.length kf, .slice am p.main.length km] 27) (.cells #[.int .i64 0, .int .i64 0] 30)
  have g1 := heap_alloc2_new w (.cells #[.int .i64 p.width, .slice ac p.chans.length kc, .slice aa p.arrays.length ka, .slice af p.funcs.length kf, .slice am p.main.length km] 27) (.cells #[.int .i64 0, .int .i64 0] 30)
  generalize ((w.alloc (.cells #[.int .i64 p.width, .slice ac p.chans.length kc, .slice aa p.arrays.length ka, .slice af p.funcs.length kf, .slice am p.main.length km] 27)).alloc (.cells #[.int .i64 0, .int .i64 0] 30)) = W0 at *
  have hs0 : w.heap.size + 1 < W0.heap.size := (Array.getElem?_eq_some_iff.1 g1).1
  have G0 := Lib.hid g0
  have G1 := Lib.hid g1
  have HB0 := Lib.hid hb0
  clear g0 g1 hb0
  go_wp2_with fail
  go_loopw [4, 5, 6] (fun ii _ _ wr => ∃ k : Nat, k ≤ p.funcs.length + 1 ∧ ii = .int .i64 k ∧ firstF (fun _ c => targetsF (paramsOf p.funcs) (labelsOf c) c) [] ((codesL p).take k) = none ∧ Below W0.heap.size W0 wr) (fun ii _ _ _ => p.funcs.length + 1 - (intOf ii).toNat)
  case atStart => exact ⟨0, Nat.zero_le _, rfl, rfl, Below.refl _ _⟩
  case round =>
    obtain ⟨k, hk, rfl, hq, hb⟩ := hrel
    have HQ := Lib.hid hq
    have HB := Lib.hid hb
    have hszr := hb.size
    have hg0 := (hb.block w.heap.size (by omega)).trans G0.out
    have l0 := row_of hg0 0 _ rfl
    have l1 := row_of hg0 1 _ rfl
    have l2 := row_of hg0 2 _ rfl
    have l3 := row_of hg0 3 _ rfl
    have l4 := row_of hg0 4 _ rfl
    clear hq hb hg0
    by_cases hlt : k ≤ p.funcs.length
    · have hlt' : (k : Int) ≤ (p.funcs.length : Int) := by omega
      have hC := refRefers p _ _ _ _ k wr ((H.out.keep HB0.out).keep HB.out) hlt
      have HX := Lib.hid (codesL_at p hlt)
      cases hF : targetsF (paramsOf p.funcs) (labelsOf (codeAt p k)) (codeAt p k) with
      | none =>
        have HV : Hid (firstF (fun _ c => targetsF (paramsOf p.funcs) (labelsOf c) c) [] ((codesL p).take (k + 1)) = none) := firstF_go HX.out HQ.out hF
        rw [hF, refV_none] at hC
        have HC := Lib.hid hC
        clear hC hF
        go_wp2_with (go_at_call 66; refine HC.out.mono ?_; rintro e w1 ⟨rfl, hb1⟩; have HB1 := Lib.hid (bcomp HB.out hb1); clear hb1)
        have HB2 := Lib.hid (bcomp HB1.out ((Below.refl w1.heap.size w1).alloc (Nat.le_refl _) (.cells #[.int .i64 0, .int .i64 0] 30)))
        go_roundw
        case rel => exact ⟨k + 1, by omega, by go_num, HV.out, HB2.out⟩
        case measure => simp [intOf]; omega
      | some F =>
        have HV : Hid (laterF p = some F) := by
          unfold Hid laterF tgtsF
          rw [firstF_hit HX.out HQ.out hF]; rfl
        obtain ⟨he1, he2⟩ := targets_err hF
        have hne : (F.e != 0) = true := by simp; omega
        rw [hF, refV_some] at hC
        have HC := Lib.hid hC
        clear hC hF
        go_upto_region 5 with (go_at_call 66; refine HC.out.mono ?_; rintro e w1 ⟨rfl, hb1⟩; have HB1 := Lib.hid (bcomp HB.out hb1); clear hb1)
        have gx := heap_alloc_new w1 (.cells #[.int .i64 F.line, .int .i64 F.col] 30)
        have HB2 := Lib.hid (bcomp HB1.out ((Below.refl w1.heap.size w1).alloc (Nat.le_refl _) (.cells #[.int .i64 F.line, .int .i64 F.col] 30)))
        generalize w1.alloc (.cells #[.int .i64 F.line, .int .i64 F.col] 30) = w2 at *
        have x0 := row_of gx 0 _ rfl
        have x1 := row_of gx 1 _ rfl
        have gr := (HB2.out.block (w.heap.size + 1) hs0).trans G1.out
        have z0 := row_of gr 0 _ rfl
        have z1 := row_of gr 1 _ rfl
        have f0 := frozen_of_row w2 _ 0 _ _ gr
        have f1 := frozen_of_row w2 _ 1 _ _ gr
        have HGR := Lib.hid gr
        clear gx gr l0 l1 l2 l3 l4
        go_wp2_with fail
        refine bodyPost_ret (v := refV (some F)) (res_later _ _ (w.heap.size + 1) F.line F.col F.e rfl rfl (pos_row HGR.out)) rfl ⟨by rw [HV.out], ?_⟩
        exact ((HB0.out.trans (HB2.out.mono HB0.out.size)).setCell (by simp) _).setCell (by simp) _
    · obtain rfl : k = p.funcs.length + 1 := by omega
      have hlt' : ¬ ((p.funcs.length : Int) + 1 ≤ (p.funcs.length : Int)) := by omega
      have HT : Hid (tgtsF p = none) := by
        have := HQ.out
        rw [← codesL_len p, List.take_length] at this
        exact this
      have HV : Hid (laterF p = loopsF p.funcs) := by unfold Hid laterF; rw [HT.out]; rfl
      obtain ⟨wo, rfl⟩ : ∃ x : World, x = wr := ⟨_, rfl⟩
      go_wp2_with fail
      go_loopw [7] (fun ii wr => ∃ k : Nat, k ≤ p.funcs.length ∧ ii = .int .i64 k ∧ firstF (fun _ (f : FuncD) => needF (!loopB p.funcs f.name) f.line f.col 9) [] (p.funcs.take k) = none ∧ Below W0.heap.size W0 wr) (fun ii _ => p.funcs.length - (intOf ii).toNat)
      case atStart => exact ⟨0, Nat.zero_le _, rfl, rfl, HB.out⟩
      case round =>
        obtain ⟨k, hk, rfl, hq, hb⟩ := hrel
        clear HQ HB l0 l1 l2 l3 l4 hszr
        have HQ := Lib.hid hq
        have HB := Lib.hid hb
        have hszr := hb.size
        have hg0 := (hb.block w.heap.size (by omega)).trans G0.out
        have l0 := row_of hg0 0 _ rfl
        have l1 := row_of hg0 1 _ rfl
        have l2 := row_of hg0 2 _ rfl
        have l3 := row_of hg0 3 _ rfl
        have l4 := row_of hg0 4 _ rfl
        clear hq hb hg0
        by_cases hlt : k < p.funcs.length
        · have hlt' : (k : Int) < (p.funcs.length : Int) := by omega
          obtain ⟨f, hf⟩ : ∃ f, p.funcs[k]? = some f := ⟨_, List.getElem?_eq_getElem hlt⟩
          have HF := Lib.hid hf
          have HC := Lib.hid (refReaches p _ _ _ _ k f wr ((H.out.keep HB0.out).keep HB.out) HD.out hf hl)
          obtain ⟨fb, fo, pv9, cv9, rfl, -, -, -, -, y3, y4, -⟩ := HR.out k f hf
          have Y3 := Lib.hid y3
          have Y4 := Lib.hid y4
          clear hf y3 y4
          cases hlb : loopB p.funcs f.name
          · have HV2 : Hid (firstF (fun _ (f : FuncD) => needF (!loopB p.funcs f.name) f.line f.col 9) [] (p.funcs.take (k + 1)) = none) := firstF_go HF.out HQ.out (by rw [hlb]; rfl)
            have HLB := Lib.hid hlb
            clear hlb
            go_upto_region 10 with fail
            go_wp2_with (go_at_call 67; refine HC.out.mono ?_; rintro e w1 ⟨b, O, rfl, hrow, hol, hO, hb1⟩; have HB1 := Lib.hid (bcomp HB.out hb1); obtain ⟨bb, hbb⟩ : ∃ bb, O[k]? = some bb := ⟨_, List.getElem?_eq_getElem (by rw [hol]; exact hlt)⟩; obtain rfl : bb = false := by { have h1 := hO k f HF.out; have h2 := loop_not HLB.out; cases bb; rfl; exact absurd (h1.1 hbb) h2 }; have hcu := row_of hrow k _ (boolsO_at hbb); clear hrow hol hO hbb hb1 l0 l1 l2 l3 l4)
            go_roundw
            case rel => exact ⟨k + 1, by omega, by go_num, HV2.out, HB1.out⟩
            case measure => simp [intOf]; omega
          · have HV2 : Hid (laterF p = some ⟨f.line, f.col, 9⟩) := by
              unfold Hid
              rw [HV.out]
              exact firstF_hit HF.out HQ.out (by rw [hlb]; rfl)
            have HLB := Lib.hid hlb
            clear hlb
            go_upto_region 11 with (go_at_call 67; refine HC.out.mono ?_; rintro e w1 ⟨b, O, rfl, hrow, hol, hO, hb1⟩; have HB1 := Lib.hid (bcomp HB.out hb1); obtain ⟨bb, hbb⟩ : ∃ bb, O[k]? = some bb := ⟨_, List.getElem?_eq_getElem (by rw [hol]; exact hlt)⟩; obtain rfl : bb = true := by { have h1 := hO k f HF.out; have h2 := (loop_iff _ _).1 HLB.out; have h3 := h1.2 h2; rw [hbb] at h3; exact Option.some.inj h3 }; have hcu := row_of hrow k _ (boolsO_at hbb); have m3 := cell_keep hb1 l3; clear hrow hol hO hbb hb1 l0 l1 l2 l3 l4)
            have gr := (HB1.out.block (w.heap.size + 1) hs0).trans G1.out
            have z0 := row_of gr 0 _ rfl
            have z1 := row_of gr 1 _ rfl
            have f0 := frozen_of_row w1 _ 0 _ _ gr
            have f1 := frozen_of_row w1 _ 1 _ _ gr
            have y3 := cell_keep HB1.out (cell_keep HB0.out Y3.out)
            have y4 := cell_keep HB1.out (cell_keep HB0.out Y4.out)
            have HGR := Lib.hid gr
            clear gr
            go_wp2_with fail
            refine bodyPost_ret (v := refV (some ⟨f.line, f.col, 9⟩)) (res_later _ _ (w.heap.size + 1) f.line f.col 9 rfl rfl (pos_row HGR.out)) rfl ⟨by rw [HV2.out], ?_⟩
            exact ((HB0.out.trans (HB1.out.mono HB0.out.size)).setCell (by simp) _).setCell (by simp) _
        · obtain rfl : k = p.funcs.length := by omega
          have HV2 : Hid (laterF p = none) := by
            have := HQ.out
            rw [List.take_length] at this
            unfold Hid
            rw [HV.out]
            exact this
          have gr := (HB.out.block (w.heap.size + 1) hs0).trans G1.out
          have z0 := row_of gr 0 _ rfl
          have z1 := row_of gr 1 _ rfl
          have f0 := frozen_of_row wr _ 0 _ _ gr
          have f1 := frozen_of_row wr _ 1 _ _ gr
          have HGR := Lib.hid gr
          clear gr
          go_wp2_with fail
          refine bodyPost_ret (v := refV none) (res_later _ _ (w.heap.size + 1) 0 0 0 rfl rfl (pos_row HGR.out)) rfl ⟨by rw [HV2.out], ?_⟩
          exact ((HB0.out.trans (HB.out.mono HB0.out.size)).setCell (by simp) _).setCell (by simp) _
theorem namesF_some {l : List ByteArray} (x y : Int) (h : namesE l ≠ 0) : namesF l x y = some ⟨x, y, namesE l⟩ := by
  have h1 := namesF_err l x y
  unfold namesF at h1 ⊢
  split
  · rename_i h2
    unfold namesE
    rw [if_pos h2]
  · rename_i h2
    rw [if_neg h2] at h1
    cases hd : declsF l 0 0 with
    | none => rw [hd] at h1; exact absurd h1.symm h
    | some F => rw [hd] at h1; rw [← h1]; rfl
theorem decls_ev (l : List ByteArray) : Ev (fun F => 3 ≤ F.e ∧ F.e ≤ 9) (declsF l 0 0) := declsF_ev (P := fun F => 3 ≤ F.e ∧ F.e ≤ 9) l 0 0 (fun e h1 h2 => ⟨h1, h2⟩)
theorem namesF_zero {l : List ByteArray} (x y : Int) (h : namesE l = 0) : namesF l x y = none := by
  have h1 := namesF_err l x y
  rw [h] at h1
  cases hn : namesF l x y with
  | none => rfl
  | some F =>
    rw [hn] at h1
    unfold namesF at hn
    split at hn
    · cases hn; cases h1
    · obtain ⟨G, hG, rfl⟩ := Option.map_eq_some_iff.1 hn
      have := decls_ev l G hG
      change G.e = 0 at h1
      omega
theorem names_len {l : List ByteArray} (h : namesE l = 0) : l.length ≤ 32 := by
  unfold namesE at h
  split at h
  · cases h
  · omega
theorem distinct_of {fs : List FuncD} (h : declsF (fNames fs) 0 0 = none) : Distinct fs := by
  have key : ∀ (i j : Nat) (f g : FuncD), fs[i]? = some f → fs[j]? = some g → i < j → f.name ≠ g.name := by
    intro i j f g hi hj hij e
    have hj' : (fNames fs)[j]? = some g.name := by unfold fNames; rw [List.getElem?_map, hj]; rfl
    have hjl := (List.getElem?_eq_some_iff.1 hj').1
    have es : fNames fs = (fNames fs).take j ++ g.name :: (fNames fs).drop (j + 1) := by
      rw [← (List.getElem?_eq_some_iff.1 hj').2, List.getElem_cons_drop, List.take_append_drop]
    unfold declsF at h
    have h1 := (firstF_none _ _ _).1 h _ _ _ es
    unfold declF at h1
    have h2 := need_none (Option.or_eq_none_iff.1 h1).2
    simp only [List.nil_append, Bool.not_eq_true'] at h2
    refine inL_not.1 h2 ?_
    rw [← e]
    refine List.mem_iff_getElem?.2 ⟨i, ?_⟩
    rw [List.getElem?_take, if_pos hij]
    unfold fNames; rw [List.getElem?_map, hi]; rfl
  intro i j f g hi hj e
  rcases Nat.lt_trichotomy i j with h1 | h1 | h1
  · exact absurd e (key i j f g hi hj h1)
  · exact h1
  · exact absurd e.symm (key j i g f hj hi h1)
theorem refFuncs_distinct {p : ProgD} (hl : p.funcs.length ≤ 32) (h : firstF (refFunF p) [] p.funcs = none) : Distinct p.funcs := by
  rw [refFuncs hl] at h
  have := funcs_names p.funcs [] rfl h
  rw [List.nil_append] at this
  exact distinct_of this
theorem codeR_ev (p : ProgD) (i : Nat) : Ev (fun F => 3 ≤ F.e ∧ F.e ≤ 9) (codeR p i) := by
  unfold codeR
  refine Ev.first _ _ fun d x _ => ?_
  unfold bodyR
  intro F hF
  repeat' split at hF
  all_goals first | (cases hF; simp; done) | cases hF
/-- The reference's check, in order. -/
theorem ref_is (p : ProgD) : checkF p =
    (needF (decide (1 ≤ p.width) && decide (p.width ≤ 64)) 0 0 3).or ((namesF p.chans 0 0).or ((needF (decide (p.arrays.length ≤ 32)) 0 0 5).or ((firstF refArrF [] p.arrays).or ((needF (decide (p.funcs.length ≤ 32)) 0 0 5).or ((firstF (refFunF p) [] p.funcs).or ((needF (decide (p.main.length ≤ 1024)) 0 0 5).or ((codeR p p.funcs.length).or (laterF p)))))))) := by
  rw [← refA_is p (laterF p) (laterF_is p)]
  unfold refA
  simp only [Option.or_assoc]
end Go.Proofs.YtjdbdoeopobciaaDoor
