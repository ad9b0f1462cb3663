/- Contract of the reference's body: the first fault of the instructions of a function by themselves. Condition: the program reads, and has at most 100000 instructions. -/
import Derived.Test.YtjdbdoeopobciaaDoorRefR
set_option linter.unnecessarySimpa false
set_option linter.unusedVariables false
set_option linter.unusedSimpArgs false
namespace Go.Proofs.YtjdbdoeopobciaaDoor
open Go.ChangeShapes Go.WideShapes Go.ChangeAt Go.RowKit
/-- What is wrong with an instruction by itself, where S are the program's sites, as many as there may be. -/
def bodyR (chans arrays : List ByteArray) (main : Bool) (S : List ByteArray) (labels : List ByteArray) (x : InstrD) : Option FaultD :=
  if !formB x || (decide (x.kind = 12) && main) then some ⟨x.line, x.col, 4⟩
  else if (decide (x.kind = 5) || decide (x.kind = 6)) && !inL x.name chans then some ⟨x.line, x.col, 6⟩
  else if (decide (x.kind = 2) || decide (x.kind = 3)) && !inL x.name arrays then some ⟨x.line, x.col, 6⟩
  else if decide (x.kind = 10) && inL x.name labels then some ⟨x.line, x.col, 8⟩
  else if decide (x.kind = 7) && !inL x.name S then some ⟨x.line, x.col, 5⟩
  else none
def sitesP (p : ProgD) : List ByteArray := (sitesOf [] (preC p (p.funcs.length + 1))).take 32
def codeR (p : ProgD) (i : Nat) : Option FaultD := firstF (fun d x => bodyR p.chans (aNames p.arrays) (decide (i = p.funcs.length)) (sitesP p) (labelsOf d) x) [] (codeAt p i)
theorem res_body (tmps : Array Value) (W : World) (g : Nat) (l c e : Int) (h4 : tmps.getD 4 undef = .pointer (some ⟨g, 0, none⟩)) (h5 : tmps.getD 5 undef = .int .i64 e) (hg : W.heap[g]? = some (.cells #[.int .i64 l, .int .i64 c] 30 (0, 0))) :
    (results Tryd.f38 tmps).run Tryd.prog W = .ok (.tuple #[.agg #[.int .i64 l, .int .i64 c], .int .i64 e]) W := by
  have r0 := row_of hg 0 _ rfl
  have r1 := row_of hg 1 _ rfl
  rw [Array.getD_eq_getD_getElem?] at h4 h5
  have r0 : W.cell? ⟨g, 0, none⟩ = some (.int .i64 l) := r0
  have r1 : W.cell? ⟨g, 1, none⟩ = some (.int .i64 c) := r1
  simp [results, Tryd.results38, go_sem, h4, h5, r0, r1]
set_option maxRecDepth 100000 in
set_option maxHeartbeats 6400000 in
theorem refBodyR (p : ProgD) (cv av fv mv : Value) (i : Nat) (w : World) (h : RdProg none w p cv av fv mv) (hN : (codesOf p.funcs).length + p.main.length ≤ 100000) (hi : i ≤ p.funcs.length) :
    Calls Tryd.prog 38 #[progV p cv av fv mv, .int .i64 i] w fun e w' => e = .returned (refV (codeR p i)) ∧ Below w.heap.size w w' := by
  obtain ⟨hrc, hra, hrf, hrm, hrw⟩ := id h
  obtain ⟨ac, kc, rfl, -, -⟩ := id hrc
  obtain ⟨aa, ka, rfl, -, -⟩ := id hra
  obtain ⟨af, kf, rfl, -, hrfs⟩ := id hrf
  obtain ⟨am, km, rfl, -, -⟩ := id hrm
  obtain ⟨i0, hj, hz0, hz1, hz2⟩ := info_parts infoStr
  have H := Lib.hid h
  clear h hrc hra hrf hrm hrw
  go_enter Tryd.func38, Tryd.ntmps38
  go_upto_region 1 with fail
  have hb0 := ((Below.refl w.heap.size w).alloc (Nat.le_refl _) (.cells #[.int .i64 p.width, .slice ac p.chans.length kc, .slice aa p.arrays.length ka, .slice af p.funcs.length kf, .slice am p.main.length km] 27)).alloc (by simp) (.cells #[.int .i64 0, .int .i64 0] 30)
  have g0 := heap_alloc2_old w (.cells #[.int .i64 p.width, .slice ac p.chans.length kc, .slice aa p.arrays.length ka, .slice af p.funcs.length kf, .slice am p.main.length km] 27) (.cells #[.int .i64 0, .int .i64 0] 30)
  have g1 := heap_alloc2_new w (.cells #[.int .i64 p.width, .slice ac p.chans.length kc, .slice aa p.arrays.length ka, .slice af p.funcs.length kf, .slice am p.main.length km] 27) (.cells #[.int .i64 0, .int .i64 0] 30)
  generalize ((w.alloc (.cells #[.int .i64 p.width, .slice ac p.chans.length kc, .slice aa p.arrays.length ka, .slice af p.funcs.length kf, .slice am p.main.length km] 27)).alloc (.cells #[.int .i64 0, .int .i64 0] 30)) = W0 at *
  have hs0 : w.heap.size + 1 < W0.heap.size := (Array.getElem?_eq_some_iff.1 g1).1
  have HB0 := Lib.hid hb0
  have G0 := Lib.hid g0
  have G1 := Lib.hid g1
  have l0 := row_of g0 0 _ rfl
  have l1 := row_of g0 1 _ rfl
  have l2 := row_of g0 2 _ rfl
  have l3 := row_of g0 3 _ rfl
  have l4 := row_of g0 4 _ rfl
  clear g0 g1 hb0
  have HS := Lib.hid (refSites p _ _ _ _ W0 (H.out.keep HB0.out) hN)
  go_upto_region 3 with (go_at_call 64; refine HS.out.mono ?_; rintro e w1 ⟨sv, rfl, hsr, hb1⟩; obtain ⟨sa, sc, rfl, ⟨hls, hlsc⟩, -⟩ := id hsr)
  have m0 := cell_keep hb1 l0
  have m1 := cell_keep hb1 l1
  have m2 := cell_keep hb1 l2
  have m3 := cell_keep hb1 l3
  have m4 := cell_keep hb1 l4
  clear l0 l1 l2 l3 l4 HS
  have HBd := Lib.hid (refBody2 p _ _ _ _ i w1 ((H.out.keep HB0.out).keep hb1) hi)
  go_upto_region 4 with (go_at_call 28; refine HBd.out.mono ?_; rintro e w2 ⟨bv, rfl, hbr, hb2⟩; have hbr := hbr w1 ((H.out.keep HB0.out).keep hb1) (Below.refl _ _); obtain ⟨ba, bc, rfl, ⟨hlb, -⟩, -⟩ := id hbr)
  have hb02 := bcomp hb1 hb2
  have HR : Hid (RdInstrs none w2 (.slice ba (codeAt p i).length bc) (codeAt p i)) := hbr.keep hb2
  have HSR := Lib.hid (hsr.forget.keep hb2)
  have HP2 := Lib.hid (((H.out.keep HB0.out).keep hb02))
  have K0 := Lib.hid ((hb02.block w.heap.size (by omega)).trans G0.out)
  have K1 := Lib.hid ((hb02.block (w.heap.size + 1) hs0).trans G1.out)
  have HB2 := Lib.hid (HB0.out.trans (hb02.mono HB0.out.size))
  have hs2 := hb02.size
  clear m0 m1 m2 m3 m4 hb1 hb2 hb02 hbr hsr HBd hrfs G0 G1
  obtain ⟨S, hS⟩ : ∃ S, sitesOf [] (preC p (p.funcs.length + 1)) = S := ⟨_, rfl⟩
  obtain ⟨code, hcode⟩ : ∃ c, codeAt p i = c := ⟨_, rfl⟩
  rw [hS] at HSR hls hlsc ⊢
  rw [hcode] at HR hlb ⊢
  have HCD := Lib.hid (And.intro hS hcode)
  clear hS hcode
  go_wp2_with fail
  go_loopw [6, 9, 10] (fun lv ii _ wr => ∃ (k : Nat) (L : List ByteArray) (a : Option Addr) (c : Nat), k ≤ code.length ∧ ii = .int .i64 k ∧ Hid (L = labelsOf (code.take k)) ∧ lv = .slice a L.length c ∧ L.length ≤ k ∧ wr.ownsRow w2.heap.size 9 1 (.slice a L.length c) L.length (L.flatMap strCells) ∧ (∀ s ∈ L, s.size ≤ maxLen) ∧ firstF (fun d x => bodyR p.chans (aNames p.arrays) (decide (i = p.funcs.length)) (S.take 32) (labelsOf d) x) [] (code.take k) = none ∧ Below w2.heap.size w2 wr) (fun _ ii _ _ => code.length - (intOf ii).toNat)
  case atStart => exact ⟨0, [], none, 0, Nat.zero_le _, rfl, by unfold Hid; simp [labelsOf], rfl, Nat.le_refl _, World.ownsRow_nil _ _ _ _, (fun s hs => nomatch hs), rfl, Below.refl _ _⟩
  case round =>
    obtain ⟨k, L, la, lc, hk, rfl, hLe, rfl, hLk, hown, hok, hq, hb⟩ := hrel
    have HQ := Lib.hid hq
    have HB := Lib.hid hb
    have HO := Lib.hid hown
    have HK := Lib.hid hok
    have hszr := hb.size
    clear hq hb hown hok
    by_cases hlt : k < code.length
    · have hlt' : (k : Int) < (code.length : Int) := by omega
      obtain ⟨x, hx⟩ : ∃ x, code[k]? = some x := ⟨_, List.getElem?_eq_getElem hlt⟩
      obtain ⟨a2, b2, e2, ⟨hl80, -⟩, hr2⟩ := id HR.out
      simp only [Value.slice.injEq] at e2
      obtain ⟨rfl, -, rfl⟩ := e2
      obtain ⟨b, o, av', rfl, -, c0, c1, c2, c3, c4, c5, c6, hri⟩ := hr2 k x hx
      obtain ⟨axa, axc, rfl, hlx, -⟩ := id hri.1
      have d0 := cell_keep HB.out c0
      have d1 := cell_keep HB.out c1
      have d2 := cell_keep HB.out c2
      have d3 := cell_keep HB.out c3
      have d4 := cell_keep HB.out c4
      have d5 := cell_keep HB.out c5
      have d6 := cell_keep HB.out c6
      have HX := Lib.hid hx
      have HRI := Lib.hid (hri.keep HB.out)
      clear c0 c1 c2 c3 c4 c5 c6 hx hri hr2
      go_upto_region 8 with fail
      have hbx : Below wr.heap.size wr (wr.alloc (.cells #[.int .u8 x.kind, .int .u8 x.op, .string x.dst, .string x.name, .slice axa x.args.length axc, .int .i64 x.line, .int .i64 x.col] 43)) := (Below.refl _ _).alloc (Nat.le_refl _) _
      have gx := heap_alloc_new wr (.cells #[.int .u8 x.kind, .int .u8 x.op, .string x.dst, .string x.name, .slice axa x.args.length axc, .int .i64 x.line, .int .i64 x.col] 43)
      have HB6 := Lib.hid (HB.out.trans (hbx.mono hszr))
      have HRI6 := Lib.hid (HRI.out.keep hbx)
      have HO6 := Lib.hid (own_below HO.out hbx)
      clear d0 d1 d2 d3 d4 d5 d6 hbx HB HO HRI
      generalize wr.alloc (.cells #[.int .u8 x.kind, .int .u8 x.op, .string x.dst, .string x.name, .slice axa x.args.length axc, .int .i64 x.line, .int .i64 x.col] 43) = w6 at *
      generalize wr.heap.size = bx at *
      have GX := Lib.hid gx
      have HP6 := Lib.hid (HP2.out.keep HB6.out)
      have HS6 := Lib.hid (HSR.out.keep HB6.out)
      have Q0 := Lib.hid ((HB6.out.block w.heap.size (by omega)).trans K0.out)
      have Q1 := Lib.hid ((HB6.out.block (w.heap.size + 1) (by omega)).trans K1.out)
      have HB60 := Lib.hid (HB2.out.trans (HB6.out.mono HB2.out.size))
      have hin : ∀ t : Bool, ((i : Int) == (p.funcs.length : Int)) = t → decide (i = p.funcs.length) = t := by
        intro t ht
        rw [← ht]
        by_cases e : i = p.funcs.length
        · simp [e]
        · have : ¬ (i : Int) = (p.funcs.length : Int) := by omega
          simp [e, this]
      have HIN := Lib.hid hin
      clear gx hin
      obtain ⟨b8, hb8⟩ : ∃ t, (!formB x || (decide (x.kind = 12) && decide (i = p.funcs.length))) = t := ⟨_, rfl⟩
      have H8 := Lib.hid hb8
      clear hb8
      go_cut [26] from 16 to 118 (fun cc wx => cc = .bool b8 ∧ Below w6.heap.size w6 wx)
      case first =>
        have C := Lib.hid (refForm x _ w6 HRI6.out)
        have x0 := row_of GX.out 0 _ rfl
        have x1 := row_of GX.out 1 _ rfl
        have x2 := row_of GX.out 2 _ rfl
        have x3 := row_of GX.out 3 _ rfl
        have x4 := row_of GX.out 4 _ rfl
        have x5 := row_of GX.out 5 _ rfl
        have x6 := row_of GX.out 6 _ rfl
        have y3 := row_of Q0.out 3 _ rfl
        have HX0 := Lib.hid x0
        have HY3 := Lib.hid y3
        cases hf : formB x
        · have e8 : b8 = true := by rw [← H8.out, hf]; rfl
          rw [hf] at C
          subst e8
          clear hf
          go_wp2_with (go_at_call 65; refine C.out.mono ?_; rintro e w7 ⟨rfl, hb7⟩)
          go_meet
          exact ⟨rfl, hb7⟩
        · rw [hf] at C
          by_cases h12 : x.kind = 12
          · have h12b : (x.kind == 12) = true := by simp [h12]
            cases hi2 : ((i : Int) == (p.funcs.length : Int))
            · have e8 : b8 = false := by rw [← H8.out, hf, HIN.out _ hi2]; simp
              subst e8
              clear hf h12
              go_wp2_with (go_at_call 65; refine C.out.mono ?_; rintro e w7 ⟨rfl, hb7⟩; have x0' := cell_keep hb7 HX0.out; have y3' := cell_keep hb7 HY3.out)
              go_meet
              exact ⟨rfl, hb7⟩
            · have e8 : b8 = true := by rw [← H8.out, hf, HIN.out _ hi2]; simp [h12]
              subst e8
              clear hf h12
              go_wp2_with (go_at_call 65; refine C.out.mono ?_; rintro e w7 ⟨rfl, hb7⟩; have x0' := cell_keep hb7 HX0.out; have y3' := cell_keep hb7 HY3.out)
              go_meet
              exact ⟨rfl, hb7⟩
          · have h12b : (x.kind == 12) = false := by simp [h12]
            have e8 : b8 = false := by rw [← H8.out, hf]; simp [h12]
            subst e8
            clear hf h12
            go_wp2_with (go_at_call 65; refine C.out.mono ?_; rintro e w7 ⟨rfl, hb7⟩; have x0' := cell_keep hb7 HX0.out; have y3' := cell_keep hb7 HY3.out)
            go_meet
            exact ⟨rfl, hb7⟩
      obtain ⟨rfl, hc8⟩ := hcut
      obtain ⟨w8, rfl⟩ : ∃ y : World, y = wc := ⟨_, rfl⟩
      have HFN : Hid (∀ F, firstF (fun d x => bodyR p.chans (aNames p.arrays) (decide (i = p.funcs.length)) (S.take 32) (labelsOf d) x) [] code = F → codeR p i = F) := by
        intro F hF
        unfold codeR sitesP
        rw [HCD.out.1, HCD.out.2]
        exact hF
      cases b8
      case true =>
        have gxc := (hc8.block bx (Array.getElem?_eq_some_iff.1 GX.out).1).trans GX.out
        have grc := (hc8.block (w.heap.size + 1) (Array.getElem?_eq_some_iff.1 Q1.out).1).trans Q1.out
        have p5 := row_of gxc 5 _ rfl
        have p6 := row_of gxc 6 _ rfl
        have z0 := row_of grc 0 _ rfl
        have z1 := row_of grc 1 _ rfl
        have f0 := frozen_of_row w8 _ 0 _ _ grc
        have f1 := frozen_of_row w8 _ 1 _ _ grc
        have HGR := Lib.hid grc
        have HBC := Lib.hid (HB60.out.trans (hc8.mono HB60.out.size))
        clear gxc grc
        have HV : Hid (codeR p i = some ⟨x.line, x.col, 4⟩) := HFN.out _ (firstF_hit HX.out HQ.out (by unfold bodyR; rw [H8.out]; rfl))
        go_wp2_with fail
        refine bodyPost_ret (v := refV (some ⟨x.line, x.col, 4⟩)) (res_body _ _ (w.heap.size + 1) x.line x.col 4 rfl rfl (pos_row HGR.out)) rfl ⟨by rw [HV.out], ?_⟩
        exact (HBC.out.setCell (by simp) _).setCell (by simp) _
      case false =>
        go_upto_region 10 with fail
        obtain ⟨b10, hb10⟩ : ∃ t, ((decide (x.kind = 5) || decide (x.kind = 6)) && !inL x.name p.chans) = t := ⟨_, rfl⟩
        have H10 := Lib.hid hb10
        clear hb10
        go_cut [44] from 16 to 118 (fun cc wx => cc = .bool b10 ∧ Below w6.heap.size w6 wx)
        case first =>
          have gxc := (hc8.block bx (Array.getElem?_eq_some_iff.1 GX.out).1).trans GX.out
          have gpc := (hc8.block w.heap.size (Array.getElem?_eq_some_iff.1 Q0.out).1).trans Q0.out
          have x0 := row_of gxc 0 _ rfl
          have x3 := row_of gxc 3 _ rfl
          have y1 := row_of gpc 1 _ rfl
          have C := Lib.hid (refIs _ p.chans x.name w8 (HP6.out.keep hc8).1)
          have HC8 := Lib.hid hc8
          clear gxc gpc hc8
          by_cases h5 : x.kind = 5
          · have h5b : (x.kind == 5) = true := by simp [h5]
            have e10 := Lib.hid (show (!inL x.name p.chans) = b10 by rw [← H10.out]; simp [h5])
            clear h5
            go_wp2_with (go_at_call 44; refine C.out.mono ?_; rintro e w9 ⟨rfl, rfl⟩)
            go_meet
            exact ⟨by rw [e10.out], HC8.out⟩
          · have h5b : (x.kind == 5) = false := by simp [h5]
            by_cases h6 : x.kind = 6
            · have h6b : (x.kind == 6) = true := by simp [h6]
              have e10 := Lib.hid (show (!inL x.name p.chans) = b10 by rw [← H10.out]; simp [h6])
              clear h5 h6
              go_wp2_with (go_at_call 44; refine C.out.mono ?_; rintro e w9 ⟨rfl, rfl⟩)
              go_meet
              exact ⟨by rw [e10.out], HC8.out⟩
            · have h6b : (x.kind == 6) = false := by simp [h6]
              have e10 := Lib.hid (show false = b10 by rw [← H10.out]; simp [h5, h6])
              clear h5 h6
              go_wp2_with fail
              go_meet
              exact ⟨by rw [e10.out], HC8.out⟩
        obtain ⟨rfl, hc10⟩ := hcut
        obtain ⟨w10, rfl⟩ : ∃ y : World, y = wc := ⟨_, rfl⟩
        cases b10
        case true =>
          have gxc := (hc10.block bx (Array.getElem?_eq_some_iff.1 GX.out).1).trans GX.out
          have grc := (hc10.block (w.heap.size + 1) (Array.getElem?_eq_some_iff.1 Q1.out).1).trans Q1.out
          have p5 := row_of gxc 5 _ rfl
          have p6 := row_of gxc 6 _ rfl
          have z0 := row_of grc 0 _ rfl
          have z1 := row_of grc 1 _ rfl
          have f0 := frozen_of_row w10 _ 0 _ _ grc
          have f1 := frozen_of_row w10 _ 1 _ _ grc
          have HGR := Lib.hid grc
          have HBC := Lib.hid (HB60.out.trans (hc10.mono HB60.out.size))
          clear gxc grc
          have HV : Hid (codeR p i = some ⟨x.line, x.col, 6⟩) := HFN.out _ (firstF_hit HX.out HQ.out (by unfold bodyR; rw [H8.out, H10.out]; rfl))
          go_wp2_with fail
          refine bodyPost_ret (v := refV (some ⟨x.line, x.col, 6⟩)) (res_body _ _ (w.heap.size + 1) x.line x.col 6 rfl rfl (pos_row HGR.out)) rfl ⟨by rw [HV.out], ?_⟩
          exact (HBC.out.setCell (by simp) _).setCell (by simp) _
        case false =>
          obtain ⟨b12, hb12⟩ : ∃ t, ((decide (x.kind = 2) || decide (x.kind = 3)) && !inL x.name (aNames p.arrays)) = t := ⟨_, rfl⟩
          have H12 := Lib.hid hb12
          clear hb12
          go_upto_region 12 with fail
          go_cut [63] from 16 to 118 (fun cc wx => cc = .bool b12 ∧ Below w6.heap.size w6 wx)
          case first =>
            have gxc := (hc10.block bx (Array.getElem?_eq_some_iff.1 GX.out).1).trans GX.out
            have gpc := (hc10.block w.heap.size (Array.getElem?_eq_some_iff.1 Q0.out).1).trans Q0.out
            have x0 := ext_cell (row_of gxc 0 _ rfl)
            have x3 := ext_cell (row_of gxc 3 _ rfl)
            have y0 := ext_cell (row_of gpc 0 _ rfl)
            have y1 := ext_cell (row_of gpc 1 _ rfl)
            have y2 := ext_cell (row_of gpc 2 _ rfl)
            have y3 := ext_cell (row_of gpc 3 _ rfl)
            have y4 := ext_cell (row_of gpc 4 _ rfl)
            have HC10 := Lib.hid hc10
            clear gxc gpc hc10
            by_cases h2 : x.kind = 2
            · have h2b : (x.kind == 2) = true := by simp [h2]
              have e12 := Lib.hid (show (!inL x.name (aNames p.arrays)) = b12 by rw [← H12.out]; simp [h2])
              clear h2
              refine wp_region_mix (.one [0, 1, 2, 3, 4, 5, 6, 7, 8, 9, 11, 12] 10 (.one [] 13 (.fin [14, 15, 16]))) (fun _ => false) (by kernel_rfl) (by kernel_rfl) rfl (by kernel_rfl) (fun _ d _ _ _ h => by cases d <;> exact h) ?_
              have HBD : Hid (Below w10.heap.size w10 w10.drew) := (Below.refl _ _).drew
              generalize w10.drew = wn at *
              refine mix_one (by simp only [opsOf, List.filterMap_cons, List.filterMap_nil, List.getElem?_toArray, List.getElem?_cons_succ, List.getElem?_cons_zero]; rfl) ⟨_, ext_of HBD.out⟩ ?_
              change wpQuiet _ _ _ _ [_, _, _, _, _, _, _, _, _, _, _, _] _
              (repeat (go_big_quiet_step (fail)))
              refine wpQuiet_nil ?_
              clear x0 x3 y0 y1 y2 y3 y4
              refine mix_step rfl ?_
              go_wp2_with (go_at_call 37; refine (refArrayNames p _ _ _ _ _ ((HP6.out.keep HC10.out).keep HBD.out).2.1).mono ?_; rintro e wn ⟨nv, rfl, hnr, hbn⟩; have HNR := Lib.hid (refIs _ _ x.name _ hnr.forget); obtain ⟨na, nc, rfl, -⟩ := hnr)
              have HBD := Lib.hid (bcomp HBD.out hbn)
              clear hbn
              refine ⟨fun _ => ⟨_, ext_of HBD.out⟩, ?_⟩
              refine mix_now ?_
              refine mix_step rfl ?_
              go_wp2_with (go_at_call 44; refine HNR.out.mono ?_; rintro e w9 ⟨rfl, rfl⟩)
              refine ⟨fun _ => ⟨_, ext_of HBD.out⟩, ?_⟩
              refine mix_fin (by simp only [opsOf, List.filterMap_cons, List.filterMap_nil, List.getElem?_toArray, List.getElem?_cons_succ, List.getElem?_cons_zero]; rfl) ⟨_, ext_of HBD.out⟩ ?_
              change wpQuiet _ _ _ _ [_, _, _] _
              (repeat (go_big_quiet_step (fail)))
              refine wpQuiet_nil ?_
              go_wp2_with fail
              go_meet
              exact ⟨by rw [e12.out], bcomp HC10.out HBD.out⟩
            · have h2b : (x.kind == 2) = false := by simp [h2]
              by_cases h3 : x.kind = 3
              · have h3b : (x.kind == 3) = true := by simp [h3]
                have e12 := Lib.hid (show (!inL x.name (aNames p.arrays)) = b12 by rw [← H12.out]; simp [h3])
                clear h2 h3
                refine wp_region_mix (.one [0, 1, 2, 3, 4, 5, 6, 7, 8, 9, 11, 12] 10 (.one [] 13 (.fin [14, 15, 16]))) (fun _ => false) (by kernel_rfl) (by kernel_rfl) rfl (by kernel_rfl) (fun _ d _ _ _ h => by cases d <;> exact h) ?_
                have HBD : Hid (Below w10.heap.size w10 w10.drew) := (Below.refl _ _).drew
                generalize w10.drew = wn at *
                refine mix_one (by simp only [opsOf, List.filterMap_cons, List.filterMap_nil, List.getElem?_toArray, List.getElem?_cons_succ, List.getElem?_cons_zero]; rfl) ⟨_, ext_of HBD.out⟩ ?_
                change wpQuiet _ _ _ _ [_, _, _, _, _, _, _, _, _, _, _, _] _
                (repeat (go_big_quiet_step (fail)))
                refine wpQuiet_nil ?_
                clear x0 x3 y0 y1 y2 y3 y4
                refine mix_step rfl ?_
                go_wp2_with (go_at_call 37; refine (refArrayNames p _ _ _ _ _ ((HP6.out.keep HC10.out).keep HBD.out).2.1).mono ?_; rintro e wn ⟨nv, rfl, hnr, hbn⟩; have HNR := Lib.hid (refIs _ _ x.name _ hnr.forget); obtain ⟨na, nc, rfl, -⟩ := hnr)
                have HBD := Lib.hid (bcomp HBD.out hbn)
                clear hbn
                refine ⟨fun _ => ⟨_, ext_of HBD.out⟩, ?_⟩
                refine mix_now ?_
                refine mix_step rfl ?_
                go_wp2_with (go_at_call 44; refine HNR.out.mono ?_; rintro e w9 ⟨rfl, rfl⟩)
                refine ⟨fun _ => ⟨_, ext_of HBD.out⟩, ?_⟩
                refine mix_fin (by simp only [opsOf, List.filterMap_cons, List.filterMap_nil, List.getElem?_toArray, List.getElem?_cons_succ, List.getElem?_cons_zero]; rfl) ⟨_, ext_of HBD.out⟩ ?_
                change wpQuiet _ _ _ _ [_, _, _] _
                (repeat (go_big_quiet_step (fail)))
                refine wpQuiet_nil ?_
                go_wp2_with fail
                go_meet
                exact ⟨by rw [e12.out], bcomp HC10.out HBD.out⟩
              · have h3b : (x.kind == 3) = false := by simp [h3]
                have e12 := Lib.hid (show false = b12 by rw [← H12.out]; simp [h2, h3])
                clear h2 h3
                (refine wp_region_calm (by kernel_rfl) (by kernel_rfl) ?_; (repeat (go_big_quiet_step (fail))); refine wpQuiet_nil ?_; intro wc hwc)
                go_wp2_with fail
                go_meet
                exact ⟨by rw [e12.out], bcomp HC10.out hwc⟩
          obtain ⟨rfl, hc12⟩ := hcut
          obtain ⟨w12, rfl⟩ : ∃ y : World, y = wc := ⟨_, rfl⟩
          clear hc8 hc10
          cases b12
          case true =>
            have gxc := (hc12.block bx (Array.getElem?_eq_some_iff.1 GX.out).1).trans GX.out
            have grc := (hc12.block (w.heap.size + 1) (Array.getElem?_eq_some_iff.1 Q1.out).1).trans Q1.out
            have p5 := row_of gxc 5 _ rfl
            have p6 := row_of gxc 6 _ rfl
            have z0 := row_of grc 0 _ rfl
            have z1 := row_of grc 1 _ rfl
            have f0 := frozen_of_row w12 _ 0 _ _ grc
            have f1 := frozen_of_row w12 _ 1 _ _ grc
            have HGR := Lib.hid grc
            have HBC := Lib.hid (HB60.out.trans (hc12.mono HB60.out.size))
            clear gxc grc
            have HV : Hid (codeR p i = some ⟨x.line, x.col, 6⟩) := HFN.out _ (firstF_hit HX.out HQ.out (by unfold bodyR; rw [H8.out, H10.out, H12.out]; rfl))
            go_wp2_with fail
            refine bodyPost_ret (v := refV (some ⟨x.line, x.col, 6⟩)) (res_body _ _ (w.heap.size + 1) x.line x.col 6 rfl rfl (pos_row HGR.out)) rfl ⟨by rw [HV.out], ?_⟩
            exact (HBC.out.setCell (by simp) _).setCell (by simp) _
          case false =>
            obtain ⟨b14, hb14⟩ : ∃ t, (decide (x.kind = 10) && inL x.name L) = t := ⟨_, rfl⟩
            have H14 := Lib.hid hb14
            clear hb14
            have hL80 : L.length * 16 ≤ 140737488351232 := by omega
            go_upto_region 14 with fail
            go_cut [82] from 16 to 118 (fun cc wx => cc = .bool b14 ∧ Below w6.heap.size w6 wx)
            case first =>
              have gxc := (hc12.block bx (Array.getElem?_eq_some_iff.1 GX.out).1).trans GX.out
              have x0 := row_of gxc 0 _ rfl
              have x3 := row_of gxc 3 _ rfl
              have C := Lib.hid (refIs (.slice la L.length lc) L x.name w12 (own_strs (own_below HO6.out hc12) hL80 HK.out).forget)
              have HC12 := Lib.hid hc12
              clear gxc hc12
              by_cases h10 : x.kind = 10
              · have h10b : (x.kind == 10) = true := by simp [h10]
                have e14 := Lib.hid (show inL x.name L = b14 by rw [← H14.out]; simp [h10])
                clear h10
                go_wp2_with (go_at_call 44; refine C.out.mono ?_; rintro e w9 ⟨rfl, rfl⟩)
                go_meet
                exact ⟨by rw [e14.out], HC12.out⟩
              · have h10b : (x.kind == 10) = false := by simp [h10]
                have e14 := Lib.hid (show false = b14 by rw [← H14.out]; simp [h10])
                clear h10
                go_wp2_with fail
                go_meet
                exact ⟨by rw [e14.out], HC12.out⟩
            obtain ⟨rfl, hc14⟩ := hcut
            obtain ⟨w14, rfl⟩ : ∃ y : World, y = wc := ⟨_, rfl⟩
            clear hc12
            cases b14
            case true =>
              have gxc := (hc14.block bx (Array.getElem?_eq_some_iff.1 GX.out).1).trans GX.out
              have grc := (hc14.block (w.heap.size + 1) (Array.getElem?_eq_some_iff.1 Q1.out).1).trans Q1.out
              have p5 := row_of gxc 5 _ rfl
              have p6 := row_of gxc 6 _ rfl
              have z0 := row_of grc 0 _ rfl
              have z1 := row_of grc 1 _ rfl
              have f0 := frozen_of_row w14 _ 0 _ _ grc
              have f1 := frozen_of_row w14 _ 1 _ _ grc
              have HGR := Lib.hid grc
              have HBC := Lib.hid (HB60.out.trans (hc14.mono HB60.out.size))
              clear gxc grc
              have HV : Hid (codeR p i = some ⟨x.line, x.col, 8⟩) := HFN.out _ (firstF_hit HX.out HQ.out (by unfold bodyR; rw [← hLe.out, H8.out, H10.out, H12.out, H14.out]; rfl))
              go_wp2_with fail
              refine bodyPost_ret (v := refV (some ⟨x.line, x.col, 8⟩)) (res_body _ _ (w.heap.size + 1) x.line x.col 8 rfl rfl (pos_row HGR.out)) rfl ⟨by rw [HV.out], ?_⟩
              exact (HBC.out.setCell (by simp) _).setCell (by simp) _
            case false =>
              obtain ⟨b16, hb16⟩ : ∃ t, (decide (x.kind = 7) && !inL x.name (S.take 32)) = t := ⟨_, rfl⟩
              have H16 := Lib.hid hb16
              clear hb16
              obtain ⟨ns, hns⟩ : ∃ n : Nat, min S.length 32 = n := ⟨_, rfl⟩
              have hns1 : ns ≤ S.length := by omega
              have hns2 : ns ≤ sc := by omega
              have HSc : Hid (RdStrs none w6 (.slice sa ns sc) (S.take 32)) := by
                have := HS6.out.cut (n := ns) hns1
                rw [← hns, take_min] at this
                rw [← hns]; exact this
              go_upto_region 16 with fail
              go_cut [94] from 16 to 118 (fun cc wx => cc = .bool b16 ∧ Below w6.heap.size w6 wx)
              case first =>
                have min5 : ∀ w, (Builtin.min_ #[3, 3] 3 #[.int .i64 (S.length : Int), .int .i64 32]).run Tryd.prog w = .ok (.int .i64 (ns : Int)) w := by
                  have hz : (ns : Int) = min (S.length : Int) 32 := by omega
                  intro w
                  rw [hz]
                  exact run_min2 _ _ _ _ w
                clear hns
                have gxc := (hc14.block bx (Array.getElem?_eq_some_iff.1 GX.out).1).trans GX.out
                have x0 := ext_cell (row_of gxc 0 _ rfl)
                have x3 := ext_cell (row_of gxc 3 _ rfl)
                have HC14 := Lib.hid hc14
                clear gxc hc14
                by_cases h7 : x.kind = 7
                · have h7b : (x.kind == 7) = true := by simp [h7]
                  have e16 := Lib.hid (show (!inL x.name (S.take 32)) = b16 by rw [← H16.out]; simp [h7])
                  clear h7
                  refine wp_region_mix (.one [0, 1, 2, 3, 4, 5, 6, 7, 8, 9, 10] 11 (.fin [12, 13, 14])) (fun _ => false) (by kernel_rfl) (by kernel_rfl) rfl (by kernel_rfl) (fun _ d _ _ _ h => by cases d <;> exact h) ?_
                  have HBD : Hid (Below w14.heap.size w14 w14.drew) := (Below.refl _ _).drew
                  generalize w14.drew = wn at *
                  refine mix_one (by simp only [opsOf, List.filterMap_cons, List.filterMap_nil, List.getElem?_toArray, List.getElem?_cons_succ, List.getElem?_cons_zero]; rfl) ⟨_, ext_of HBD.out⟩ ?_
                  change wpQuiet _ _ _ _ [_, _, _, _, _, _, _, _, _, _, _] _
                  (repeat (go_big_quiet_step (fail)))
                  refine wpQuiet_nil ?_
                  clear x0 x3 min5
                  refine mix_step rfl ?_
                  go_wp2_with (go_at_call 44; refine (refIs _ (S.take 32) x.name _ ((HSc.out.keep HC14.out).keep HBD.out)).mono ?_; rintro e w9 ⟨rfl, rfl⟩)
                  refine ⟨fun _ => ⟨_, ext_of HBD.out⟩, ?_⟩
                  refine mix_fin (by simp only [opsOf, List.filterMap_cons, List.filterMap_nil, List.getElem?_toArray, List.getElem?_cons_succ, List.getElem?_cons_zero]; rfl) ⟨_, ext_of HBD.out⟩ ?_
                  change wpQuiet _ _ _ _ [_, _, _] _
                  (repeat (go_big_quiet_step (fail)))
                  refine wpQuiet_nil ?_
                  go_wp2_with fail
                  go_meet
                  exact ⟨by rw [e16.out], bcomp HC14.out HBD.out⟩
                · have h7b : (x.kind == 7) = false := by simp [h7]
                  have e16 := Lib.hid (show false = b16 by rw [← H16.out]; simp [h7])
                  clear h7
                  (refine wp_region_calm (by kernel_rfl) (by kernel_rfl) ?_; (repeat (go_big_quiet_step (fail))); refine wpQuiet_nil ?_; intro wc hwc)
                  go_wp2_with fail
                  go_meet
                  exact ⟨by rw [e16.out], bcomp HC14.out hwc⟩
              obtain ⟨rfl, hc16⟩ := hcut
              obtain ⟨w16, rfl⟩ : ∃ y : World, y = wc := ⟨_, rfl⟩
              clear hc14 hns
              cases b16
              case true =>
                have gxc := (hc16.block bx (Array.getElem?_eq_some_iff.1 GX.out).1).trans GX.out
                have grc := (hc16.block (w.heap.size + 1) (Array.getElem?_eq_some_iff.1 Q1.out).1).trans Q1.out
                have p5 := row_of gxc 5 _ rfl
                have p6 := row_of gxc 6 _ rfl
                have z0 := row_of grc 0 _ rfl
                have z1 := row_of grc 1 _ rfl
                have f0 := frozen_of_row w16 _ 0 _ _ grc
                have f1 := frozen_of_row w16 _ 1 _ _ grc
                have HGR := Lib.hid grc
                have HBC := Lib.hid (HB60.out.trans (hc16.mono HB60.out.size))
                clear gxc grc
                have HV : Hid (codeR p i = some ⟨x.line, x.col, 5⟩) := HFN.out _ (firstF_hit HX.out HQ.out (by unfold bodyR; rw [← hLe.out, H8.out, H10.out, H12.out, H14.out, H16.out]; rfl))
                go_wp2_with fail
                refine bodyPost_ret (v := refV (some ⟨x.line, x.col, 5⟩)) (res_body _ _ (w.heap.size + 1) x.line x.col 5 rfl rfl (pos_row HGR.out)) rfl ⟨by rw [HV.out], ?_⟩
                exact (HBC.out.setCell (by simp) _).setCell (by simp) _
              case false =>
                have HV : Hid (firstF (fun d x => bodyR p.chans (aNames p.arrays) (decide (i = p.funcs.length)) (S.take 32) (labelsOf d) x) [] (code.take (k + 1)) = none) := firstF_go HX.out HQ.out (by unfold bodyR; rw [← hLe.out, H8.out, H10.out, H12.out, H14.out, H16.out]; rfl)
                have HST := Lib.hid (labR_step code HX.out)
                have gxc := (hc16.block bx (Array.getElem?_eq_some_iff.1 GX.out).1).trans GX.out
                have x0 := row_of gxc 0 _ rfl
                have x3 := row_of gxc 3 _ rfl
                have hox := own_below HO6.out hc16
                have HBW := Lib.hid (HB6.out.trans (hc16.mono HB6.out.size))
                have hs16 := HBW.out.size
                have hxn := HRI6.out.2.2.2.2.2.2
                clear gxc hc16
                by_cases h10 : x.kind = 10
                · have h10b : (x.kind == 10) = true := by simp [h10]
                  have HLn : Hid (L ++ [x.name] = labelsOf (code.take (k + 1))) := by
                    unfold Hid
                    rw [HST.out, if_pos h10b, ← hLe.out]
                  clear h10
                  go_wp2_with (at_builtin; refine wpList_append_own _ rfl (.tmp 114) (.tmp 117) 22 rfl w2.heap.size 9 i0 (.string ⟨#[]⟩) 1 16 Tryd.underlying22 hj hz0 hz1 hz2 rfl (by decide) _ _ _ rfl (hox.alloc _) ⟨w16.heap.size, 0, none⟩ 1 1 (strCells x.name) rfl rfl (many_new _ _ _) ?c2 ?c3 ?c4 ?c5 ?_)
                  case c2 => intro u hu; simp [strCells] at hu; subst hu; rfl
                  case c3 => unfold maxLen; omega
                  case c4 => omega
                  case c5 => first | omega | (simp; omega)
                  · intro v' w1' hown' hgrow _
                    obtain ⟨a3, c3, rfl, -⟩ := own_read hown'
                    have hle := own_row_le hox
                    have hb1 := (HBW.out.alloc hs16 (.cells (strCells x.name).toArray 9)).grown hgrow (by simp; omega) hle
                    have e : L.flatMap strCells ++ strCells x.name = (L ++ [x.name]).flatMap strCells := by simp
                    rw [e] at hown'
                    have HOW := Lib.hid hown'
                    have HBN := Lib.hid hb1
                    have hlen : (L ++ [x.name]).length = L.length + 1 := by simp
                    clear hox hown' hgrow hle hb1 e x0 x3
                    go_wp2_with fail
                    go_roundw
                    case rel =>
                      refine ⟨k + 1, L ++ [x.name], a3, c3, by omega, by go_num, HLn, by rw [hlen], by rw [hlen]; omega, by rw [hlen]; exact HOW.out, fun s hs => ?_, HV.out, HBN.out⟩
                      rcases List.mem_append.1 hs with h | h
                      · exact HK.out s h
                      · rw [List.mem_singleton] at h; subst h; exact hxn
                    case measure => simp [intOf]; omega
                · have h10b : (x.kind == 10) = false := by simp [h10]
                  have HLn : Hid (L = labelsOf (code.take (k + 1))) := by
                    unfold Hid
                    rw [HST.out, h10b]
                    exact hLe.out
                  have HOX := Lib.hid hox
                  clear h10 hox
                  go_wp2_with fail
                  go_roundw
                  case rel => exact ⟨k + 1, L, la, lc, by omega, by go_num, HLn, rfl, by omega, HOX.out, HK.out, HV.out, HBW.out⟩
                  case measure => simp [intOf]; omega
    · obtain rfl : k = code.length := by omega
      have hq := HQ.out
      rw [List.take_length] at hq
      have HV : Hid (codeR p i = none) := by
        unfold Hid codeR sitesP
        rw [HCD.out.1, HCD.out.2]
        exact hq
      have hr0 := (HB.out.block (w.heap.size + 1) (by omega)).trans K1.out
      have z0 := row_of hr0 0 _ rfl
      have z1 := row_of hr0 1 _ rfl
      have fz0 := frozen_of_row wr _ 0 _ _ hr0
      have fz1 := frozen_of_row wr _ 1 _ _ hr0
      have HR0 := Lib.hid hr0
      have HBE := Lib.hid (HB2.out.trans (HB.out.mono HB2.out.size))
      clear hq hr0 HR HQ
      go_wp2_with fail
      refine bodyPost_ret (v := refV none) (res_body _ _ (w.heap.size + 1) 0 0 0 rfl rfl (pos_row HR0.out)) rfl ⟨by rw [HV.out], ?_⟩
      exact (HBE.out.setCell (by simp) _).setCell (by simp) _
end Go.Proofs.YtjdbdoeopobciaaDoor
