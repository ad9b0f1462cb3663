/- The walk of AgreeTraces. Condition: what comes in reads as the plain data; the tables hold what they are laid with. -/
import Derived.Test.YtkjkpddajjmloaaDoorRLd
import Derived.Test.YtkjkpddajjmloaaDoorAgY
set_option linter.unnecessarySimpa false
set_option linter.unusedVariables false
set_option linter.unusedSimpArgs false
namespace Go.Proofs.YtkjkpddajjmloaaDoor
open Go.ChangeShapes Go.WideShapes Go.ChangeAt Go.RowKit
def ShortTP (x : TraceD) : Prop := x.outs.length ≤ 20 ∧ x.rels.length ≤ 20 ∧ x.brs.length ≤ 40 ∧ x.reads.length ≤ 40
instance (x : TraceD) : Decidable (ShortTP x) := by unfold ShortTP; infer_instance
set_option maxRecDepth 100000 in
set_option maxHeartbeats 800000 in
theorem shortTr (x : TraceD) (xa1 : Option Addr) (xa2 : Nat) (xa3 : Option Addr) (xa4 : Nat) (xa5 : Option Addr) (xa6 : Nat) (xa7 : Option Addr) (xa8 : Nat) (w : World) :
    Calls Tryd.prog 14 #[.agg #[.int .u8 x.status, .int .i64 x.steps, .slice xa1 x.outs.length xa2, .slice xa3 x.rels.length xa4, .slice xa5 x.brs.length xa6, .slice xa7 x.reads.length xa8]] w fun e w' => e = .returned (.bool (decide (ShortTP x))) ∧ Below w.heap.size w w' := by
  have hal := (Below.refl w.heap.size w).alloc (Nat.le_refl _) (.cells #[.int .u8 x.status, .int .i64 x.steps, .slice xa1 x.outs.length xa2, .slice xa3 x.rels.length xa4, .slice xa5 x.brs.length xa6, .slice xa7 x.reads.length xa8] 27)
  have HB := Lib.hid hal
  clear hal
  obtain ⟨V, hV⟩ : ∃ V, decide (ShortTP x) = V := ⟨_, rfl⟩
  rw [hV]
  have HV := Lib.hid hV
  clear hV
  go_enter Tryd.func14, Tryd.ntmps14
  by_cases h1 : x.outs.length ≤ 20
  · have g1 : (x.outs.length : Int) ≤ 20 := by omega
    by_cases h2 : x.rels.length ≤ 20
    · have g2 : (x.rels.length : Int) ≤ 20 := by omega
      by_cases h3 : x.brs.length ≤ 40
      · have g3 : (x.brs.length : Int) ≤ 40 := by omega
        by_cases h4 : x.reads.length ≤ 40
        · have g4 : (x.reads.length : Int) ≤ 40 := by omega
          obtain rfl : V = true := by rw [← HV.out]; exact decide_eq_true ⟨h1, h2, h3, h4⟩
          go_wp2_with fail
          go_ret
          exact ⟨rfl, HB.out⟩
        · have g4 : ¬ (x.reads.length : Int) ≤ 40 := by omega
          obtain rfl : V = false := by rw [← HV.out]; exact decide_eq_false (fun h => h4 h.2.2.2)
          go_wp2_with fail
          go_ret
          exact ⟨rfl, HB.out⟩
      · have g3 : ¬ (x.brs.length : Int) ≤ 40 := by omega
        obtain rfl : V = false := by rw [← HV.out]; exact decide_eq_false (fun h => h3 h.2.2.1)
        go_wp2_with fail
        go_ret
        exact ⟨rfl, HB.out⟩
    · have g2 : ¬ (x.rels.length : Int) ≤ 20 := by omega
      obtain rfl : V = false := by rw [← HV.out]; exact decide_eq_false (fun h => h2 h.2.1)
      go_wp2_with fail
      go_ret
      exact ⟨rfl, HB.out⟩
  · have g1 : ¬ (x.outs.length : Int) ≤ 20 := by omega
    obtain rfl : V = false := by rw [← HV.out]; exact decide_eq_false (fun h => h1 h.1)
    go_wp2_with fail
    go_ret
    exact ⟨rfl, HB.out⟩
def FewTP (o : List (Int × Int)) (l : List Int) : Prop := o.length ≤ 30 ∧ l.length ≤ 40
instance (o : List (Int × Int)) (l : List Int) : Decidable (FewTP o l) := by unfold FewTP; infer_instance
set_option maxRecDepth 100000 in
set_option maxHeartbeats 800000 in
theorem few33 (oa : Option Addr) (oc : Nat) (o : List (Int × Int)) (la : Option Addr) (lc : Nat) (l : List Int) (w : World) :
    Calls Tryd.prog 13 #[.slice oa o.length oc, .slice la l.length lc, .slice none 0 0] w fun e w' => e = .returned (.bool (decide (FewTP o l))) ∧ w = w' := by
  obtain ⟨V, hV⟩ : ∃ V, decide (FewTP o l) = V := ⟨_, rfl⟩
  rw [hV]
  have HV := Lib.hid hV
  clear hV
  go_enter Tryd.func13, Tryd.ntmps13
  by_cases h1 : o.length ≤ 30
  · have g1 : (o.length : Int) ≤ 30 := by omega
    by_cases h2 : l.length ≤ 40
    · have g2 : (l.length : Int) ≤ 40 := by omega
      obtain rfl : V = true := by rw [← HV.out]; exact decide_eq_true ⟨h1, h2⟩
      go_wp2_with fail
      go_ret
      exact ⟨rfl, rfl⟩
    · have g2 : ¬ (l.length : Int) ≤ 40 := by omega
      obtain rfl : V = false := by rw [← HV.out]; exact decide_eq_false (fun h => h2 h.2)
      go_wp2_with fail
      go_ret
      exact ⟨rfl, rfl⟩
  · have g1 : ¬ (o.length : Int) ≤ 30 := by omega
    obtain rfl : V = false := by rw [← HV.out]; exact decide_eq_false (fun h => h1 h.1)
    go_wp2_with fail
    go_ret
    exact ⟨rfl, rfl⟩
def LatsSaid (E : Int) (L : LatD) (w : World) (e : Ending) (w' : World) : Prop := ∃ u v, e = .returned (.tuple #[u, v, .bool true]) ∧ (E = 0 → ∃ p r, u = .pointer (some ⟨p, 0, none⟩) ∧ v = .pointer (some ⟨r, 0, none⟩) ∧ LatAt w' u L ∧ RefLat w' v L) ∧ (E ≠ 0 → u = .pointer none ∧ v = .pointer none) ∧ Below w.heap.size w w'
set_option maxRecDepth 100000 in
set_option maxHeartbeats 1600000 in
theorem lattices33 (n : Int) (ov : Value) (l : List (Int × Int)) (w : World) (hn : InI64 n) (h : RdRow kPair none w ov l) (hT : BitsAt w) :
    Calls Tryd.prog 15 #[.int .i64 n, ov] w (LatsSaid (latErr n l) (latOf n l) w) := by
  obtain ⟨E, hE⟩ : ∃ E, latErr n l = E := ⟨_, rfl⟩
  have k1 := latNew n ov l w hn h hT
  have k2 := fun (z : World) (hz : Below w.heap.size w z) => refLatNew n ov l z hn (h.keep hz)
  rw [hE] at k1 k2 ⊢
  have HK1 := Lib.hid k1
  have HK2 := Lib.hid k2
  clear k1 k2 h hT hE
  have hee : (E == E) = true := by simp
  go_enter Tryd.func15, Tryd.ntmps15
  by_cases h0 : E = 0
  · subst h0
    go_wp2_with (first | (go_at_call 40; refine HK1.out.mono ?_; rintro e z ⟨u, rfl, hs, hz⟩; have BZ := Lib.hid hz; have hl := hs.1 rfl; have HLA := Lib.hid hl; obtain ⟨p, rfl, -⟩ := hl; clear hz hs) | (go_at_call 41; refine (HK2.out _ BZ.out).mono ?_; rintro e z2 ⟨v, rfl, hs, -, hz⟩; have BZ2 := Lib.hid hz; have hl := hs rfl; have HLR := Lib.hid hl; obtain ⟨lo, r, g, c, B, K, rfl, -⟩ := hl; clear hz hs))
    go_ret3
    exact ⟨_, _, rfl, fun _ => ⟨p, r, rfl, rfl, HLA.out.keep BZ2.out, HLR.out⟩, fun h => absurd rfl h, bcomp BZ.out BZ2.out⟩
  · go_wp2_with (first | (go_at_call 40; refine HK1.out.mono ?_; rintro e z ⟨u, rfl, hs, hz⟩; have BZ := Lib.hid hz; obtain rfl := hs.2 h0; clear hz hs) | (go_at_call 41; refine (HK2.out _ BZ.out).mono ?_; rintro e z2 ⟨v, rfl, -, hs, hz⟩; have BZ2 := Lib.hid hz; obtain rfl := hs h0; clear hz hs))
    go_ret3
    exact ⟨_, _, rfl, fun h => absurd h h0, fun _ => ⟨rfl, rfl⟩, bcomp BZ.out BZ2.out⟩
theorem infoTrc3 (a b c d e f : Value) : (Tryd.prog.info? 27).map (·.size) = some (#[a, b, c, d, e, f] : Array Value).size := by kernel_rfl
set_option maxRecDepth 100000 in
set_option maxHeartbeats 6400000 in
theorem traces_walk (n : Int) (ov : Value) (o : List (Int × Int)) (level : Int) (lvs : Value) (levels : List Int) (sens : Bool) (x : TraceD) (cX : Array Value) (y : TraceD) (cY : Array Value) (w : World) (hn : InI64 n) (ho : RdRow kPair none w ov o) (hlv : InI64 level) (hr : RdRow kInt none w lvs levels) (hx : TrcC w x cX) (hy : TrcC w y cY) (hL : Laid w) (hT : BitsAt w) :
    Calls Tryd.prog 3 #[.int .i64 n, ov, .int .i64 level, lvs, .bool sens, .agg cX, .agg cY] w fun e w' => e = .returned (.bool true) ∧ Below w.heap.size w w' := by
  obtain ⟨oa, oc, rfl⟩ := ho.is
  obtain ⟨la, lc, rfl⟩ := hr.is
  obtain ⟨xo, xr, xb, xd, rfl, hx⟩ := hx
  obtain ⟨yo, yr, yb, yd, rfl, hy⟩ := hy
  obtain ⟨xa1, xa2, rfl⟩ := hx.1.is
  obtain ⟨xa3, xa4, rfl⟩ := hx.2.1.is
  obtain ⟨xa5, xa6, rfl⟩ := hx.2.2.1.is
  obtain ⟨xa7, xa8, rfl⟩ := hx.2.2.2.1.is
  obtain ⟨ya1, ya2, rfl⟩ := hy.1.is
  obtain ⟨ya3, ya4, rfl⟩ := hy.2.1.is
  obtain ⟨ya5, ya6, rfl⟩ := hy.2.2.1.is
  obtain ⟨ya7, ya8, rfl⟩ := hy.2.2.2.1.is
  have hal := ((Below.refl w.heap.size w).alloc (Nat.le_refl _) (.cells #[.int .u8 x.status, .int .i64 x.steps, .slice xa1 x.outs.length xa2, .slice xa3 x.rels.length xa4, .slice xa5 x.brs.length xa6, .slice xa7 x.reads.length xa8] 27)).alloc (by simp) (.cells #[.int .u8 y.status, .int .i64 y.steps, .slice ya1 y.outs.length ya2, .slice ya3 y.rels.length ya4, .slice ya5 y.brs.length ya6, .slice ya7 y.reads.length ya8] 27)
  have hbb := heap2_of (w := w) (A := .cells #[.int .u8 x.status, .int .i64 x.steps, .slice xa1 x.outs.length xa2, .slice xa3 x.rels.length xa4, .slice xa5 x.brs.length xa6, .slice xa7 x.reads.length xa8] 27 (0, 0)) (B := .cells #[.int .u8 y.status, .int .i64 y.steps, .slice ya1 y.outs.length ya2, .slice ya3 y.rels.length ya4, .slice ya5 y.brs.length ya6, .slice ya7 y.reads.length ya8] 27 (0, 0)) (Below.refl _ _)
  have HX0 := Lib.hid hbb.1
  have HY0 := Lib.hid hbb.2.1
  have HB := Lib.hid hal
  have HO := Lib.hid (ho.keep hal)
  have HR := Lib.hid (hr.keep hal)
  have HX := Lib.hid (hx.keep hal)
  have HY := Lib.hid (hy.keep hal)
  have HL := Lib.hid (hL.keep hal)
  have HT := Lib.hid (hT.keep hal)
  have HN := Lib.hid hn
  have HLV := Lib.hid hlv
  clear hal hbb ho hr hx hy hL hT hn hlv
  go_enter Tryd.func3, Tryd.ntmps3
  go_upto_region 1 with fail
  generalize (w.alloc (.cells #[.int .u8 x.status, .int .i64 x.steps, .slice xa1 x.outs.length xa2, .slice xa3 x.rels.length xa4, .slice xa5 x.brs.length xa6, .slice xa7 x.reads.length xa8] 27)).alloc (.cells #[.int .u8 y.status, .int .i64 y.steps, .slice ya1 y.outs.length ya2, .slice ya3 y.rels.length ya4, .slice ya5 y.brs.length ya6, .slice ya7 y.reads.length ya8] 27) = W at *
  have x0 := row_of HX0.out 0 (.int .u8 x.status) rfl
  have x1 := row_of HX0.out 1 (.int .i64 x.steps) rfl
  have x2 := row_of HX0.out 2 (.slice xa1 x.outs.length xa2) rfl
  have x3 := row_of HX0.out 3 (.slice xa3 x.rels.length xa4) rfl
  have x4 := row_of HX0.out 4 (.slice xa5 x.brs.length xa6) rfl
  have x5 := row_of HX0.out 5 (.slice xa7 x.reads.length xa8) rfl
  have y0 := row_of HY0.out 0 (.int .u8 y.status) rfl
  have y1 := row_of HY0.out 1 (.int .i64 y.steps) rfl
  have y2 := row_of HY0.out 2 (.slice ya1 y.outs.length ya2) rfl
  have y3 := row_of HY0.out 3 (.slice ya3 y.rels.length ya4) rfl
  have y4 := row_of HY0.out 4 (.slice ya5 y.brs.length ya6) rfl
  have y5 := row_of HY0.out 5 (.slice ya7 y.reads.length ya8) rfl
  go_cut [35] from 22 to 36 (fun c35 wx => ∃ b : Bool, c35 = .bool b ∧ (b = false → levels.length ≤ 40) ∧ Below W.heap.size W wx)
  case first =>
    obtain ⟨f1, hf1⟩ : ∃ b, decide (FewTP o levels) = b := ⟨_, rfl⟩
    obtain ⟨s1, hs1⟩ : ∃ b, decide (ShortTP x) = b := ⟨_, rfl⟩
    obtain ⟨s2, hs2⟩ : ∃ b, decide (ShortTP y) = b := ⟨_, rfl⟩
    have k1 := few33 oa oc o la lc levels W
    have k2 := fun z : World => shortTr x xa1 xa2 xa3 xa4 xa5 xa6 xa7 xa8 z
    have k3 := fun z : World => shortTr y ya1 ya2 ya3 ya4 ya5 ya6 ya7 ya8 z
    rw [hf1] at k1
    rw [hs1] at k2
    rw [hs2] at k3
    have HK1 := Lib.hid k1
    have HK2 := Lib.hid k2
    have HK3 := Lib.hid k3
    have HFW : Hid (f1 = true → levels.length ≤ 40) := fun h => (of_decide_eq_true (hf1.trans h)).2
    clear k1 k2 k3 hf1 hs1 hs2
    cases f1
    · go_wp2_with (go_at_call 13; refine HK1.out.mono ?_; rintro e z ⟨rfl, rfl⟩)
      go_meet
      exact ⟨true, rfl, by simp, Below.refl _ _⟩
    have hlen := HFW.out rfl
    have HLEN := Lib.hid hlen
    clear hlen
    cases s1
    · go_wp2_with (first | (go_at_call 13; refine HK1.out.mono ?_; rintro e z ⟨rfl, rfl⟩) | (go_at_call 14; refine (HK2.out _).mono ?_; rintro e z1 ⟨rfl, hz⟩; have BS1 := Lib.hid hz; clear hz))
      go_meet
      exact ⟨true, rfl, by simp, BS1.out⟩
    cases s2
    · go_wp2_with (first | (go_at_call 13; refine HK1.out.mono ?_; rintro e z ⟨rfl, rfl⟩) | (go_at_call 14; first | (have hq := BS1.out; clear hq; refine (HK3.out _).mono ?_; rintro e z2 ⟨rfl, hz⟩; have BS2 := Lib.hid (bcomp BS1.out hz); clear hz) | (refine (HK2.out _).mono ?_; rintro e z1 ⟨rfl, hz⟩; have BS1 := Lib.hid hz; have yy0 := row_of ((hz.block _ (Array.getElem?_eq_some_iff.1 HY0.out).1).trans HY0.out) 0 (.int .u8 y.status) rfl; have yy1 := row_of ((hz.block _ (Array.getElem?_eq_some_iff.1 HY0.out).1).trans HY0.out) 1 (.int .i64 y.steps) rfl; have yy2 := row_of ((hz.block _ (Array.getElem?_eq_some_iff.1 HY0.out).1).trans HY0.out) 2 (.slice ya1 y.outs.length ya2) rfl; have yy3 := row_of ((hz.block _ (Array.getElem?_eq_some_iff.1 HY0.out).1).trans HY0.out) 3 (.slice ya3 y.rels.length ya4) rfl; have yy4 := row_of ((hz.block _ (Array.getElem?_eq_some_iff.1 HY0.out).1).trans HY0.out) 4 (.slice ya5 y.brs.length ya6) rfl; have yy5 := row_of ((hz.block _ (Array.getElem?_eq_some_iff.1 HY0.out).1).trans HY0.out) 5 (.slice ya7 y.reads.length ya8) rfl; clear hz)))
      go_meet
      exact ⟨true, rfl, by simp, BS2.out⟩
    · go_wp2_with (first | (go_at_call 13; refine HK1.out.mono ?_; rintro e z ⟨rfl, rfl⟩) | (go_at_call 14; first | (have hq := BS1.out; clear hq; refine (HK3.out _).mono ?_; rintro e z2 ⟨rfl, hz⟩; have BS2 := Lib.hid (bcomp BS1.out hz); clear hz) | (refine (HK2.out _).mono ?_; rintro e z1 ⟨rfl, hz⟩; have BS1 := Lib.hid hz; have yy0 := row_of ((hz.block _ (Array.getElem?_eq_some_iff.1 HY0.out).1).trans HY0.out) 0 (.int .u8 y.status) rfl; have yy1 := row_of ((hz.block _ (Array.getElem?_eq_some_iff.1 HY0.out).1).trans HY0.out) 1 (.int .i64 y.steps) rfl; have yy2 := row_of ((hz.block _ (Array.getElem?_eq_some_iff.1 HY0.out).1).trans HY0.out) 2 (.slice ya1 y.outs.length ya2) rfl; have yy3 := row_of ((hz.block _ (Array.getElem?_eq_some_iff.1 HY0.out).1).trans HY0.out) 3 (.slice ya3 y.rels.length ya4) rfl; have yy4 := row_of ((hz.block _ (Array.getElem?_eq_some_iff.1 HY0.out).1).trans HY0.out) 4 (.slice ya5 y.brs.length ya6) rfl; have yy5 := row_of ((hz.block _ (Array.getElem?_eq_some_iff.1 HY0.out).1).trans HY0.out) 5 (.slice ya7 y.reads.length ya8) rfl; clear hz)))
      go_meet
      exact ⟨false, rfl, fun _ => HLEN.out, BS2.out⟩
  case rest =>
    obtain ⟨b, rfl, himp, hbw⟩ := hcut
    obtain ⟨W1, rfl⟩ : ∃ x : World, x = wc := ⟨_, rfl⟩
    have HB1 := Lib.hid hbw
    clear x0 y0 x1 y1 x2 y2 x3 y3 x4 y4 x5 y5 hbw
    cases b
    rotate_left
    · clear himp
      go_wp2_with fail
      go_ret
      exact ⟨rfl, bcomp HB.out HB1.out⟩
    have hlen : levels.length ≤ 1000000 := by have := himp rfl; omega
    have HLEN := Lib.hid hlen
    clear himp hlen
    have k1 := lattices33 n _ o W1 HN.out (HO.out.keep HB1.out) (HT.out.keep HB1.out)
    obtain ⟨E, hE⟩ : ∃ E, latErr n o = E := ⟨_, rfl⟩
    obtain ⟨L, hLl⟩ : ∃ L, latOf n o = L := ⟨_, rfl⟩
    rw [hE, hLl] at k1
    have HK1 := Lib.hid k1
    clear k1 hE hLl
    by_cases h0 : E = 0
    rotate_left
    · go_wp2_with (first | (go_at_call 15; refine HK1.out.mono ?_; rintro e z ⟨u, v, rfl, -, hs, hz⟩; obtain ⟨rfl, rfl⟩ := hs h0; have BZ := Lib.hid (bcomp HB1.out hz); have HAW := Lib.hid (awake_any z (HL.out.keep BZ.out) (HT.out.keep BZ.out)); clear hz hs) | (go_at_call 16; refine HAW.out.mono ?_; rintro e z2 ⟨rfl, hz⟩; have BZ2 := Lib.hid (bcomp BZ.out hz); clear hz))
      go_ret
      exact ⟨rfl, bcomp HB.out BZ2.out⟩
    subst h0
    go_upto_region 8 with (go_at_call 15; refine HK1.out.mono ?_; rintro e z ⟨u, v, rfl, hs, -, hz⟩; obtain ⟨p, r, rfl, rfl, hla, hlr⟩ := hs rfl; have BZ := Lib.hid (bcomp HB1.out hz); have HLA := Lib.hid hla; have HLR := Lib.hid hlr; clear hz hs hla hlr)
    have HXX := Lib.hid (fun (z' : World) (hz : Below z.heap.size z z') => ((bcomp BZ.out hz).block _ (Array.getElem?_eq_some_iff.1 HX0.out).1).trans HX0.out)
    have HYY := Lib.hid (fun (z' : World) (hz : Below z.heap.size z z') => ((bcomp BZ.out hz).block _ (Array.getElem?_eq_some_iff.1 HY0.out).1).trans HY0.out)
    obtain ⟨P, hP⟩ : ∃ P, premB L level levels sens x y = P := ⟨_, rfl⟩
    obtain ⟨Q, hQ⟩ : ∃ P, viewsErr L level levels x.rels y.rels = P := ⟨_, rfl⟩
    obtain ⟨S, hS⟩ : ∃ P, sameB L level levels sens x y = P := ⟨_, rfl⟩
    obtain ⟨T, hTt⟩ : ∃ P, viewsErr L level levels x.outs y.outs = P := ⟨_, rfl⟩
    have HP1 := Lib.hid (fun (z' : World) (hz : Below z.heap.size z z') => by have h := premise_any L _ _ level levels sens x y _ _ _ _ _ _ _ _ z' (HLA.out.keep hz) HLV.out (HR.out.keep (bcomp BZ.out hz)) HLEN.out (HX.out.keep (bcomp BZ.out hz)) (HY.out.keep (bcomp BZ.out hz)); rw [hP, hQ] at h; exact h)
    have HP2 := Lib.hid (fun (z' : World) (hz : Below z.heap.size z z') => by have h := refPremise L _ _ level levels sens x y xa1 xa2 xa3 xa4 xa5 xa6 xa7 xa8 ya1 ya2 ya3 ya4 ya5 ya6 ya7 ya8 z' (HLR.out.keep hz) HLV.out (HR.out.keep (bcomp BZ.out hz)) HLEN.out (HX.out.keep (bcomp BZ.out hz)) (HY.out.keep (bcomp BZ.out hz)); rw [hP, hQ] at h; exact h)
    have HP3 := Lib.hid (fun (z' : World) (hz : Below z.heap.size z z') => by have h := same_any L _ _ level levels sens x y _ _ _ _ _ _ _ _ z' (HLA.out.keep hz) HLV.out (HR.out.keep (bcomp BZ.out hz)) HLEN.out (HX.out.keep (bcomp BZ.out hz)) (HY.out.keep (bcomp BZ.out hz)); rw [hS, hTt] at h; exact h)
    have HP4 := Lib.hid (fun (z' : World) (hz : Below z.heap.size z z') => by have h := refSame L _ _ level levels sens x y xa1 xa2 xa3 xa4 xa5 xa6 xa7 xa8 ya1 ya2 ya3 ya4 ya5 ya6 ya7 ya8 z' (HLR.out.keep hz) HLV.out (HR.out.keep (bcomp BZ.out hz)) HLEN.out (HX.out.keep (bcomp BZ.out hz)) (HY.out.keep (bcomp BZ.out hz)); rw [hS, hTt] at h; exact h)
    have HAW := Lib.hid (fun (z' : World) (hz : Below z.heap.size z z') => awake_any z' (HL.out.keep (bcomp BZ.out hz)) (HT.out.keep (bcomp BZ.out hz)))
    have D0 := Lib.hid (Below.refl z.heap.size z)
    clear hP hQ hS hTt HK1 HO HR HX HY HX0 HY0
    have hpp : (P != P) = false := by simp
    have hqq : (Q != Q) = false := by simp
    have hss : (S == S) = true := by simp
    have htt : (T == T) = true := by simp
    have HTI := Lib.hid infoTrc3
    go_upto_region 9 with (first | (refine wpList_load_row rfl 27 (.tmp 12) rfl w.heap.size rfl 27 #[.int .u8 x.status, .int .i64 x.steps, .slice xa1 x.outs.length xa2, .slice xa3 x.rels.length xa4, .slice xa5 x.brs.length xa6, .slice xa7 x.reads.length xa8] (0, 0) _ ?l1 Tryd.underlying27 rfl ?i1 ?_; exact HXX.out _ D0.out; exact HTI.out _ _ _ _ _ _) | (refine wpList_load_row rfl 27 (.tmp 13) rfl (w.heap.size + 1) rfl 27 #[.int .u8 y.status, .int .i64 y.steps, .slice ya1 y.outs.length ya2, .slice ya3 y.rels.length ya4, .slice ya5 y.brs.length ya6, .slice ya7 y.reads.length ya8] (0, 0) _ ?l2 Tryd.underlying27 rfl ?i2 ?_; exact HYY.out _ D0.out; exact HTI.out _ _ _ _ _ _) | (go_at_call 17; refine (HP1.out _ D0.out).mono ?_; rintro e z1 ⟨rfl, hz⟩; have D1 := Lib.hid hz; clear hz))
    go_upto_region 12 with (first | (refine wpList_load_row rfl 27 (.tmp 12) rfl w.heap.size rfl 27 #[.int .u8 x.status, .int .i64 x.steps, .slice xa1 x.outs.length xa2, .slice xa3 x.rels.length xa4, .slice xa5 x.brs.length xa6, .slice xa7 x.reads.length xa8] (0, 0) _ ?l3 Tryd.underlying27 rfl ?i3 ?_; exact HXX.out _ D1.out; exact HTI.out _ _ _ _ _ _) | (refine wpList_load_row rfl 27 (.tmp 13) rfl (w.heap.size + 1) rfl 27 #[.int .u8 y.status, .int .i64 y.steps, .slice ya1 y.outs.length ya2, .slice ya3 y.rels.length ya4, .slice ya5 y.brs.length ya6, .slice ya7 y.reads.length ya8] (0, 0) _ ?l4 Tryd.underlying27 rfl ?i4 ?_; exact HYY.out _ D1.out; exact HTI.out _ _ _ _ _ _) | (go_at_call 18; refine (HP2.out _ D1.out).mono ?_; rintro e z2 ⟨rfl, hz⟩; have D2 := Lib.hid (bcomp D1.out hz); clear hz))
    go_upto_region 13 with (first | (refine wpList_load_row rfl 27 (.tmp 12) rfl w.heap.size rfl 27 #[.int .u8 x.status, .int .i64 x.steps, .slice xa1 x.outs.length xa2, .slice xa3 x.rels.length xa4, .slice xa5 x.brs.length xa6, .slice xa7 x.reads.length xa8] (0, 0) _ ?l5 Tryd.underlying27 rfl ?i5 ?_; exact HXX.out _ D2.out; exact HTI.out _ _ _ _ _ _) | (refine wpList_load_row rfl 27 (.tmp 13) rfl (w.heap.size + 1) rfl 27 #[.int .u8 y.status, .int .i64 y.steps, .slice ya1 y.outs.length ya2, .slice ya3 y.rels.length ya4, .slice ya5 y.brs.length ya6, .slice ya7 y.reads.length ya8] (0, 0) _ ?l6 Tryd.underlying27 rfl ?i6 ?_; exact HYY.out _ D2.out; exact HTI.out _ _ _ _ _ _) | (go_at_call 19; refine (HP3.out _ D2.out).mono ?_; rintro e z3 ⟨rfl, hz⟩; have D3 := Lib.hid (bcomp D2.out hz); clear hz))
    go_upto_region 14 with (first | (refine wpList_load_row rfl 27 (.tmp 12) rfl w.heap.size rfl 27 #[.int .u8 x.status, .int .i64 x.steps, .slice xa1 x.outs.length xa2, .slice xa3 x.rels.length xa4, .slice xa5 x.brs.length xa6, .slice xa7 x.reads.length xa8] (0, 0) _ ?l7 Tryd.underlying27 rfl ?i7 ?_; exact HXX.out _ D3.out; exact HTI.out _ _ _ _ _ _) | (refine wpList_load_row rfl 27 (.tmp 13) rfl (w.heap.size + 1) rfl 27 #[.int .u8 y.status, .int .i64 y.steps, .slice ya1 y.outs.length ya2, .slice ya3 y.rels.length ya4, .slice ya5 y.brs.length ya6, .slice ya7 y.reads.length ya8] (0, 0) _ ?l8 Tryd.underlying27 rfl ?i8 ?_; exact HYY.out _ D3.out; exact HTI.out _ _ _ _ _ _) | (go_at_call 20; refine (HP4.out _ D3.out).mono ?_; rintro e z4 ⟨rfl, hz⟩; have D4 := Lib.hid (bcomp D3.out hz); clear hz))
    go_wp2_with (go_at_call 16; refine (HAW.out _ D4.out).mono ?_; rintro e z5 ⟨rfl, hz⟩; have D5 := Lib.hid (bcomp D4.out hz); clear hz)
    go_ret
    exact ⟨rfl, bcomp HB.out (bcomp BZ.out D5.out)⟩
end Go.Proofs.YtkjkpddajjmloaaDoor
