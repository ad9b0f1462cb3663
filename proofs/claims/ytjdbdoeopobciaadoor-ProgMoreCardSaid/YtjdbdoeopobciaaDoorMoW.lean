/- The walk of ProgMore. Conditions: the program reads, the tables are laid, the number is an int. -/
import Derived.Test.YtjdbdoeopobciaaDoorPck
import Derived.Test.YtjdbdoeopobciaaDoorMoS
import Derived.Laws.AppendOwnNone
import Derived.Test.YtjdbdoeopobciaaDoorKitQ
set_option linter.unnecessarySimpa false
set_option linter.unusedVariables false
set_option linter.unusedSimpArgs false
namespace Go.Proofs.YtjdbdoeopobciaaDoor
open Go.ChangeShapes Go.WideShapes Go.ChangeAt Go.RowKit
set_option maxRecDepth 100000 in
set_option maxHeartbeats 6400000 in
theorem more_walk (p : ProgD) (cv av fv mv : Value) (which : Int) (W : World) (h : RdProg none W p cv av fv mv) (hwh : InI64 which) (hL : Laid W) :
    Calls Tryd.prog 7 #[progV p cv av fv mv, .int .i64 which] W fun e w' => e = .returned (.bool true) ∧ Below W.heap.size W w' := by
  obtain ⟨hrc, hra, hrf, hrm, hrw⟩ := id h
  obtain ⟨ac0, kc0, rfl, -, -⟩ := id hrc
  obtain ⟨aa0, ka0, rfl, -, -⟩ := id hra
  obtain ⟨af0, kf0, rfl, -, -⟩ := id hrf
  obtain ⟨am0, km0, rfl, -, -⟩ := id hrm
  have H := Lib.hid h
  have HL := Lib.hid hL
  clear h hL hrc hra hrf hrm hrw
  go_enter Tryd.func7, Tryd.ntmps7
  go_upto_region 1 with fail
  have hb0 := (Below.refl W.heap.size W).alloc (Nat.le_refl _) (.cells #[.int .i64 p.width, .slice ac0 p.chans.length kc0, .slice aa0 p.arrays.length ka0, .slice af0 p.funcs.length kf0, .slice am0 p.main.length km0] 27)
  have g0 := heap_alloc_new W (.cells #[.int .i64 p.width, .slice ac0 p.chans.length kc0, .slice aa0 p.arrays.length ka0, .slice af0 p.funcs.length kf0, .slice am0 p.main.length km0] 27)
  generalize W.alloc (.cells #[.int .i64 p.width, .slice ac0 p.chans.length kc0, .slice aa0 p.arrays.length ka0, .slice af0 p.funcs.length kf0, .slice am0 p.main.length km0] 27) = W0 at *
  have G0 := Lib.hid g0
  have HB0 := Lib.hid hb0
  have hs0 : W.heap.size < W0.heap.size := (Array.getElem?_eq_some_iff.1 g0).1
  have l0 := row_of g0 0 _ rfl
  have l1 := row_of g0 1 _ rfl
  have l2 := row_of g0 2 _ rfl
  have l3 := row_of g0 3 _ rfl
  have l4 := row_of g0 4 _ rfl
  clear g0 hb0
  have C := few_prog p _ _ _ _ W0 (H.out.keep HB0.out)
  have HC := Lib.hid C
  clear C
  go_upto_region 2 with (first
    | (go_at_call 11; refine HC.out.mono ?_; rintro e w1 ⟨cv', av', fv', mv', rfl, hr, hb1⟩; obtain ⟨r1, r2, r3, r4, r5⟩ := id hr; obtain ⟨ac, kc, rfl, -⟩ := id r1; obtain ⟨aa, ka, rfl, -⟩ := id r2; obtain ⟨af, kf, rfl, -⟩ := id r3; obtain ⟨am, km, rfl, -⟩ := id r4; clear l0 l1 l2 l3 l4 r1 r2 r3 r4 r5; have hg := (hb1.block W.heap.size hs0).trans G0.out)
    | (refine wpList_store_row rfl 27 (.tmp 2) (.tmp 17) rfl W.heap.size #[.int .i64 (fewP p).width, .slice ac (fewP p).chans.length kc, .slice aa (fewP p).arrays.length ka, .slice af (fewP p).funcs.length kf, .slice am (fewP p).main.length km] rfl rfl 27 #[.int .i64 p.width, .slice ac0 p.chans.length kc0, .slice aa0 p.arrays.length ka0, .slice af0 p.funcs.length kf0, .slice am0 p.main.length km0] ?h2 ?s2 ?s3 ?s4 ?_; exact hg; kernel_rfl; kernel_rfl; kernel_rfl))
  simp only [Act.put]
  have hfl : (fewP p).funcs.length ≤ 5 := by simp [fewP]; omega
  have hml : (fewP p).main.length ≤ 30 := by simp [fewP, fewL]; omega
  have hchl : (fewP p).chans.length ≤ 34 := by simp [fewP]; omega
  generalize fewP p = P at *
  have hrow : ∀ b, b ≠ W.heap.size → (w1.setRow W.heap.size #[.int .i64 P.width, .slice ac P.chans.length kc, .slice aa P.arrays.length ka, .slice af P.funcs.length kf, .slice am P.main.length km]).heap[b]? = w1.heap[b]? := fun b hb => setRow_other _ _ _ _ hb
  have HR : Hid (RdProg none (w1.setRow W.heap.size #[.int .i64 P.width, .slice ac P.chans.length kc, .slice aa P.arrays.length ka, .slice af P.funcs.length kf, .slice am P.main.length km]) P (.slice ac P.chans.length kc) (.slice aa P.arrays.length ka) (.slice af P.funcs.length kf) (.slice am P.main.length km)) := (RdProg.same (g' := upFrom W0.heap.size) hr (fun b hb _ => hrow b (by have : W0.heap.size ≤ b := hb; omega)) (fun _ _ h => h)).forget
  have g2 : (w1.setRow W.heap.size #[.int .i64 P.width, .slice ac P.chans.length kc, .slice aa P.arrays.length ka, .slice af P.funcs.length kf, .slice am P.main.length km]).heap[W.heap.size]? = some (.cells #[.int .i64 P.width, .slice ac P.chans.length kc, .slice aa P.arrays.length ka, .slice af P.funcs.length kf, .slice am P.main.length km] 27 (0, 0)) := setRow_heap _ _ _ _ _ _ hg
  have hb2 : Below W.heap.size W (w1.setRow W.heap.size #[.int .i64 P.width, .slice ac P.chans.length kc, .slice aa P.arrays.length ka, .slice af P.funcs.length kf, .slice am P.main.length km]) := below_row (bcomp HB0.out hb1) (Nat.le_refl _) _
  have HB2 := Lib.hid hb2
  have HFL := Lib.hid hfl
  have HML := Lib.hid hml
  have HCHL := Lib.hid hchl
  clear hfl hml hchl hrow hr hg hb1 hb2 G0 HB0 HC H
  generalize w1.setRow W.heap.size #[.int .i64 P.width, .slice ac P.chans.length kc, .slice aa P.arrays.length ka, .slice af P.funcs.length kf, .slice am P.main.length km] = W2 at *
  have hs2 : W.heap.size < W2.heap.size := (Array.getElem?_eq_some_iff.1 g2).1
  have G2 := Lib.hid g2
  have l0 := row_of g2 0 _ rfl
  have l1 := row_of g2 1 _ rfl
  have l2 := row_of g2 2 _ rfl
  have l3 := row_of g2 3 _ rfl
  have l4 := row_of g2 4 _ rfl
  clear g2
  have HL2 := Lib.hid (HL.out.keep HB2.out)
  have HS : Hid (W.heap.size ≤ W2.heap.size) := HB2.out.size
  have C := check_any P _ _ _ _ W2 HR.out HL2.out
  cases hc : checkF P with
  | some F =>
    rw [hc] at C
    have hne : (F.e != 0) = true := by have := (check_fault hc).1; simp; omega
    have HC := Lib.hid C
    clear C hc
    simp only [errOf, posL, posC] at HC
    go_upto_region 3 with (go_at_call 13; refine HC.out.mono ?_; rintro e w3 ⟨rfl, hb3⟩)
    have hb4 := bcomp hb3 ((Below.refl w3.heap.size w3).alloc (Nat.le_refl _) (.cells #[.int .i64 F.line, .int .i64 F.col] 30))
    generalize w3.alloc (.cells #[.int .i64 F.line, .int .i64 F.col] 30) = W4 at *
    clear l0 l1 l2 l3 l4
    go_wp2_with (go_at_call 16; refine (awake_any _ (HL2.out.keep hb4)).mono ?_; rintro e wz ⟨rfl, hbz⟩)
    go_ret
    exact ⟨rfl, HB2.out.trans ((bcomp hb4 hbz).mono HS.out)⟩
  | none =>
    rw [hc] at C
    have HC := Lib.hid C
    have HOK := Lib.hid (ok_iff.1 hc)
    clear C hc
    simp only [errOf, posL, posC] at HC
    go_upto_region 3 with (go_at_call 13; refine HC.out.mono ?_; rintro e w3 ⟨rfl, hb3⟩)
    have hb4 := bcomp hb3 ((Below.refl w3.heap.size w3).alloc (Nat.le_refl _) (.cells #[.int .i64 0, .int .i64 0] 30))
    generalize w3.alloc (.cells #[.int .i64 0, .int .i64 0] 30) = W4 at *
    have G4 := (hb4.block W.heap.size hs2).trans G2.out
    have HR4 := Lib.hid (HR.out.keep hb4)
    have HL4 := Lib.hid (HL2.out.keep hb4)
    have HB4 := Lib.hid (HB2.out.trans (hb4.mono HS.out))
    have hs4 : W.heap.size < W4.heap.size := (Array.getElem?_eq_some_iff.1 G4).1
    clear l0 l1 l2 l3 l4 hb3 hb4 HC HR HL2 HB2 G2
    have l0 := row_of G4 0 _ rfl
    have l1 := row_of G4 1 _ rfl
    have l2 := row_of G4 2 _ rfl
    have l3 := row_of G4 3 _ rfl
    have l4 := row_of G4 4 _ rfl
    have HG4 := Lib.hid G4
    clear G4
    have HCP := Lib.hid (copyProgQ P _ _ _ _ W4 HR4.out)
    have H5 := Lib.hid HR4.out.2.2.2.2
    go_upto_region 6 with (go_at_call 12; refine HCP.out.mono ?_; rintro e w5 ⟨cv', av', fv', mv', m, rfl, q1, q2, q3, q4, hm, ⟨Q, hQ, hown, -⟩, -, hb5⟩; obtain ⟨bc, jc, rfl, hbc⟩ := id q1; obtain ⟨ba, ja, rfl, -⟩ := id q2; obtain ⟨bf, jf, rfl, -⟩ := id q3; obtain ⟨bm, jm, rfl, -⟩ := id q4; have HQ1 := Lib.hid q1; have HQ2 := Lib.hid q2; have HQ3 := Lib.hid q3; have HQ4 := Lib.hid q4; have HQQ := Lib.hid hQ; have HOW := Lib.hid hown; have HB5 := Lib.hid hb5; clear q1 q2 q3 q4 hQ hown hb5)
    have g5 := heap_alloc_new w5 (.cells #[.int .i64 P.width, .slice bc P.chans.length jc, .slice ba P.arrays.length ja, .slice bf P.funcs.length jf, .slice bm P.main.length jm] 27)
    have ha5 : Below w5.heap.size w5 (w5.alloc (.cells #[.int .i64 P.width, .slice bc P.chans.length jc, .slice ba P.arrays.length ja, .slice bf P.funcs.length jf, .slice bm P.main.length jm] 27)) := (Below.refl _ _).alloc (Nat.le_refl _) _
    generalize w5.alloc (.cells #[.int .i64 P.width, .slice bc P.chans.length jc, .slice ba P.arrays.length ja, .slice bf P.funcs.length jf, .slice bm P.main.length jm] 27) = W5 at *
    have hQl : Q.length = P.funcs.length := by rw [← HQQ.out, List.length_map]
    have HQL := Lib.hid hQl
    have hqb : W4.heap.size ≤ w5.heap.size := HB5.out.size
    have HM0 : Hid (MoS W4.heap.size w5.heap.size P.width P.chans (.slice bc P.chans.length jc) P.arrays (.slice ba P.arrays.length ja) P.main (.slice bm P.main.length jm) (.slice bf P.funcs.length jf) Q W5) := by
      refine MoS.below (w := W5) ⟨?_, fun q hq => ?_, ?_, ?_, ?_, g5⟩ (Below.refl _ _)
      · rw [hQl]; exact own_below HOW.out ha5
      · exact RdFunc.same ((own_elems HQ3.out HOW.out HQQ.out q hq).keep ha5) (fun _ _ _ => rfl) (fun _ _ hg => hg.1)
      · exact RdStrs.same (HQ1.out.keep ha5) (fun _ _ _ => rfl) (fun _ _ hg => hg.1)
      · exact RdArrs.same (HQ2.out.keep ha5) (fun _ _ _ => rfl) (fun _ _ hg => hg.1)
      · exact RdInstrs.same (HQ4.out.keep ha5) (fun _ _ _ => rfl) (fun _ _ hg => Nat.le_trans hm hg)
    have HBW5 := Lib.hid (bcomp HB5.out ha5)
    have c1 := row_of g5 1 (.slice bc P.chans.length jc) rfl
    have fr1 := frozen_of_row W5 _ 1 _ _ g5
    have HH := has_any (.slice bc P.chans.length jc) P.chans unB W5 ((HQ1.out.keep ha5).forget)
    generalize w5.heap.size = qb at *
    clear g5 ha5 hm l0 l1 l2 l3 l4 hQl
    obtain ⟨tb, htb⟩ : ∃ tb, (decide (P.chans.length < 32) && !inL unB P.chans) = tb := ⟨_, rfl⟩
    have HTB := Lib.hid htb
    clear htb
    go_cut [37] from 28 (fun cc wx => cc = .bool tb ∧ wx = W5)
    case first =>
      --[[
      by_cases h32 : P.chans.length < 32
      rotate_left
      · have h33 : ¬ (P.chans.length : Int) < 32 := by omega
        have HV : Hid (tb = false) := by unfold Hid; rw [← HTB.out, decide_eq_false h32]; rfl
        clear HH
        go_wp2_with fail
        go_meet
        exact ⟨by rw [HV.out], rfl⟩
      have h33 : (P.chans.length : Int) < 32 := by omega
      cases hin : inL unB P.chans
      · have HV : Hid (tb = true) := by unfold Hid; rw [← HTB.out, decide_eq_true h32, hin]; rfl
        rw [hin] at HH
        have HH := Lib.hid HH
        clear hin
        go_wp2_with (go_at_call 23; refine HH.out.mono ?_; rintro e w6 ⟨rfl, rfl⟩)
        go_meet
        exact ⟨by rw [HV.out], rfl⟩
      · have HV : Hid (tb = false) := by unfold Hid; rw [← HTB.out, decide_eq_true h32, hin]; rfl
        rw [hin] at HH
        have HH := Lib.hid HH
        clear hin
        go_wp2_with (go_at_call 23; refine HH.out.mono ?_; rintro e w6 ⟨rfl, rfl⟩)
        go_meet
        exact ⟨by rw [HV.out], rfl⟩
      --]]
    case rest =>
    obtain ⟨rfl, rfl⟩ := hcut
    go_upto_if 37 with fail
    go_cut [37] from 38 (fun _ wx => ∃ (ch : List ByteArray) (a : Option Addr) (n c : Nat), (ch = P.chans ∨ (ch = unB :: P.chans ∧ P.chans.length < 32 ∧ unB ∉ P.chans)) ∧ MoS W4.heap.size qb P.width ch (.slice a n c) P.arrays (.slice ba P.arrays.length ja) P.main (.slice bm P.main.length jm) (.slice bf P.funcs.length jf) Q wx ∧ Below W4.heap.size W4 wx)
    case first =>
      --[[
      cases tb
      · go_wp2_with fail
        go_meet
        exact ⟨_, _, _, _, .inl rfl, HM0.out, HBW5.out⟩
      · have HN : Hid (P.chans.length < 32 ∧ unB ∉ P.chans) := by
          have h1 := HTB.out
          rw [Bool.and_eq_true, decide_eq_true_eq, Bool.not_eq_true', inL_not] at h1
          exact h1
        clear HH
        obtain ⟨is, his, hzs0, hzs1, hzs2⟩ := info_parts infoStr
        have hone : (wc.alloc (.cells #[.string ⟨#[117, 110, 117, 115, 101, 100]⟩] 9)).ownsRow wc.heap.size 9 1 (.slice (some ⟨wc.heap.size, 0, none⟩) 1 1) 1 [.string ⟨#[117, 110, 117, 115, 101, 100]⟩] := own_one wc wc.heap.size (.string ⟨#[117, 110, 117, 115, 101, 100]⟩) 9 (Nat.le_refl _)
        have hal : Below wc.heap.size wc (wc.alloc (.cells #[.string ⟨#[117, 110, 117, 115, 101, 100]⟩] 9)) := (Below.refl _ _).alloc (Nat.le_refl _) _
        have hms6 := HM0.out.below hal
        have hc1 := cell_keep hal c1
        have hfr1 := frozen_of_row (wc.alloc (.cells #[.string ⟨#[117, 110, 117, 115, 101, 100]⟩] 9)) qb 1 _ _ hms6.box
        have h32 := HN.out.1
        have hs6 : W4.heap.size ≤ wc.heap.size := HBW5.out.size
        have hsz : ∀ s ∈ unB :: P.chans, s.size ≤ maxLen := by
          intro s hs
          rcases List.mem_cons.1 hs with rfl | k
          · decide
          · obtain ⟨i, hi⟩ := List.mem_iff_getElem?.1 k
            obtain ⟨_, _, _, _, hr⟩ := HQ1.out
            obtain ⟨_, _, _, _, _, h⟩ := hr i s hi
            exact h
        have HSZ := Lib.hid hsz
        clear hsz
        rcases bc with _ | ad
        · have hn0 : P.chans = [] := by
            rcases hP : P.chans with _ | ⟨y, r⟩
            · rfl
            · obtain ⟨_, _, e, _, hr⟩ := HQ1.out
              simp only [Value.slice.injEq] at e
              obtain ⟨b, o, e2, _⟩ := hr 0 y (by rw [hP]; rfl)
              rw [← e.1] at e2; cases e2
          rw [hn0, List.length_nil] at hc1
          have hrd : RdStrs (some (upFrom W4.heap.size)) (wc.alloc (.cells #[.string ⟨#[117, 110, 117, 115, 101, 100]⟩] 9)) (.slice (some ⟨wc.heap.size, 0, none⟩) 1 1) (unB :: P.chans) := by
            rw [hn0]
            exact (own_strs (l := [unB]) hone (by simp) (by intro s hs; rw [List.mem_singleton] at hs; subst hs; decide)).up hs6
          have hbs : Below W4.heap.size W4 ((wc.alloc (.cells #[.string ⟨#[117, 110, 117, 115, 101, 100]⟩] 9)).setCell ⟨qb, 1, none⟩ (.slice (some ⟨wc.heap.size, 0, none⟩) 1 1)) := (bcomp HBW5.out hal).setCell hqb _
          have HOUT := Lib.hid (And.intro (hms6.chan hrd) hbs)
          clear hbs
          clear hn0 hrd hms6 hal HSZ
          go_wp2_with (at_builtin; refine wpList_append_nonec rfl (.tmp 38) (.tmp 40) 22 rfl wc.heap.size 9 is 1 Tryd.underlying22 his _ _ _ _ rfl hone rfl ?_)
          go_meet
          exact ⟨_, _, _, _, .inr ⟨rfl, HN.out.1, HN.out.2⟩, HOUT.out.1, HOUT.out.2⟩
        · have hcs := strs_cells hms6.chs
          have HMS6 := Lib.hid hms6
          have HAL := Lib.hid hal
          have HC1 := Lib.hid c1
          clear hms6 hal c1
          go_wp2_with (at_builtin; refine wpList_append_own _ rfl (.tmp 38) (.tmp 40) 22 rfl wc.heap.size 9 is (.string ⟨#[]⟩) 1 16 Tryd.underlying22 his hzs0 hzs1 hzs2 rfl (by decide) _ _ _ rfl hone ad P.chans.length jc (P.chans.flatMap strCells) rfl (by rw [flat_length strCells 1 (fun _ => rfl)]) hcs (by intro u hu; obtain ⟨s, _, hs⟩ := List.mem_flatMap.1 hu; simp [strCells] at hs; subst hs; rfl) (by unfold maxLen; omega) (by omega) (by simp) ?_)
          intro v' w7 hown' hgrow _
          obtain ⟨a', c', rfl, -⟩ := own_read hown'
          have hb7 : Below wc.heap.size wc w7 := HAL.out.grown hgrow (by simp) (own_row_le hone)
          have hms7 := HM0.out.below hb7
          have hrd : RdStrs (some (upFrom W4.heap.size)) w7 (.slice a' (1 + P.chans.length) c') (unB :: P.chans) := by
            rw [show 1 + P.chans.length = P.chans.length + 1 from Nat.add_comm _ _] at hown' ⊢
            refine (own_strs (base := wc.heap.size) (l := unB :: P.chans) ?_ (by simp only [List.length_cons]; omega) HSZ.out).up hs6
            rw [List.length_cons, List.flatMap_cons]
            exact hown'
          have c1 := cell_keep hb7 HC1.out
          have fr7 := frozen_of_row w7 qb 1 _ _ hms7.box
          have hbs : Below W4.heap.size W4 (w7.setCell ⟨qb, 1, none⟩ (.slice a' (1 + P.chans.length) c')) := (bcomp HBW5.out hb7).setCell hqb _
          have HOUT := Lib.hid (And.intro (hms7.chan hrd) hbs)
          clear hbs
          clear hown' hgrow hrd hms7 hb7 hcs
          go_wp2_with fail
          go_meet
          exact ⟨_, _, _, _, .inr ⟨rfl, HN.out.1, HN.out.2⟩, HOUT.out.1, HOUT.out.2⟩
      --]]
    case rest =>
      obtain ⟨ch, cha, chn, chc, hch, hms, hb⟩ := hcut
      clear HM0 HBW5 c1 fr1 HTB HH
      have HCH := Lib.hid hch
      have HMS := Lib.hid hms
      have HB := Lib.hid hb
      have hsb := hb.size
      have hq5 : Q.length ≤ 5 := by rw [HQL.out]; exact HFL.out
      obtain ⟨iF, hin, hzf0, hzf1, hzf2⟩ := info_parts infoFunc
      have q3 := row_of hms.box 3 (.slice bf P.funcs.length jf) rfl
      have halA : Below wc.heap.size wc ((wc.alloc (.cells #[.string ⟨#[120]⟩] 9)).alloc (.cells #[.string ⟨#[117, 110, 117, 115, 101, 100, 95]⟩, .slice (some ⟨wc.heap.size, 0, none⟩) 1 1, .slice none 0 0, .int .i64 0, .int .i64 0] 52)) := ((Below.refl _ _).alloc (Nat.le_refl _) _).alloc (by simp) _
      have gA0 := heap_alloc2_old wc (.cells #[.string ⟨#[120]⟩] 9) (.cells #[.string ⟨#[117, 110, 117, 115, 101, 100, 95]⟩, .slice (some ⟨wc.heap.size, 0, none⟩) 1 1, .slice none 0 0, .int .i64 0, .int .i64 0] 52)
      have gA1 := heap_alloc2_new wc (.cells #[.string ⟨#[120]⟩] 9) (.cells #[.string ⟨#[117, 110, 117, 115, 101, 100, 95]⟩, .slice (some ⟨wc.heap.size, 0, none⟩) 1 1, .slice none 0 0, .int .i64 0, .int .i64 0] 52)
      have HMA := Lib.hid (hms.below halA)
      have HBA := Lib.hid (bcomp hb halA)
      have HUF : Hid (RdFunc (some (upFrom W4.heap.size)) ((wc.alloc (.cells #[.string ⟨#[120]⟩] 9)).alloc (.cells #[.string ⟨#[117, 110, 117, 115, 101, 100, 95]⟩, .slice (some ⟨wc.heap.size, 0, none⟩) 1 1, .slice none 0 0, .int .i64 0, .int .i64 0] 52)) unF (.slice (some ⟨wc.heap.size, 0, none⟩) 1 1) (.slice none 0 0)) := by
        refine ⟨(own_strs (base := wc.heap.size) (l := [⟨#[120]⟩]) (own_of (n := 1) (size := 1) (xs := [.string ⟨#[120]⟩]) gA0 (Nat.le_refl _) rfl (by unfold maxLen; omega)) (by simp) (by intro s hs; rw [List.mem_singleton] at hs; subst hs; decide)).up hsb, rdInstrs_nil _ _, (by show InI64 0; unfold InI64; omega), (by show InI64 0; unfold InI64; omega), (by decide)⟩
      have hmany := many_of (xs := funCells (unF, .slice (some ⟨wc.heap.size, 0, none⟩) 1 1, .slice none 0 0)) gA1
      have hownA := (HMA.out.own)
      clear hms hb hch gA0 gA1 halA
      go_upto_region 9 with (at_builtin; refine wpList_append_own _ rfl (.tmp 44) (.tmp 47) 24 rfl W4.heap.size 52 iF (.agg #[.string ⟨#[]⟩, .slice none 0 0, .slice none 0 0, .int .i64 0, .int .i64 0]) 5 80 Tryd.underlying24 hin hzf0 hzf1 hzf2 rfl (by decide) _ _ _ rfl hownA ⟨wc.heap.size + 1, 0, none⟩ 1 1 (funCells (unF, .slice (some ⟨wc.heap.size, 0, none⟩) 1 1, .slice none 0 0)) rfl rfl hmany (by intro u hu; simp [funCells] at hu; rcases hu with rfl | rfl | rfl | rfl | rfl <;> rfl) (by unfold maxLen; omega) (by omega) (by simp; omega) ?_)
      intro v' w9 hown' hgrow _
      obtain ⟨a9, c9, rfl, -⟩ := own_read hown'
      have hownN : w9.ownsRow W4.heap.size 52 5 (.slice a9 (Q.length + 1) c9) (Q ++ [(unF, (.slice (some ⟨wc.heap.size, 0, none⟩) 1 1 : Value), (.slice none 0 0 : Value))]).length ((Q ++ [(unF, (.slice (some ⟨wc.heap.size, 0, none⟩) 1 1 : Value), (.slice none 0 0 : Value))]).flatMap funCells) := by
        have e : (Q ++ [(unF, (.slice (some ⟨wc.heap.size, 0, none⟩) 1 1 : Value), (.slice none 0 0 : Value))]).flatMap funCells = Q.flatMap funCells ++ funCells (unF, (.slice (some ⟨wc.heap.size, 0, none⟩) 1 1 : Value), (.slice none 0 0 : Value)) := by simp
        rw [e, List.length_append, List.length_singleton]
        exact hown'
      have hmsN := HMA.out.append (Q' := Q ++ [(unF, (.slice (some ⟨wc.heap.size, 0, none⟩) 1 1 : Value), (.slice none 0 0 : Value))]) hgrow hownN (fun q hq => by
        rcases List.mem_append.1 hq with k | k
        · exact .inl k
        · rw [List.mem_singleton] at k; subst k; exact .inr HUF.out)
      have hbN : Below W4.heap.size W4 (w9.setCell ⟨qb, 3, none⟩ (.slice a9 (Q.length + 1) c9)) := (HBA.out.grown hgrow (by simp; omega) (own_row_le hownA)).setCell hqb _
      have hbox9 := (Only.grown hownA hgrow qb _ _ (by decide) HMA.out.box).trans HMA.out.box
      have k3 := row_of hbox9 3 (.slice bf P.funcs.length jf) rfl
      have kf3 := frozen_of_row w9 qb 3 _ _ hbox9
      obtain ⟨uq, huq⟩ : ∃ uq, uq = (unF, (.slice (some ⟨wc.heap.size, 0, none⟩) 1 1 : Value), (.slice none 0 0 : Value)) := ⟨_, rfl⟩
      have HU1 : Hid (uq.1 = unF) := by unfold Hid; rw [huq]
      rw [← huq] at hmsN
      have HMN := Lib.hid hmsN
      have HBN := Lib.hid hbN
      have HQ5 := Lib.hid hq5
      clear hown' hgrow hownN hmsN hbN hbox9 hownA hmany HMA HBA HUF huq q3
      go_wp2_with fail
      generalize w9.setCell ⟨qb, 3, none⟩ (.slice a9 (Q.length + 1) c9) = W9 at *
      clear k3 kf3
      go_loopw [8] (fun ii wr => ∃ (i : Nat) (a : Option Addr) (m c : Nat) (R : List (FuncD × Value × Value)), i ≤ P.funcs.length ∧ ii = .int .i64 i ∧ m = R.length ∧ MoS W4.heap.size qb P.width ch (.slice cha chn chc) P.arrays (.slice ba P.arrays.length ja) P.main (.slice bm P.main.length jm) (.slice a m c) R wr ∧ ((R = Q ++ [uq] ∧ unF.name ∉ fNames (P.funcs.take i)) ∨ (R = Q ∧ unF.name ∈ fNames P.funcs)) ∧ Below W4.heap.size W4 wr) (fun ii _ => P.funcs.length - (intOf ii).toNat)
      case atStart => exact ⟨0, _, _, _, _, Nat.zero_le _, rfl, by rw [List.length_append]; rfl, HMN.out, .inl ⟨rfl, by simp [fNames]⟩, HBN.out⟩
      case round =>
        obtain ⟨wo, rfl⟩ : ∃ x : World, x = wr := ⟨_, rfl⟩
        obtain ⟨i, a, m, c, R, hi, rfl, hm, hms, hR, hb⟩ := hrel
        clear HMN HBN
        have HMS := Lib.hid hms
        have HB := Lib.hid hb
        have HRR := Lib.hid hR
        have HM := Lib.hid hm
        have G := (hb.block W.heap.size hs4).trans HG4.out
        have l3 := row_of G 3 (.slice af P.funcs.length kf) rfl
        have q3 := row_of hms.box 3 (.slice a m c) rfl
        have fq3 := frozen_of_row wo qb 3 _ _ hms.box
        have hso := hb.size
        have hmc : m ≤ c := by
          have h1 := hms.own
          rw [← hm] at h1
          exact own_cap h1
        have hnm : P.funcs.length ≤ m := by
          rw [hm]
          rcases hR with ⟨rfl, _⟩ | ⟨rfl, _⟩
          · rw [List.length_append, HQL.out]; omega
          · rw [HQL.out]; omega
        clear G hR hms hm
        by_cases hlt : i < P.funcs.length
        · have hlt2 : (i : Int) < (P.funcs.length : Int) := by omega
          --[[
          obtain ⟨x, hx⟩ : ∃ x, P.funcs[i]? = some x := ⟨_, List.getElem?_eq_getElem hlt⟩
          have HX := Lib.hid hx
          obtain ⟨_, _, e3, _, hr3⟩ := HR4.out.2.2.1
          simp only [Value.slice.injEq] at e3
          obtain ⟨rfl, -, rfl⟩ := e3
          obtain ⟨fb, fo, pv9, cv9, rfl, -, y0, -⟩ := hr3 i x hx
          have y0 := cell_keep hb y0
          clear hr3 hx hb
          cases he : (x.name.toList == [117, 110, 117, 115, 101, 100, 95])
          · have HE : Hid (¬ x.name = unF.name) := by
              have h1 := he
              rw [unF_eq] at h1
              show ¬ x.name = unF.name
              exact of_decide_eq_false h1
            go_wp2_with fail
            go_roundw
            case rel =>
              refine ⟨i + 1, a, m, c, R, by omega, by go_num, HM.out, HMS.out, ?_, HB.out⟩
              rcases HRR.out with ⟨h1, h2⟩ | h1
              · refine .inl ⟨h1, ?_⟩
                rw [List.take_add_one, HX.out]
                unfold fNames at h2 ⊢
                rw [List.map_append, List.mem_append]
                rintro (k | k)
                · exact h2 k
                · simp only [Option.toList_some, List.map_cons, List.map_nil, List.mem_singleton] at k
                  exact HE.out k.symm
              · exact .inr h1
            case measure => simp [intOf]; omega
          · have HE : Hid (x.name = unF.name) := by
              have h1 := he
              rw [unF_eq] at h1
              show x.name = unF.name
              exact of_decide_eq_true h1
            have hpm : 0 < m := by omega
            have hown := HMS.out.own
            rw [← HM.out] at hown
            have hcut := own_cut hown hnm hpm
            have hel : ∀ q ∈ Q, RdFunc (some (upFrom W4.heap.size)) wo q.1 q.2.1 q.2.2 := by
              intro q hq
              refine HMS.out.el q ?_
              rcases HRR.out with ⟨rfl, _⟩ | ⟨rfl, _⟩
              · exact List.mem_append_left _ hq
              · exact hq
            have hfq : (R.flatMap funCells).take (P.funcs.length * 5) = Q.flatMap funCells := by
              have hl : (Q.flatMap funCells).length = P.funcs.length * 5 := by rw [flat_length funCells 5 (fun _ => rfl), HQL.out]
              rcases HRR.out with ⟨rfl, _⟩ | ⟨rfl, _⟩
              · rw [List.flatMap_append, ← hl, List.take_left']
                rfl
              · rw [← hl, List.take_length]
            rw [hfq, ← HQL.out] at hcut
            have hms2 := HMS.out.func hcut hel
            rw [HQL.out] at hms2
            have hb2 : Below W4.heap.size W4 (wo.setCell ⟨qb, 3, none⟩ (.slice a P.funcs.length c)) := HB.out.setCell hqb _
            have HO := Lib.hid (And.intro hms2 hb2)
            have HMEM : Hid (unF.name ∈ fNames P.funcs) := by
              unfold Hid fNames
              rw [← HE.out]
              exact List.mem_map_of_mem (List.mem_of_getElem? HX.out)
            clear hown hcut hel hfq hms2 hb2
            go_wp2_with fail
            go_roundw
            case rel => exact ⟨i + 1, a, P.funcs.length, c, Q, by omega, by go_num, HQL.out.symm, HO.out.1, .inr ⟨rfl, HMEM.out⟩, HO.out.2⟩
            case measure => simp [intOf]; omega
          --]]
        · obtain rfl : i = P.funcs.length := by omega
          have hlt2 : ¬ ((P.funcs.length : Int) < (P.funcs.length : Int)) := by omega
          have HRF : Hid ((R = Q ++ [uq] ∧ unF.name ∉ fNames P.funcs) ∨ (R = Q ∧ unF.name ∈ fNames P.funcs)) := by
            rcases HRR.out with ⟨h1, h2⟩ | h1
            · rw [List.take_length] at h2; exact .inl ⟨h1, h2⟩
            · exact .inr h1
          have hm6 : m ≤ 6 := by
            rw [HM.out]
            have := HQ5.out
            rcases HRF.out with ⟨rfl, _⟩ | ⟨rfl, _⟩
            · rw [List.length_append]; simp only [List.length_singleton]; omega
            · omega
          clear hi HRR
          go_wp2_with fail
          go_loopw [9] (fun ii wr => ∃ (i : Nat) (S : List (FuncD × Value × Value)), i ≤ m / 2 ∧ ii = .int .i64 i ∧ S.length = m ∧ MoS W4.heap.size qb P.width ch (.slice cha chn chc) P.arrays (.slice ba P.arrays.length ja) P.main (.slice bm P.main.length jm) (.slice a m c) S wr ∧ (∀ j, j < m → S[j]? = if j < i ∨ m - i ≤ j then R[m - 1 - j]? else R[j]?) ∧ Below W4.heap.size W4 wr) (fun ii _ => m / 2 - (intOf ii).toNat)
          case atStart => exact ⟨0, R, Nat.zero_le _, rfl, HM.out.symm, HMS.out, fun j hj => by rw [if_neg (by omega)], HB.out⟩
          case round =>
            obtain ⟨w1, rfl⟩ : ∃ x : World, x = wr := ⟨_, rfl⟩
            obtain ⟨i, S, hi, rfl, hSl, hms, hSj, hb⟩ := hrel
            clear HMS HB l3 q3 fq3 hso hnm hlt2
            have HMS := Lib.hid hms
            have HB := Lib.hid hb
            have HSL := Lib.hid hSl
            have HSJ := Lib.hid hSj
            have q3 := row_of hms.box 3 (.slice a m c) rfl
            have hso := hb.size
            by_cases hlt : i < m / 2
            · have hlt2 : (i : Int) < (m : Int) / 2 := by omega
              obtain ⟨qi, hqi⟩ : ∃ q, S[i]? = some q := ⟨_, List.getElem?_eq_getElem (by omega)⟩
              obtain ⟨j, hj⟩ : ∃ j : Nat, m - 1 - i = j := ⟨_, rfl⟩
              obtain ⟨qj, hqj⟩ : ∃ q, S[j]? = some q := ⟨_, List.getElem?_eq_getElem (by omega)⟩
              have hown := hms.own
              rw [hSl] at hown
              have hfl : (S.flatMap funCells).length = m * 5 := by rw [flat_length funCells 5 (fun _ => rfl), hSl]
              obtain ⟨g, cg, e, -, hcell⟩ := own_at hown (by omega)
              simp only [Value.slice.injEq] at e
              obtain ⟨rfl, -, rfl⟩ := e
              have hfi := hms.el qi (List.mem_of_getElem? hqi)
              have hfj := hms.el qj (List.mem_of_getElem? hqj)
              obtain ⟨fi, pvi, cvi⟩ := qi
              obtain ⟨fj, pvj, cvj⟩ := qj
              dsimp only at hfi hfj
              obtain ⟨pia, pic, rfl, -⟩ := id hfi.1
              obtain ⟨cia, cic, rfl, -⟩ := id hfi.2.1
              obtain ⟨pja, pjc, rfl, -⟩ := id hfj.1
              obtain ⟨cja, cjc, rfl, -⟩ := id hfj.2.1
              have hci : ∀ k v, (funCells (fi, Value.slice pia fi.params.length pic, Value.slice cia fi.code.length cic))[k]? = some v → w1.cell? ⟨g, i * 5 + k, none⟩ = some v := fun k v hv => by
                have hk : k < 5 := (List.getElem?_eq_some_iff.1 hv).1
                have := hcell (i * 5 + k) v (by rw [flat_get funCells 5 (fun _ => rfl) S i k _ hqi hk]; exact hv)
                rwa [Nat.zero_add] at this
              have hcj : ∀ k v, (funCells (fj, Value.slice pja fj.params.length pjc, Value.slice cja fj.code.length cjc))[k]? = some v → w1.cell? ⟨g, j * 5 + k, none⟩ = some v := fun k v hv => by
                have hk : k < 5 := (List.getElem?_eq_some_iff.1 hv).1
                have := hcell (j * 5 + k) v (by rw [flat_get funCells 5 (fun _ => rfl) S j k _ hqj hk]; exact hv)
                rwa [Nat.zero_add] at this
              have hji : (m : Int) - 1 - (i : Int) = (j : Int) := by omega
              have hjm : (j : Int) < (m : Int) := by omega
              have him : (i : Int) < (m : Int) := by omega
              have HOWN := Lib.hid hown
              have HFI := Lib.hid hfi
              have HFJ := Lib.hid hfj
              have HQI := Lib.hid hqi
              have HQJ := Lib.hid hqj
              have HCI := Lib.hid hci
              have HCJ := Lib.hid hcj
              have HJ := Lib.hid hj
              clear hown hfi hfj hqi hqj hcell hci hcj hSl hSj hms hb hj hfl
              go_upto_region 17 with fail
              refine wp_region_mixK qb (.two [0, 1, 2, 3, 4, 5, 6, 7, 8, 9, 10, 11, 12, 13, 14, 15, 16, 17, 18, 19, 21, 22, 23, 24] 20 25 (.one [] 25 (.one [26] 27 (.one [28] 29 (.fin [])))) (.one [] 20 (.one [26] 27 (.one [28] 29 (.fin []))))) (fun _ => false) (by kernel_rfl) (by kernel_rfl) rfl (by kernel_rfl) (fun _ d _ _ _ h => by cases d <;> exact h) ?_
              have HBd : Hid (Below w1.heap.size w1 w1.drew) := (Below.refl _ _).drew
              have l3 := keepB_cell q3
              have HBX := Lib.hid (HMS.out.box)
              refine mix_two (by simp only [opsOf, List.filterMap_cons, List.filterMap_nil, List.getElem?_toArray, List.getElem?_cons_succ, List.getElem?_cons_zero]; rfl) ⟨_, keepB_of rfl⟩ ?_
              change wpQuiet _ _ _ _ [_, _, _, _, _, _, _, _, _, _, _, _, _, _, _, _, _, _, _, _, _, _, _, _] _
              (repeat (go_big_quiet_step (fail)))
              refine wpQuiet_nil ?_
              have HW0 : Hid (∀ a v, w1.cell? a = some v → w1.drew.cell? a = some v) := fun _ _ h => h
              have ci0 : w1.cell? ⟨g, i * 5, none⟩ = some (.string fi.name) := HCI.out 0 _ rfl
              have ci1 : w1.cell? ⟨g, i * 5 + 1, none⟩ = some (.slice pia fi.params.length pic) := HCI.out 1 _ rfl
              have ci2 : w1.cell? ⟨g, i * 5 + 2, none⟩ = some (.slice cia fi.code.length cic) := HCI.out 2 _ rfl
              have ci3 : w1.cell? ⟨g, i * 5 + 3, none⟩ = some (.int .i64 fi.line) := HCI.out 3 _ rfl
              have ci4 : w1.cell? ⟨g, i * 5 + 4, none⟩ = some (.int .i64 fi.col) := HCI.out 4 _ rfl
              have cj0 : w1.cell? ⟨g, j * 5, none⟩ = some (.string fj.name) := HCJ.out 0 _ rfl
              have cj1 : w1.cell? ⟨g, j * 5 + 1, none⟩ = some (.slice pja fj.params.length pjc) := HCJ.out 1 _ rfl
              have cj2 : w1.cell? ⟨g, j * 5 + 2, none⟩ = some (.slice cja fj.code.length cjc) := HCJ.out 2 _ rfl
              have cj3 : w1.cell? ⟨g, j * 5 + 3, none⟩ = some (.int .i64 fj.line) := HCJ.out 3 _ rfl
              have cj4 : w1.cell? ⟨g, j * 5 + 4, none⟩ = some (.int .i64 fj.col) := HCJ.out 4 _ rfl
              obtain ⟨hge, cur, hblk⟩ := own_blk5 HOWN.out
              have zi0 := frozen_of_row w1 g (i * 5) _ _ hblk
              have zi1 := frozen_of_row w1 g (i * 5 + 1) _ _ hblk
              have zi2 := frozen_of_row w1 g (i * 5 + 2) _ _ hblk
              have zi3 := frozen_of_row w1 g (i * 5 + 3) _ _ hblk
              have zi4 := frozen_of_row w1 g (i * 5 + 4) _ _ hblk
              have zj0 := frozen_of_row w1 g (j * 5) _ _ hblk
              have zj1 := frozen_of_row w1 g (j * 5 + 1) _ _ hblk
              have zj2 := frozen_of_row w1 g (j * 5 + 2) _ _ hblk
              have zj3 := frozen_of_row w1 g (j * 5 + 3) _ _ hblk
              have zj4 := frozen_of_row w1 g (j * 5 + 4) _ _ hblk
              have hne : qb ≠ g := HMS.out.ne hblk
              obtain ⟨hmd, hbd, hk1, hk2⟩ := swap_world HMS.out HSL.out HQI.out HQJ.out HB.out hge hne
              have hsa := swap_at HSL.out hlt HJ.out HSJ.out HQI.out HQJ.out
              have hln : ((S.set i (fj, (.slice pja fj.params.length pjc : Value), (.slice cja fj.code.length cjc : Value))).set j (fi, (.slice pia fi.params.length pic : Value), (.slice cia fi.code.length cic : Value))).length = m := by rw [List.length_set, List.length_set]; exact HSL.out
              have HK1 := Lib.hid hk1
              have HK2 := Lib.hid hk2
              have HSW1 := Lib.hid hmd
              have HSW2 := Lib.hid hsa
              have HSW3 := Lib.hid hbd
              have HSW4 := Lib.hid hln
              clear hmd hsa hbd hln hge hne hk1 hk2 hblk
              --[[
              refine ⟨?_, ?_⟩
              · refine mix_step rfl ?_
                go_wp2_with fail
                refine ⟨⟨_, keepB_of rfl⟩, ?_⟩
                refine mix_now ?_
                refine mix_step rfl ?_
                go_wp2_with fail
                refine ⟨⟨_, keepB_of rfl⟩, ?_⟩
                refine mix_one (by simp only [opsOf, List.filterMap_cons, List.filterMap_nil, List.getElem?_toArray, List.getElem?_cons_succ, List.getElem?_cons_zero]; rfl) ⟨_, keepB_of rfl⟩ ?_
                change wpQuiet _ _ _ _ [_] _
                go_big_quiet_step (fail)
                refine wpQuiet_nil ?_
                refine mix_step rfl ?_
                go_wp2_with fail
                refine keepB_goal HK1.out ?_
                refine mix_one (by simp only [opsOf, List.filterMap_cons, List.filterMap_nil, List.getElem?_toArray, List.getElem?_cons_succ, List.getElem?_cons_zero]; rfl) ⟨_, keepB_of HK1.out⟩ ?_
                change wpQuiet _ _ _ _ [_] _
                go_big_quiet_step (fail)
                refine wpQuiet_nil ?_
                refine mix_step rfl ?_
                go_wp2_with fail
                refine keepB_goal HK2.out ?_
                simp only [mixRun, readRun]
                go_wp2_with fail
                go_roundw
                case rel => exact ⟨i + 1, _, by omega, by go_num, HSW4.out, HSW1.out, HSW2.out, HSW3.out⟩
                case measure => simp [intOf]; omega
              · refine mix_step rfl ?_
                go_wp2_with fail
                refine ⟨⟨_, keepB_of rfl⟩, ?_⟩
                refine mix_now ?_
                refine mix_step rfl ?_
                go_wp2_with fail
                refine ⟨⟨_, keepB_of rfl⟩, ?_⟩
                refine mix_one (by simp only [opsOf, List.filterMap_cons, List.filterMap_nil, List.getElem?_toArray, List.getElem?_cons_succ, List.getElem?_cons_zero]; rfl) ⟨_, keepB_of rfl⟩ ?_
                change wpQuiet _ _ _ _ [_] _
                go_big_quiet_step (fail)
                refine wpQuiet_nil ?_
                refine mix_step rfl ?_
                go_wp2_with fail
                refine keepB_goal HK1.out ?_
                refine mix_one (by simp only [opsOf, List.filterMap_cons, List.filterMap_nil, List.getElem?_toArray, List.getElem?_cons_succ, List.getElem?_cons_zero]; rfl) ⟨_, keepB_of HK1.out⟩ ?_
                change wpQuiet _ _ _ _ [_] _
                go_big_quiet_step (fail)
                refine wpQuiet_nil ?_
                refine mix_step rfl ?_
                go_wp2_with fail
                refine keepB_goal HK2.out ?_
                simp only [mixRun, readRun]
                go_wp2_with fail
                go_roundw
                case rel => exact ⟨i + 1, _, by omega, by go_num, HSW4.out, HSW1.out, HSW2.out, HSW3.out⟩
                case measure => simp [intOf]; omega
              --]]
            · have hlt2 : ¬ ((i : Int) < (m : Int) / 2) := by omega
              have HREV : Hid (S.map Prod.fst = (R.map Prod.fst).reverse) := by
                have hRl : R.length = m := HM.out.symm
                have e : S = R.reverse := by
                  apply List.ext_getElem?
                  intro j
                  by_cases hj : j < m
                  · rw [HSJ.out j hj, List.getElem?_reverse (by rw [hRl]; exact hj), hRl]
                    by_cases h1 : j < i ∨ m - i ≤ j
                    · rw [if_pos h1]
                    · rw [if_neg h1, show m - 1 - j = j by omega]
                  · rw [List.getElem?_eq_none (by rw [HSL.out]; omega), List.getElem?_eq_none (by rw [List.length_reverse, hRl]; omega)]
                unfold Hid
                rw [e, List.map_reverse]
              have HFUN : Hid (R.map Prod.fst = P.funcs ∨ (R.map Prod.fst = P.funcs ++ [unF] ∧ unF.name ∉ fNames P.funcs)) := by
                rcases HRF.out with ⟨rfl, h1⟩ | ⟨rfl, _⟩
                · exact .inr ⟨by rw [List.map_append, HQQ.out, List.map_singleton, HU1.out], h1⟩
                · exact .inl HQQ.out
              have HOK1 := Lib.hid (first_ok HOK.out HFL.out HCH.out HFUN.out)
              have hrd := HMS.out.prog (by rw [HSL.out]; omega) H5.out
              rw [HREV.out] at hrd
              have HRD1 := Lib.hid hrd
              have HL5 := Lib.hid (HL4.out.keep HB.out)
              have C1 := check_any ⟨P.width, ch, P.arrays, (R.map Prod.fst).reverse, P.main⟩ _ _ _ _ w1 HRD1.out HL5.out
              rw [ok_iff.2 HOK1.out] at C1
              have HC1 : Hid (Calls Tryd.prog 13 #[.agg #[.int .i64 P.width, .slice cha chn chc, .slice ba P.arrays.length ja, .slice a m c, .slice bm P.main.length jm]] w1 fun e w' => e = .returned (.tuple #[.agg #[.int .i64 0, .int .i64 0], .int .i64 0]) ∧ Below w1.heap.size w1 w') := C1
              have q0 := row_of hms.box 0 (.int .i64 P.width) rfl
              have q1 := row_of hms.box 1 (.slice cha chn chc) rfl
              have q2 := row_of hms.box 2 (.slice ba P.arrays.length ja) rfl
              have q4 := row_of hms.box 4 (.slice bm P.main.length jm) rfl
              have G1 := Lib.hid ((hb.block W.heap.size hs4).trans HG4.out)
              clear C1 hrd hSl hSj hms hb
              go_upto_region 21 with (go_at_call 13; refine HC1.out.mono ?_; rintro e w2 ⟨rfl, hb2⟩)
              have hb3 := bcomp hb2 ((Below.refl w2.heap.size w2).alloc (Nat.le_refl _) (.cells #[.int .i64 0, .int .i64 0] 30))
              generalize w2.alloc (.cells #[.int .i64 0, .int .i64 0] 30) = W6 at *
              have HB6 := Lib.hid (bcomp HB.out hb3)
              have hs1 : W.heap.size < w1.heap.size := (Array.getElem?_eq_some_iff.1 G1.out).1
              have G6 := (hb3.block W.heap.size hs1).trans G1.out
              have l0 := row_of G6 0 (.int .i64 P.width) rfl
              have l1 := row_of G6 1 (.slice ac P.chans.length kc) rfl
              have l2 := row_of G6 2 (.slice aa P.arrays.length ka) rfl
              have l3 := row_of G6 3 (.slice af P.funcs.length kf) rfl
              have l4 := row_of G6 4 (.slice am P.main.length km) rfl
              have HL6 := Lib.hid (HL4.out.keep HB6.out)
              have HR6 := Lib.hid (HR4.out.keep HB6.out)
              have HBE := Lib.hid (HB4.out.trans (HB6.out.mono (Nat.le_of_lt hs4)))
              have hs6 : W.heap.size ≤ W6.heap.size := HBE.out.size
              have hml := HML.out
              have HG6 := Lib.hid G6
              clear q0 q1 q2 q3 q4 hb2 hb3 HC1 HRD1 HREV HFUN HOK1 HMS HB HSL HSJ HCH HRF HQ5 HU1 HM G6 HL5
              by_cases h0 : P.main.length = 0
              · have h0' : ¬ (0 : Int) < (P.main.length : Int) := by omega
                clear h0
                go_wp2_with (go_at_call 16; refine (awake_any _ HL6.out).mono ?_; rintro e wz ⟨rfl, hbz⟩)
                go_ret
                exact ⟨rfl, HBE.out.trans (hbz.mono hs6)⟩
              have h0' : (0 : Int) < (P.main.length : Int) := by omega
              go_upto_region 23 with (go_at_call 24; refine (mod_more which (P.main.length : Int) hwh (by omega) _).mono ?_; rintro e w7 ⟨r, rfl, hr0, hr1, hb7⟩)
              obtain ⟨k, rfl⟩ : ∃ k : Nat, r = k := ⟨r.toNat, by omega⟩
              have hkl : k < P.main.length := by omega
              obtain ⟨y, hy⟩ : ∃ y, P.main[k]? = some y := ⟨_, List.getElem?_eq_getElem hkl⟩
              have HY := Lib.hid hy
              have l0 := cell_keep hb7 l0
              have l1 := cell_keep hb7 l1
              have l2 := cell_keep hb7 l2
              have l3 := cell_keep hb7 l3
              have l4 := cell_keep hb7 l4
              have HR7 := Lib.hid (HR6.out.keep hb7)
              have HL7 := Lib.hid (HL6.out.keep hb7)
              have HB7 := Lib.hid (HBE.out.trans (hb7.mono hs6))
              have hs7 : W.heap.size ≤ w7.heap.size := HB7.out.size
              obtain ⟨_, _, e4, _, hr4⟩ := HR7.out.2.2.2.1
              simp only [Value.slice.injEq] at e4
              obtain ⟨rfl, -, rfl⟩ := e4
              obtain ⟨mb, mo, mav, rfl, -, y0, -⟩ := hr4 k y hy
              clear hr4 hy hb7
              by_cases hk10 : y.kind = 10
              · go_wp2_with (go_at_call 16; refine (awake_any _ HL7.out).mono ?_; rintro e wz ⟨rfl, hbz⟩)
                go_ret
                exact ⟨rfl, HB7.out.trans (hbz.mono hs7)⟩
              have HK10 := Lib.hid hk10
              have HCP2 := Lib.hid (copyProgQ P _ _ _ _ w7 HR7.out)
              go_upto_region 25 with (go_at_call 12; refine HCP2.out.mono ?_; rintro e w8 ⟨cv', av', fv', mv', m2, rfl, q1, q2, q3, q4, hm2, -, hz, hb8⟩; obtain ⟨sc, tc, rfl, -⟩ := id q1; obtain ⟨sa, ta, rfl, -⟩ := id q2; obtain ⟨sf, tf, rfl, -⟩ := id q3; obtain ⟨sm, tm, rfl, hcap, hrm⟩ := id q4; have HQ1 := Lib.hid q1; have HQ2 := Lib.hid q2; have HQ3 := Lib.hid q3; have HQ4 := Lib.hid q4; have HZ := Lib.hid hz; have HRM := Lib.hid hrm; have HB8 := Lib.hid hb8; clear q1 q2 q3 q4 hz hb8 hrm)
              obtain ⟨sb, so, sav, rfl, -⟩ := HRM.out k y HY.out
              obtain rfl : so = 0 := HZ.out sb so none _ _ rfl
              have g9 := heap_alloc_new w8 (.cells #[.int .i64 P.width, .slice sc P.chans.length tc, .slice sa P.arrays.length ta, .slice sf P.funcs.length tf, .slice (some ⟨sb, 0, none⟩) P.main.length tm] 27)
              have ha9 : Below w8.heap.size w8 (w8.alloc (.cells #[.int .i64 P.width, .slice sc P.chans.length tc, .slice sa P.arrays.length ta, .slice sf P.funcs.length tf, .slice (some ⟨sb, 0, none⟩) P.main.length tm] 27)) := (Below.refl _ _).alloc (Nat.le_refl _) _
              generalize w8.alloc (.cells #[.int .i64 P.width, .slice sc P.chans.length tc, .slice sa P.arrays.length ta, .slice sf P.funcs.length tf, .slice (some ⟨sb, 0, none⟩) P.main.length tm] 27) = W9 at *
              have HR9 := Lib.hid (And.intro (HQ1.out.keep ha9) (And.intro (HQ2.out.keep ha9) (And.intro (HQ3.out.keep ha9) (HQ4.out.keep ha9))))
              have HB9 := Lib.hid (bcomp HB8.out ha9)
              have hrb : w7.heap.size ≤ w8.heap.size := HB8.out.size
              generalize w8.heap.size = rb at *
              have HG9 := Lib.hid g9
              have HA9 := Lib.hid ha9
              have hmt : P.main.length ≤ tm := by have := hcap; omega
              have HM2 := Lib.hid hm2
              clear g9 ha9 l0 l1 l2 l3 l4 hcap hm2
              refine wp_region_mix (.one [0, 1, 2, 3, 4, 5, 6, 7, 8, 9] 10 (tailOf [11, 12])) (fun j => decide (10 ≤ j)) (by kernel_rfl) (by kernel_rfl) rfl (by kernel_rfl) (fun _ d _ _ _ h => by cases d <;> exact h) ?_
              have HBd : Hid (Below W9.heap.size W9 W9.drew) := (Below.refl _ _).drew
              generalize W9.drew = wn at *
              have l4 := ext_cell (row_of HG9.out 4 (.slice (some ⟨sb, 0, none⟩) P.main.length tm) rfl)
              have hk1 : (k : Int) < (P.main.length : Int) := by omega
              have hk2 : (k : Int) ≤ (tm : Int) := by omega
              have hk3 : (k : Int) + 1 ≤ (P.main.length : Int) := by omega
              have hk4 : (P.main.length : Int) ≤ (tm : Int) := by omega
              refine mix_one (by simp only [opsOf, List.filterMap_cons, List.filterMap_nil, List.getElem?_toArray, List.getElem?_cons_succ, List.getElem?_cons_zero]; rfl) ⟨_, ext_of HBd.out⟩ ?_
              change wpQuiet _ _ _ _ [_, _, _, _, _, _, _, _, _, _] _
              (repeat (go_big_quiet_step (fail)))
              refine wpQuiet_nil ?_
              clear l4 hk1 hk2 hk3 hk4
              have hrd9 := HR9.out.2.2.2.keep HBd.out
              obtain ⟨Ps, hPs, hcell, hPi⟩ := rd_pairs hrd9
              have hPl : Ps.length = P.main.length := by rw [← hPs, List.length_map]
              obtain ⟨ad, had⟩ : ∃ ad : Addr, (if tm = k + 1 then some (⟨sb, 0, none⟩ : Addr) else some ⟨sb, (k + 1) * 7, none⟩) = some ad := by split <;> exact ⟨_, rfl⟩
              have hnews : ∀ j u, ((Ps.drop (k + 1)).flatMap insCells)[j]? = some u → wn.cell? (ad.add j) = some u := by
                intro j u hu
                have h1 := hcell _ _ (flat_dropI (by omega) hu)
                by_cases ht : tm = k + 1
                · have : Ps.drop (k + 1) = [] := List.drop_eq_nil_of_le (by omega)
                  rw [this] at hu
                  simp at hu
                · rw [if_neg ht] at had
                  cases had
                  have e2 : (⟨sb, (k + 1) * 7, none⟩ : Addr).add j = ⟨sb, 0 + ((k + 1) * 7 + j), none⟩ := by simp [Addr.add]
                  rw [e2]; exact h1
              have holds : ∀ j u, ((Ps.take k).flatMap insCells)[j]? = some u → wn.cell? ⟨sb, 0 + j, none⟩ = some u := fun j u hu => hcell _ _ (flat_takeI hu)
              have hone : ∀ u ∈ (Ps.drop (k + 1)).flatMap insCells, u.oneCell' = true := by
                intro u hu
                obtain ⟨p, hp, hu⟩ := List.mem_flatMap.1 hu
                exact ins_one (hPi p (List.mem_of_mem_drop hp)) u hu
              obtain ⟨ii, hin, hzn0, hzn1, hzn2⟩ := info_parts infoInstr
              have hlo : ((Ps.take k).flatMap insCells).length = k * 7 := by rw [flat_length insCells 7 (fun _ => rfl), List.length_take, hPl, Nat.min_eq_left (by omega)]
              have hln : ((Ps.drop (k + 1)).flatMap insCells).length = (P.main.length - (k + 1)) * 7 := by rw [flat_length insCells 7 (fun _ => rfl), List.length_drop, hPl]
              rw [had]
              refine mix_step rfl ?_
              refine wpList_append_arg _ rfl (.tmp 136) (.tmp 141) 25 rfl 43 ii (.agg #[.int .u8 0, .int .u8 0, .string ⟨#[]⟩, .string ⟨#[]⟩, .slice none 0 0, .int .i64 0, .int .i64 0]) 7 80 Tryd.underlying25 hin hzn0 hzn1 hzn2 rfl (by decide) sb 0 k k ((Ps.take k).flatMap insCells) rfl hlo holds ad (P.main.length - (k + 1)) (tm - (k + 1)) ((Ps.drop (k + 1)).flatMap insCells) rfl hln hnews hone (fun hroom j hj => by rw [hln] at hj; omega) (by unfold maxLen; omega) (by omega) ?_ ?_
              · intro hroom
                have hk1 : k + 1 = P.main.length := by omega
                have hn0 : (Ps.drop (k + 1)).flatMap insCells = [] := List.eq_nil_of_length_eq_zero (by rw [hln]; omega)
                rw [hn0, show P.main.length - (k + 1) = 0 by omega, Nat.add_zero]
                change wpList _ _ _ _ _ wn
                have hbx9 : Below W9.heap.size W9 wn := HBd.out
                have hRx := rd_front hrd9 rfl hk1
                have hqx := (hbx9.block rb (Array.getElem?_eq_some_iff.1 HG9.out).1).trans HG9.out
                have p4 := row_of hqx 4 (.slice (some ⟨sb, 0, none⟩) P.main.length tm) rfl
                have f4 := frozen_of_row wn rb 4 _ _ hqx
                have hq13 : (wn.setCell ⟨rb, 4, none⟩ (.slice (some ⟨sb, 0, none⟩) k k)).heap[rb]? = some (.cells #[.int .i64 P.width, .slice sc P.chans.length tc, .slice sa P.arrays.length ta, .slice sf P.funcs.length tf, .slice (some ⟨sb, 0, none⟩) k k] 27 (0, 0)) := heap_setCell_same _ _ 4 _ _ _ hqx
                have hrp := prog_only (wd := P.width) (Only.set hqx 4 (.slice (some ⟨sb, 0, none⟩) k k)) (by decide) (by decide) (by decide) (by decide) (by decide) (HR9.out.1.keep hbx9) (HR9.out.2.1.keep hbx9) (HR9.out.2.2.1.keep hbx9) hRx H5.out
                have hb13 : Below w7.heap.size w7 (wn.setCell ⟨rb, 4, none⟩ (.slice (some ⟨sb, 0, none⟩) k k)) := (bcomp HB9.out hbx9).setCell hrb _
                refine ⟨fun h => absurd h (by decide), ?_⟩
                have HX2 := Lib.hid hrp
                have HX3 := Lib.hid hb13
                have HX4 := Lib.hid hq13
                clear hRx hbx9 hqx hb13 hq13 hrp hnews holds hone hcell hPi hrd9 had
                refine mix_tail [11, 12] [_, _] _ _ rfl rfl ?_
                go_upto_region 26 with fail
                generalize wn.setCell ⟨rb, 4, none⟩ (.slice (some ⟨sb, 0, none⟩) k k) = W11 at *
                have HL11 := Lib.hid (HL7.out.keep HX3.out)
                have C2 := check_any ⟨P.width, P.chans, P.arrays, P.funcs, P.main.take k ++ P.main.drop (k + 1)⟩ _ _ _ _ W11 HX2.out HL11.out
                rw [ok_iff.2 (second_ok HOK.out HY.out HK10.out)] at C2
                have HC2 : Hid (Calls Tryd.prog 13 #[.agg #[.int .i64 P.width, .slice sc P.chans.length tc, .slice sa P.arrays.length ta, .slice sf P.funcs.length tf, .slice (some ⟨sb, 0, none⟩) k k]] W11 fun e w' => e = .returned (.tuple #[.agg #[.int .i64 0, .int .i64 0], .int .i64 0]) ∧ Below W11.heap.size W11 w') := C2
                have p0 := row_of HX4.out 0 (.int .i64 P.width) rfl
                have p1 := row_of HX4.out 1 (.slice sc P.chans.length tc) rfl
                have p2 := row_of HX4.out 2 (.slice sa P.arrays.length ta) rfl
                have p3 := row_of HX4.out 3 (.slice sf P.funcs.length tf) rfl
                have p4 := row_of HX4.out 4 (.slice (some ⟨sb, 0, none⟩) k k) rfl
                clear C2 f4
                go_upto_region 27 with (go_at_call 13; refine HC2.out.mono ?_; rintro e w12 ⟨rfl, hb12⟩)
                have hb14 := bcomp hb12 ((Below.refl w12.heap.size w12).alloc (Nat.le_refl _) (.cells #[.int .i64 0, .int .i64 0] 30))
                generalize w12.alloc (.cells #[.int .i64 0, .int .i64 0] 30) = W13 at *
                have HL13 := Lib.hid (HL11.out.keep hb14)
                clear p0 p1 p2 p3 p4 hb12
                go_wp2_with (go_at_call 16; refine (awake_any _ HL13.out).mono ?_; rintro e wz ⟨rfl, hbz⟩)
                go_ret
                exact ⟨rfl, HB7.out.trans ((bcomp HX3.out (bcomp hb14 hbz)).mono hs7)⟩
              · intro hfull v' w10 hown' hgrow
                have hb10 : Below wn.heap.size wn w10 := (Below.refl _ _).grown hgrow (Nat.le_refl _) (fun j h => by cases h)
                have hb10' : Below W9.heap.size W9 w10 := bcomp HBd.out hb10
                rw [← List.flatMap_append] at hown'
                have hri := own_instrs (P := Ps.take k ++ Ps.drop (k + 1)) (l := P.main.take k ++ P.main.drop (k + 1)) (v := v') (w := w10) (base := w7.heap.size) (by rw [List.map_append, List.map_take, List.map_drop, hPs]) (by
                  have hl2 : (P.main.take k ++ P.main.drop (k + 1)).length = k + (P.main.length - (k + 1)) := by rw [List.length_append, List.length_take, List.length_drop]; omega
                  rw [hl2]; exact own_same hown' (Nat.le_trans HB9.out.size HBd.out.size) (fun _ _ _ => rfl)) (by rw [List.length_append, List.length_take, List.length_drop]; omega) (fun p hp => by
                  have h1 : p ∈ Ps := by
                    rcases List.mem_append.1 hp with h | h
                    · exact List.mem_of_mem_take h
                    · exact List.mem_of_mem_drop h
                  exact RdInstr.same ((hPi p h1).keep hb10) (fun _ _ _ => rfl) (fun b _ hb => Nat.le_trans HM2.out hb))
                obtain ⟨a9', c9', rfl, -⟩ := own_read hown'
                have hbx9 : Below W9.heap.size W9 w10 := hb10'
                have hRx := hri
                have hqx := (hbx9.block rb (Array.getElem?_eq_some_iff.1 HG9.out).1).trans HG9.out
                have p4 := row_of hqx 4 (.slice (some ⟨sb, 0, none⟩) P.main.length tm) rfl
                have f4 := frozen_of_row (w10) rb 4 _ _ hqx
                have hq13 : ((w10).setCell ⟨rb, 4, none⟩ (.slice a9' (k + (P.main.length - (k + 1))) c9')).heap[rb]? = some (.cells #[.int .i64 P.width, .slice sc P.chans.length tc, .slice sa P.arrays.length ta, .slice sf P.funcs.length tf, .slice a9' (k + (P.main.length - (k + 1))) c9'] 27 (0, 0)) := heap_setCell_same _ _ 4 _ _ _ hqx
                have hrp := prog_only (wd := P.width) (Only.set hqx 4 (.slice a9' (k + (P.main.length - (k + 1))) c9')) (by decide) (by decide) (by decide) (by decide) (by decide) (HR9.out.1.keep hbx9) (HR9.out.2.1.keep hbx9) (HR9.out.2.2.1.keep hbx9) hRx H5.out
                have hb13 : Below w7.heap.size w7 ((w10).setCell ⟨rb, 4, none⟩ (.slice a9' (k + (P.main.length - (k + 1))) c9')) := (bcomp HB9.out hbx9).setCell hrb _
                refine ⟨fun h => absurd h (by decide), ?_⟩
                have HX2 := Lib.hid hrp
                have HX3 := Lib.hid hb13
                have HX4 := Lib.hid hq13
                clear hRx hbx9 hqx hb13 hq13 hrp hnews holds hone hcell hPi hrd9 had
                refine mix_tail [11, 12] [_, _] _ _ rfl rfl ?_
                go_upto_region 26 with fail
                generalize (w10).setCell ⟨rb, 4, none⟩ (.slice a9' (k + (P.main.length - (k + 1))) c9') = W11 at *
                have HL11 := Lib.hid (HL7.out.keep HX3.out)
                have C2 := check_any ⟨P.width, P.chans, P.arrays, P.funcs, P.main.take k ++ P.main.drop (k + 1)⟩ _ _ _ _ W11 HX2.out HL11.out
                rw [ok_iff.2 (second_ok HOK.out HY.out HK10.out)] at C2
                have HC2 : Hid (Calls Tryd.prog 13 #[.agg #[.int .i64 P.width, .slice sc P.chans.length tc, .slice sa P.arrays.length ta, .slice sf P.funcs.length tf, .slice a9' (k + (P.main.length - (k + 1))) c9']] W11 fun e w' => e = .returned (.tuple #[.agg #[.int .i64 0, .int .i64 0], .int .i64 0]) ∧ Below W11.heap.size W11 w') := C2
                have p0 := row_of HX4.out 0 (.int .i64 P.width) rfl
                have p1 := row_of HX4.out 1 (.slice sc P.chans.length tc) rfl
                have p2 := row_of HX4.out 2 (.slice sa P.arrays.length ta) rfl
                have p3 := row_of HX4.out 3 (.slice sf P.funcs.length tf) rfl
                have p4 := row_of HX4.out 4 (.slice a9' (k + (P.main.length - (k + 1))) c9') rfl
                clear C2 f4
                go_upto_region 27 with (go_at_call 13; refine HC2.out.mono ?_; rintro e w12 ⟨rfl, hb12⟩)
                have hb14 := bcomp hb12 ((Below.refl w12.heap.size w12).alloc (Nat.le_refl _) (.cells #[.int .i64 0, .int .i64 0] 30))
                generalize w12.alloc (.cells #[.int .i64 0, .int .i64 0] 30) = W13 at *
                have HL13 := Lib.hid (HL11.out.keep hb14)
                clear p0 p1 p2 p3 p4 hb12
                go_wp2_with (go_at_call 16; refine (awake_any _ HL13.out).mono ?_; rintro e wz ⟨rfl, hbz⟩)
                go_ret
                exact ⟨rfl, HB7.out.trans ((bcomp HX3.out (bcomp hb14 hbz)).mono hs7)⟩
end Go.Proofs.YtjdbdoeopobciaaDoor
