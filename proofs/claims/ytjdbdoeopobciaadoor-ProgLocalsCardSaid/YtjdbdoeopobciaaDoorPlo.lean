/- The walk of ProgLocals. Conditions: the program reads, the tables are laid, the number is an int. -/
import Derived.Test.YtjdbdoeopobciaaDoorPck
import Derived.Test.YtjdbdoeopobciaaDoorRlo
set_option linter.unnecessarySimpa false
set_option linter.unusedVariables false
set_option linter.unusedSimpArgs false
namespace Go.Proofs.YtjdbdoeopobciaaDoor
open Go.ChangeShapes Go.WideShapes Go.ChangeAt Go.RowKit
theorem rd_cells {n : Nat} {w : World} {a : Option Addr} {m c : Nat} {l : List ByteArray} (h : RdStrs (some (upFrom n)) w (.slice a m c) l) : ∀ j, j < l.length → ∃ b o cs, a = some ⟨b, o, none⟩ ∧ n ≤ b ∧ w.heap[b]? = some (.cells cs 9 (0, 0)) ∧ o + j < cs.size := by
  obtain ⟨a', c', e, _, hr⟩ := h
  simp only [Value.slice.injEq] at e
  obtain ⟨rfl, -, -⟩ := e
  intro j hj
  obtain ⟨b, o, rfl, hf, hc, _⟩ := hr j _ (List.getElem?_eq_getElem hj)
  obtain ⟨h1, cs, h2⟩ := hf _ rfl
  refine ⟨b, o, cs, rfl, h1, h2, ?_⟩
  rw [cell_of_row w b (o + j) cs _ (0, 0) h2] at hc
  exact (Array.getElem?_eq_some_iff.1 hc).1
set_option maxRecDepth 100000 in
set_option maxHeartbeats 6400000 in
theorem locals_walk (p : ProgD) (cv av fv mv : Value) (f : Int) (W : World) (h : RdProg none W p cv av fv mv) (hf : InI64 f) (hL : Laid W) :
    Calls Tryd.prog 4 #[progV p cv av fv mv, .int .i64 f] W fun e w' => e = .returned (.bool true) ∧ Below W.heap.size W w' := by
  obtain ⟨hrc, hra, hrf, hrm, hrw⟩ := id h
  obtain ⟨ac0, kc0, rfl, -, -⟩ := id hrc
  obtain ⟨aa0, ka0, rfl, -, -⟩ := id hra
  obtain ⟨af0, kf0, rfl, -, -⟩ := id hrf
  obtain ⟨am0, km0, rfl, -, -⟩ := id hrm
  have H := Lib.hid h
  have HL := Lib.hid hL
  clear h hL hrc hra hrf hrm hrw
  go_enter Tryd.func4, Tryd.ntmps4
  go_upto_region 1 with fail
  have hb0 := (Below.refl W.heap.size W).alloc (Nat.le_refl _) (.cells #[.int .i64 p.width, .slice ac0 p.chans.length kc0, .slice aa0 p.arrays.length ka0, .slice af0 p.funcs.length kf0, .slice am0 p.main.length km0] 27)
  have g0 := heap_alloc_new W (.cells #[.int .i64 p.width, .slice ac0 p.chans.length kc0, .slice aa0 p.arrays.length ka0, .slice af0 p.funcs.length kf0, .slice am0 p.main.length km0] 27)
  generalize W.alloc (.cells #[.int .i64 p.width, .slice ac0 p.chans.length kc0, .slice aa0 p.arrays.length ka0, .slice af0 p.funcs.length kf0, .slice am0 p.main.length km0] 27) = W0 at *
  have G0 := Lib.hid g0
  have HB0 := Lib.hid hb0
  have hs0 : W.heap.size < W0.heap.size := (Array.getElem?_eq_some_iff.1 g0).1
  have l0 := row_of g0 0 _ rfl
  have l1 := row_of g0 1 _ rfl
  have l2 := row_of g0 2 _ rfl
  have l3 := row_of g0 3 _ rfl
  have l4 := row_of g0 4 _ rfl
  clear g0 hb0
  have C := few_prog p _ _ _ _ W0 (H.out.keep HB0.out)
  have HC := Lib.hid C
  clear C
  go_upto_region 2 with (first
    | (go_at_call 11; refine HC.out.mono ?_; rintro e w1 ⟨cv', av', fv', mv', rfl, hr, hb1⟩; obtain ⟨r1, r2, r3, r4, r5⟩ := id hr; obtain ⟨ac, kc, rfl, -⟩ := id r1; obtain ⟨aa, ka, rfl, -⟩ := id r2; obtain ⟨af, kf, rfl, -⟩ := id r3; obtain ⟨am, km, rfl, -⟩ := id r4; clear l0 l1 l2 l3 l4 r1 r2 r3 r4 r5; have hg := (hb1.block W.heap.size hs0).trans G0.out)
    | (refine wpList_store_row rfl 27 (.tmp 2) (.tmp 14) rfl W.heap.size #[.int .i64 (fewP p).width, .slice ac (fewP p).chans.length kc, .slice aa (fewP p).arrays.length ka, .slice af (fewP p).funcs.length kf, .slice am (fewP p).main.length km] rfl rfl 27 #[.int .i64 p.width, .slice ac0 p.chans.length kc0, .slice aa0 p.arrays.length ka0, .slice af0 p.funcs.length kf0, .slice am0 p.main.length km0] ?h2 ?s2 ?s3 ?s4 ?_; exact hg; kernel_rfl; kernel_rfl; kernel_rfl))
  simp only [Act.put]
  have hcl := few_size p
  have hfl : (fewP p).funcs.length ≤ 5 := by simp [fewP]; omega
  generalize fewP p = P at *
  have hrow : ∀ b, b ≠ W.heap.size → (w1.setRow W.heap.size #[.int .i64 P.width, .slice ac P.chans.length kc, .slice aa P.arrays.length ka, .slice af P.funcs.length kf, .slice am P.main.length km]).heap[b]? = w1.heap[b]? := fun b hb => setRow_other _ _ _ _ hb
  have HR : Hid (RdProg none (w1.setRow W.heap.size #[.int .i64 P.width, .slice ac P.chans.length kc, .slice aa P.arrays.length ka, .slice af P.funcs.length kf, .slice am P.main.length km]) P (.slice ac P.chans.length kc) (.slice aa P.arrays.length ka) (.slice af P.funcs.length kf) (.slice am P.main.length km)) := (RdProg.same (g' := upFrom W0.heap.size) hr (fun b hb _ => hrow b (by have : W0.heap.size ≤ b := hb; omega)) (fun _ _ h => h)).forget
  have g2 : (w1.setRow W.heap.size #[.int .i64 P.width, .slice ac P.chans.length kc, .slice aa P.arrays.length ka, .slice af P.funcs.length kf, .slice am P.main.length km]).heap[W.heap.size]? = some (.cells #[.int .i64 P.width, .slice ac P.chans.length kc, .slice aa P.arrays.length ka, .slice af P.funcs.length kf, .slice am P.main.length km] 27 (0, 0)) := setRow_heap _ _ _ _ _ _ hg
  have hb2 : Below W.heap.size W (w1.setRow W.heap.size #[.int .i64 P.width, .slice ac P.chans.length kc, .slice aa P.arrays.length ka, .slice af P.funcs.length kf, .slice am P.main.length km]) := below_row (bcomp HB0.out hb1) (Nat.le_refl _) _
  have HB2 := Lib.hid hb2
  have HCL := Lib.hid hcl
  clear hcl hrow hr hg hb1 hb2 G0 HB0 HC H
  generalize w1.setRow W.heap.size #[.int .i64 P.width, .slice ac P.chans.length kc, .slice aa P.arrays.length ka, .slice af P.funcs.length kf, .slice am P.main.length km] = W2 at *
  have hs2 : W.heap.size < W2.heap.size := (Array.getElem?_eq_some_iff.1 g2).1
  have G2 := Lib.hid g2
  have l0 := row_of g2 0 _ rfl
  have l1 := row_of g2 1 _ rfl
  have l2 := row_of g2 2 _ rfl
  have l3 := row_of g2 3 _ rfl
  have l4 := row_of g2 4 _ rfl
  clear g2
  have HL2 := Lib.hid (HL.out.keep HB2.out)
  have HS : Hid (W.heap.size ≤ W2.heap.size) := HB2.out.size
  clear l0 l1 l2 l3 l4
  go_wp2_with fail
  go_loopw [5, 6, 7, 8, 9, 10, 11, 12] (fun kk _ _ _ _ _ _ _ wr => ∃ K : Nat, K ≤ P.funcs.length + 4 ∧ kk = .int .i64 ((K : Int) - 2) ∧ Below W2.heap.size W2 wr) (fun kk _ _ _ _ _ _ _ _ => P.funcs.length + 4 - (intOf kk + 2).toNat)
  case atStart => exact ⟨0, Nat.zero_le _, rfl, Below.refl _ _⟩
  case round =>
    obtain ⟨wo, rfl⟩ : ∃ x : World, x = wr := ⟨_, rfl⟩
    obtain ⟨K, hK, rfl, hb⟩ := hrel
    have HB := Lib.hid hb
    have G := Lib.hid ((hb.block W.heap.size hs2).trans G2.out)
    have hso := hb.size
    clear hb
    have l3 := row_of G.out 3 _ rfl
    by_cases hlt : K < P.funcs.length + 4
    rotate_left
    · obtain rfl : K = P.funcs.length + 4 := by omega
      have hlt2 : ¬ (((P.funcs.length + 4 : Nat) : Int) - 2 ≤ (P.funcs.length : Int) + 1) := by omega
      have HLX := Lib.hid (HL2.out.keep HB.out)
      go_wp2_with (go_at_call 16; refine (awake_any _ HLX.out).mono ?_; rintro e wz ⟨rfl, hbz⟩)
      go_ret
      exact ⟨rfl, (HB2.out.trans (HB.out.mono HS.out)).trans (hbz.mono (Nat.le_trans HS.out hso))⟩
    have hlt2 : ((K : Int) - 2 ≤ (P.funcs.length : Int) + 1) := by omega
    go_upto_if 28 with fail
    go_cut [6] from 15 to 63 (fun nn wx => ∃ n, nn = .int .i64 n ∧ InI64 n ∧ wx = wo)
    case first =>
      by_cases hgt : (P.funcs.length : Int) < (K : Int) - 2
      · go_wp2_with fail
        go_meet
        exact ⟨f, rfl, hf, rfl⟩
      · go_wp2_with fail
        go_meet
        exact ⟨_, rfl, by unfold InI64; omega, rfl⟩
    case rest =>
      obtain ⟨n, rfl, hn, rfl⟩ := hcut
      have l0 := row_of G.out 0 _ rfl
      have l1 := row_of G.out 1 _ rfl
      have l2 := row_of G.out 2 _ rfl
      have l4 := row_of G.out 4 _ rfl
      have HLC := refLocals P (.slice ac P.chans.length kc) (.slice aa P.arrays.length ka) (.slice af P.funcs.length kf) (.slice am P.main.length km) n wc (HR.out.keep HB.out) HCL.out hn
      have HLP := fun w (h : RdProg none w P (.slice ac P.chans.length kc) (.slice aa P.arrays.length ka) (.slice af P.funcs.length kf) (.slice am P.main.length km)) (h2 : Laid w) => locals_any P _ _ _ _ n w h h2 hn
      generalize (localsF P n).1 = Ls at *
      generalize (localsF P n).2 = E at *
      have HLC := Lib.hid HLC
      have HLP := Lib.hid HLP
      go_upto_region 9 with (go_at_call 17; refine HLC.out.mono ?_; rintro e w1 ⟨wv, rfl, hwr, hb1⟩; obtain ⟨wa, wk, rfl, hwl, -⟩ := id hwr)
      have HWR := Lib.hid hwr.forget
      have HB1 := Lib.hid (bcomp HB.out hb1)
      have hs1 := Nat.le_trans hso hb1.size
      have hls := hwl.1
      clear hwr hb1 hwl l0 l1 l2 l3 l4 HLC
      go_wp2_with fail
      go_loopw [9, 10, 11, 12] (fun aa _ _ _ wr => ∃ A : Nat, A ≤ 2 ∧ aa = .int .i64 A ∧ Below w1.heap.size w1 wr) (fun aa _ _ _ _ => 2 - (intOf aa).toNat)
      case atStart => exact ⟨0, by omega, rfl, Below.refl _ _⟩
      case round =>
        obtain ⟨wb, rfl⟩ : ∃ x : World, x = wr := ⟨_, rfl⟩
        obtain ⟨A, hA, rfl, hb⟩ := hrel
        have HBX := Lib.hid hb
        have HBB := Lib.hid (bcomp HB1.out hb)
        have hsb := Nat.le_trans hs1 hb.size
        have GB := (HBB.out.block W.heap.size hs2).trans G2.out
        have l0 := row_of GB 0 _ rfl
        have l1 := row_of GB 1 _ rfl
        have l2 := row_of GB 2 _ rfl
        have l3 := row_of GB 3 _ rfl
        have l4 := row_of GB 4 _ rfl
        clear hb GB
        by_cases hA2 : A < 2
        rotate_left
        · obtain rfl : A = 2 := by omega
          go_wp2_with fail
          go_roundw
          case rel => exact ⟨K + 1, by omega, by go_num, HBB.out⟩
          case measure => simp [intOf]; omega
        have hA3 : (A : Int) < 2 := by omega
        have HLQ := Lib.hid (HLP.out wb (HR.out.keep HBB.out) (HL2.out.keep HBB.out))
        go_upto_region 13 with (go_at_call 18; refine HLQ.out.mono ?_; rintro e w3 ⟨gv, rfl, hgr, hb3⟩; obtain ⟨ga, gk, rfl, -, -⟩ := id hgr)
        have HEQ := equalStrs _ _ Ls Ls w3 hgr.forget (HWR.out.keep (bcomp HBX.out hb3))
        rw [eqL_refl eqS_refl] at HEQ
        have HEQ := Lib.hid HEQ
        have HGR := Lib.hid hgr
        have HB3 := Lib.hid hb3
        clear hgr hb3 HLQ l0 l1 l2 l3 l4
        go_wp2_with (go_at_call 19; refine HEQ.out.mono ?_; rintro e w4 ⟨rfl, hb4⟩)
        have HGC := Lib.hid (rd_cells (HGR.out.keep hb4))
        have HB4 := Lib.hid (bcomp HB3.out hb4)
        clear hb4 HEQ HGR HB3
        go_loopw [12] (fun ii wr => ∃ i : Nat, i ≤ Ls.length ∧ ii = .int .i64 i ∧ (∀ j, j < Ls.length → ∃ b o cs, ga = some ⟨b, o, none⟩ ∧ wb.heap.size ≤ b ∧ wr.heap[b]? = some (.cells cs 9 (0, 0)) ∧ o + j < cs.size) ∧ Below wb.heap.size wb wr) (fun ii _ => Ls.length - (intOf ii).toNat)
        case atStart => exact ⟨0, Nat.zero_le _, rfl, HGC.out, HB4.out⟩
        case round =>
          obtain ⟨i, hi, rfl, hc, hbr⟩ := hrel
          have HC := Lib.hid hc
          have HBR := Lib.hid hbr
          by_cases hil : i < Ls.length
          · obtain ⟨gb, go', cs, rfl, hge, hbk, hcs⟩ := hc i hil
            have hi2 : (i : Int) < (Ls.length : Int) := by omega
            obtain ⟨u, hu⟩ : ∃ u, cs[go' + i]? = some u := ⟨_, Array.getElem?_eq_getElem hcs⟩
            have c0 := row_of hbk (go' + i) u hu
            have f0 := frozen_of_row wr gb (go' + i) _ _ hbk
            have HBK := Lib.hid hbk
            clear hc hbr hu hbk hcs
            go_wp2_with fail
            go_roundw
            case rel =>
              refine ⟨i + 1, by omega, by go_num, fun j hj => ?_, HBR.out.setCell hge _⟩
              obtain ⟨b', o', cs', e, h1, h2, h3⟩ := HC.out j hj
              simp only [Option.some.injEq, Addr.mk.injEq] at e
              obtain ⟨rfl, rfl, -⟩ := e
              exact ⟨gb, go', _, rfl, h1, heap_setCell_same _ _ (go' + i) _ _ _ h2, by simpa using h3⟩
            case measure => simp [intOf]; omega
          · obtain rfl : i = Ls.length := by omega
            have hi2 : ¬ ((Ls.length : Int) < (Ls.length : Int)) := by omega
            clear hc hbr
            go_wp2_with fail
            go_roundw
            case rel => exact ⟨A + 1, by omega, by go_num, bcomp HBX.out HBR.out⟩
            case measure => simp [intOf]; omega
end Go.Proofs.YtjdbdoeopobciaaDoor
