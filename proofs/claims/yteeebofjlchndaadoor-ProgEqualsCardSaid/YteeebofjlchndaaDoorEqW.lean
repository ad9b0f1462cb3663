/- The walk of ProgEquals. Conditions: both programs read; the tables are as laid. -/
import Derived.Test.YteeebofjlchndaaDoorEqS
import Derived.Test.YteeebofjlchndaaDoorBar
import Derived.Test.YteeebofjlchndaaDoorAwa
import Derived.Test.YteeebofjlchndaaDoorFeP
import Derived.Deep.CutBlock
import Derived.Deep.CutRange
set_option linter.unusedVariables false
set_option linter.unusedSimpArgs false
set_option linter.unnecessarySimpa false
namespace Go.Proofs.YteeebofjlchndaaDoor
open Go.ChangeShapes Go.WideShapes Go.ChangeAt Go.RowKit
/-- A program that lies in memory from block m on. -/
def FewV (m : Nat) (P : ProgD) (v : Value) (w : World) : Prop := ∃ ac akc aa aka af akf am akm, v = .agg #[.int .i64 P.width, .slice ac P.chans.length akc, .slice aa P.arrays.length aka, .slice af P.funcs.length akf, .slice am P.main.length akm] ∧ RdProg (some (upFrom m)) w P (.slice ac P.chans.length akc) (.slice aa P.arrays.length aka) (.slice af P.funcs.length akf) (.slice am P.main.length akm)
theorem FewV.keep {m : Nat} {P : ProgD} {v : Value} {w w' : World} (h : FewV m P v w) (hb : Below w.heap.size w w') : FewV m P v w' := by
  obtain ⟨ac, akc, aa, aka, af, akf, am, akm, e, hr⟩ := h
  exact ⟨ac, akc, aa, aka, af, akf, am, akm, e, hr.keep hb⟩
theorem rdProg_low {m n : Nat} {w : World} {P : ProgD} {cv av fv mv : Value} (h : RdProg (some (upFrom n)) w P cv av fv mv) (hmn : m ≤ n) : RdProg (some (upFrom m)) w P cv av fv mv :=
  RdProg.map (same_hF (fun _ _ _ => rfl) (fun b _ hb => Nat.le_trans hmn hb)) (same_hC (fun _ _ _ => rfl)) trivial trivial trivial trivial trivial h
theorem rdProg_same {g : Nat → Prop} {w w' : World} {P : ProgD} {cv av fv mv : Value} (h : RdProg (some g) w P cv av fv mv) (k : ∀ b, g b → b < w.heap.size → w'.heap[b]? = w.heap[b]?) : RdProg (some g) w' P cv av fv mv :=
  RdProg.map (same_hF k (fun _ _ hb => hb)) (same_hC k) trivial trivial trivial trivial trivial h
theorem fewV_of {m : Nat} {P : ProgD} {cv av fv mv : Value} {w w' : World} (hm : m ≤ w.heap.size) (h : RdProg (some (upFrom w.heap.size)) w' P cv av fv mv) : FewV m P (progV P cv av fv mv) w' := by
  obtain ⟨ac, akc, rfl, -, -⟩ := id h.1; obtain ⟨aa, aka, rfl, -, -⟩ := id h.2.1; obtain ⟨af, akf, rfl, -, -⟩ := id h.2.2.1; obtain ⟨am, akm, rfl, -, -⟩ := id h.2.2.2.1
  exact ⟨ac, akc, aa, aka, af, akf, am, akm, rfl, rdProg_low h hm⟩
set_option maxRecDepth 100000 in
set_option maxHeartbeats 12800000 in
theorem equals_walk (p : ProgD) (cv av fv mv : Value) (q : ProgD) (cv2 av2 fv2 mv2 : Value) (w : World) (h : RdProg none w p cv av fv mv) (h2 : RdProg none w q cv2 av2 fv2 mv2) (hL : Laid w) :
    Calls Tryd.prog 4 #[progV p cv av fv mv, progV q cv2 av2 fv2 mv2] w fun e w' => e = .returned (.bool true) ∧ Below w.heap.size w w' := by
  have AW : ∀ z, Laid z → Hid (Calls Tryd.prog 7 #[] z fun e w' => e = .returned (.bool true) ∧ Below z.heap.size z w') := fun z hz => awake_any z hz
  obtain ⟨xc, xkc, rfl, -, -⟩ := id h.1; obtain ⟨xa, xka, rfl, -, -⟩ := id h.2.1; obtain ⟨xf, xkf, rfl, -, -⟩ := id h.2.2.1; obtain ⟨xm, xkm, rfl, -, -⟩ := id h.2.2.2.1
  obtain ⟨yc, ykc, rfl, -, -⟩ := id h2.1; obtain ⟨ya, yka, rfl, -, -⟩ := id h2.2.1; obtain ⟨yf, ykf, rfl, -, -⟩ := id h2.2.2.1; obtain ⟨ym, ykm, rfl, -, -⟩ := id h2.2.2.2.1
  have H := Lib.hid h
  have H2 := Lib.hid h2
  have HLD := Lib.hid hL
  have hb0 := ((Below.refl w.heap.size w).alloc (Nat.le_refl _) (.cells #[.int .i64 p.width, .slice xc p.chans.length xkc, .slice xa p.arrays.length xka, .slice xf p.funcs.length xkf, .slice xm p.main.length xkm] 27)).alloc (by simp) (.cells #[.int .i64 q.width, .slice yc q.chans.length ykc, .slice ya q.arrays.length yka, .slice yf q.funcs.length ykf, .slice ym q.main.length ykm] 27)
  have hn0 := ((Below.refl _ _).alloc (Nat.le_refl _) (.cells #[.int .i64 q.width, .slice yc q.chans.length ykc, .slice ya q.arrays.length yka, .slice yf q.funcs.length ykf, .slice ym q.main.length ykm] 27) : Below (w.alloc (.cells #[.int .i64 p.width, .slice xc p.chans.length xkc, .slice xa p.arrays.length xka, .slice xf p.funcs.length xkf, .slice xm p.main.length xkm] 27)).heap.size (w.alloc (.cells #[.int .i64 p.width, .slice xc p.chans.length xkc, .slice xa p.arrays.length xka, .slice xf p.funcs.length xkf, .slice xm p.main.length xkm] 27)) ((w.alloc (.cells #[.int .i64 p.width, .slice xc p.chans.length xkc, .slice xa p.arrays.length xka, .slice xf p.funcs.length xkf, .slice xm p.main.length xkm] 27)).alloc (.cells #[.int .i64 q.width, .slice yc q.chans.length ykc, .slice ya q.arrays.length yka, .slice yf q.funcs.length ykf, .slice ym q.main.length ykm] 27))).block w.heap.size (by simp)
  rw [heap_alloc_new w (.cells #[.int .i64 p.width, .slice xc p.chans.length xkc, .slice xa p.arrays.length xka, .slice xf p.funcs.length xkf, .slice xm p.main.length xkm] 27)] at hn0
  have hn1 := heap_alloc_new (w.alloc (.cells #[.int .i64 p.width, .slice xc p.chans.length xkc, .slice xa p.arrays.length xka, .slice xf p.funcs.length xkf, .slice xm p.main.length xkm] 27)) (.cells #[.int .i64 q.width, .slice yc q.chans.length ykc, .slice ya q.arrays.length yka, .slice yf q.funcs.length ykf, .slice ym q.main.length ykm] 27)
  have hsz : (w.alloc (.cells #[.int .i64 p.width, .slice xc p.chans.length xkc, .slice xa p.arrays.length xka, .slice xf p.funcs.length xkf, .slice xm p.main.length xkm] 27)).heap.size = w.heap.size + 1 := by simp
  have hs0 : ((w.alloc (.cells #[.int .i64 p.width, .slice xc p.chans.length xkc, .slice xa p.arrays.length xka, .slice xf p.funcs.length xkf, .slice xm p.main.length xkm] 27)).alloc (.cells #[.int .i64 q.width, .slice yc q.chans.length ykc, .slice ya q.arrays.length yka, .slice yf q.funcs.length ykf, .slice ym q.main.length ykm] 27)).heap.size = w.heap.size + 2 := by simp
  rw [hsz] at hn1
  have HB0 := Lib.hid hb0
  have HN0 := Lib.hid hn0
  have HN1 := Lib.hid hn1
  clear h h2 hL hb0 hn0 hn1 hsz
  go_enter Tryd.func4, Tryd.ntmps4
  go_upto_region 1 with fail
  generalize (w.alloc (.cells #[.int .i64 p.width, .slice xc p.chans.length xkc, .slice xa p.arrays.length xka, .slice xf p.funcs.length xkf, .slice xm p.main.length xkm] 27)).alloc (.cells #[.int .i64 q.width, .slice yc q.chans.length ykc, .slice ya q.arrays.length yka, .slice yf q.funcs.length ykf, .slice ym q.main.length ykm] 27) = W0 at *
  obtain ⟨r, hr⟩ : ∃ r, w.heap.size = r := ⟨_, rfl⟩
  rw [hr] at HN0 HN1 hs0
  try rw [hr]
  have HRR := Lib.hid hr
  have HS0 := Lib.hid hs0
  clear hr hs0
  obtain ⟨P, hP⟩ : ∃ P, fewP p = P := ⟨_, rfl⟩
  obtain ⟨Q, hQ⟩ : ∃ Q, fewP q = Q := ⟨_, rfl⟩
  have HFP : Hid (∀ z, Below W0.heap.size W0 z → Calls Tryd.prog 5 #[progV p (.slice xc p.chans.length xkc) (.slice xa p.arrays.length xka) (.slice xf p.funcs.length xkf) (.slice xm p.main.length xkm)] z fun e w' => ∃ cv' av' fv' mv', e = .returned (progV P cv' av' fv' mv') ∧ RdProg (some (upFrom z.heap.size)) w' P cv' av' fv' mv' ∧ Below z.heap.size z w') := fun z hz => by
    rw [← hP]; exact few_prog p _ _ _ _ z ((H.out.keep HB0.out).keep hz)
  have HFQ : Hid (∀ z, Below W0.heap.size W0 z → Calls Tryd.prog 5 #[progV q (.slice yc q.chans.length ykc) (.slice ya q.arrays.length yka) (.slice yf q.funcs.length ykf) (.slice ym q.main.length ykm)] z fun e w' => ∃ cv' av' fv' mv', e = .returned (progV Q cv' av' fv' mv') ∧ RdProg (some (upFrom z.heap.size)) w' Q cv' av' fv' mv' ∧ Below z.heap.size z w') := fun z hz => by
    rw [← hQ]; exact few_prog q _ _ _ _ z ((H2.out.keep HB0.out).keep hz)
  clear hP hQ
  refine wp_region_own [0, 2] [⟨1, some 15, []⟩, ⟨3, some 17, []⟩] [4, 5] [_, _] (fun j => decide (4 ≤ j))
    (fun j v w lo hi => match j with
      | 1 => FewV W0.heap.size P v w
      | 3 => FewV W0.heap.size Q v w
      | _ => True) (by kernel_rfl) (by kernel_rfl) rfl (by kernel_rfl) rfl rfl (fun _ d _ _ _ h => by cases d <;> exact h) ?_ ?_
  · intro j v w w' lo hi hy hbw
    match j, hy with
    | 1, h => exact FewV.keep h hbw
    | 3, h => exact FewV.keep h hbw
    | 0, _ | 2, _ | (x + 4), _ => trivial
  have l0 := ext_cell (row_of HN0.out 0 _ rfl)
  have m0 := ext_cell (row_of HN1.out 0 _ rfl)
  have l1 := ext_cell (row_of HN0.out 1 _ rfl)
  have m1 := ext_cell (row_of HN1.out 1 _ rfl)
  have l2 := ext_cell (row_of HN0.out 2 _ rfl)
  have m2 := ext_cell (row_of HN1.out 2 _ rfl)
  have l3 := ext_cell (row_of HN0.out 3 _ rfl)
  have m3 := ext_cell (row_of HN1.out 3 _ rfl)
  have l4 := ext_cell (row_of HN0.out 4 _ rfl)
  have m4 := ext_cell (row_of HN1.out 4 _ rfl)
  refine mix_reads (by simp only [opsOf, List.filterMap_cons, List.filterMap_nil, List.getElem?_toArray, List.getElem?_cons_succ, List.getElem?_cons_zero]; rfl) ⟨_, ext_of (Below.refl _ _).drew⟩ ?_
  change wpQuiet _ _ _ _ [_, _] _
  (repeat (go_big_quiet_step (fail)))
  refine wpQuiet_nil ?_
  clear l0 l1 l2 l3 l4 m0 m1 m2 m3 m4
  have HD : Hid (Below W0.heap.size W0 W0.drew) := (Below.refl _ _).drew
  have HDS : Hid (W0.drew.heap.size = W0.heap.size) := rfl
  refine ⟨⟨fun vs wn hb hn => ?_, fun vs wn hb hn => ?_, trivial⟩, fun vs wn hb hy hd => ?_⟩
  · clear hn
    have HBN := Lib.hid (bcomp HD.out hb)
    clear hb
    refine mix_step rfl ?_
    simp only [pv]
    go_wp2_with (go_at_call 5; refine (HFP.out _ HBN.out).mono ?_; rintro e wz ⟨c1, c2, c3, c4, rfl, hr, hz⟩)
    exact ⟨_, rfl, hz, fewV_of HBN.out.size hr⟩
  · clear hn
    have HBN := Lib.hid (bcomp HD.out hb)
    clear hb
    refine mix_step rfl ?_
    simp only [pv]
    go_wp2_with (go_at_call 5; refine (HFQ.out _ HBN.out).mono ?_; rintro e wz ⟨c1, c2, c3, c4, rfl, hr, hz⟩)
    exact ⟨_, rfl, hz, fewV_of HBN.out.size hr⟩
  obtain ⟨y1, -⟩ := hy ⟨1, some 15, []⟩ (by simp)
  obtain ⟨y3, -⟩ := hy ⟨3, some 17, []⟩ (by simp)
  obtain ⟨ac, akc, aa, aka, af, akf, am, akm, e1, hr1⟩ := (show FewV W0.heap.size P (vs 1).1 wn from y1)
  obtain ⟨bc, bkc, ba, bka, bf, bkf, bm, bkm, e3, hr3⟩ := (show FewV W0.heap.size Q (vs 3).1 wn from y3)
  have HBN := Lib.hid (bcomp HD.out hb)
  clear hy hd y1 y3 hb HFP HFQ
  simp only [List.map, Maker.pr, pv]
  rw [e1, e3]
  clear e1 e3
  have hx0 := (HBN.out.block r (Array.getElem?_eq_some_iff.1 HN0.out).1).trans HN0.out
  have hx1 := (HBN.out.block (r + 1) (Array.getElem?_eq_some_iff.1 HN1.out).1).trans HN1.out
  have hx2 : (wn.setRow r #[.int .i64 P.width, .slice ac P.chans.length akc, .slice aa P.arrays.length aka, .slice af P.funcs.length akf, .slice am P.main.length akm]).heap[r + 1]? = some (.cells #[.int .i64 q.width, .slice yc q.chans.length ykc, .slice ya q.arrays.length yka, .slice yf q.funcs.length ykf, .slice ym q.main.length ykm] 27 (0, 0)) := (setRow_other _ _ _ _ (by omega)).trans hx1
  simp only [Act.put, List.setIfInBounds_toArray, List.set_cons_succ, List.set_cons_zero, List.getElem_toArray, List.getElem_cons_succ, List.getElem_cons_zero]
  refine wpList_store_row rfl 27 (.tmp 2) (.tmp 15) rfl r #[.int .i64 P.width, .slice ac P.chans.length akc, .slice aa P.arrays.length aka, .slice af P.funcs.length akf, .slice am P.main.length akm] rfl rfl 27 #[.int .i64 p.width, .slice xc p.chans.length xkc, .slice xa p.arrays.length xka, .slice xf p.funcs.length xkf, .slice xm p.main.length xkm] hx0 (by kernel_rfl) (by kernel_rfl) (by kernel_rfl) ?_
  simp only [Act.put, List.setIfInBounds_toArray, List.set_cons_succ, List.set_cons_zero, List.getElem_toArray, List.getElem_cons_succ, List.getElem_cons_zero]
  refine wpList_store_row rfl 27 (.tmp 3) (.tmp 17) rfl (r + 1) #[.int .i64 Q.width, .slice bc Q.chans.length bkc, .slice ba Q.arrays.length bka, .slice bf Q.funcs.length bkf, .slice bm Q.main.length bkm] rfl rfl 27 #[.int .i64 q.width, .slice yc q.chans.length ykc, .slice ya q.arrays.length yka, .slice yf q.funcs.length ykf, .slice ym q.main.length ykm] hx2 (by kernel_rfl) (by kernel_rfl) (by kernel_rfl) ?_
  have hrw : w.heap.size ≤ r := Nat.le_of_eq HRR.out
  have hrw1 : w.heap.size ≤ r + 1 := by omega
  have HB1 : Hid (Below w.heap.size w ((wn.setRow r #[.int .i64 P.width, .slice ac P.chans.length akc, .slice aa P.arrays.length aka, .slice af P.funcs.length akf, .slice am P.main.length akm]).setRow (r + 1) #[.int .i64 Q.width, .slice bc Q.chans.length bkc, .slice ba Q.arrays.length bka, .slice bf Q.funcs.length bkf, .slice bm Q.main.length bkm])) := below_row (below_row (HB0.out.trans (HBN.out.mono HB0.out.size)) hrw _) hrw1 _
  have hoth : ∀ b, upFrom W0.heap.size b → b < wn.heap.size → ((wn.setRow r #[.int .i64 P.width, .slice ac P.chans.length akc, .slice aa P.arrays.length aka, .slice af P.funcs.length akf, .slice am P.main.length akm]).setRow (r + 1) #[.int .i64 Q.width, .slice bc Q.chans.length bkc, .slice ba Q.arrays.length bka, .slice bf Q.funcs.length bkf, .slice bm Q.main.length bkm]).heap[b]? = wn.heap[b]? := fun b hb _ => by
    have h1 : W0.heap.size ≤ b := hb
    have := HS0.out
    rw [setRow_other _ _ _ _ (by omega), setRow_other _ _ _ _ (by omega)]
  have HRP : Hid (RdProg none ((wn.setRow r #[.int .i64 P.width, .slice ac P.chans.length akc, .slice aa P.arrays.length aka, .slice af P.funcs.length akf, .slice am P.main.length akm]).setRow (r + 1) #[.int .i64 Q.width, .slice bc Q.chans.length bkc, .slice ba Q.arrays.length bka, .slice bf Q.funcs.length bkf, .slice bm Q.main.length bkm]) P (.slice ac P.chans.length akc) (.slice aa P.arrays.length aka) (.slice af P.funcs.length akf) (.slice am P.main.length akm)) := (rdProg_same hr1 hoth).forget
  have HRQ : Hid (RdProg none ((wn.setRow r #[.int .i64 P.width, .slice ac P.chans.length akc, .slice aa P.arrays.length aka, .slice af P.funcs.length akf, .slice am P.main.length akm]).setRow (r + 1) #[.int .i64 Q.width, .slice bc Q.chans.length bkc, .slice ba Q.arrays.length bka, .slice bf Q.funcs.length bkf, .slice bm Q.main.length bkm]) Q (.slice bc Q.chans.length bkc) (.slice ba Q.arrays.length bka) (.slice bf Q.funcs.length bkf) (.slice bm Q.main.length bkm)) := (rdProg_same hr3 hoth).forget
  have HP1 : Hid (((wn.setRow r #[.int .i64 P.width, .slice ac P.chans.length akc, .slice aa P.arrays.length aka, .slice af P.funcs.length akf, .slice am P.main.length akm]).setRow (r + 1) #[.int .i64 Q.width, .slice bc Q.chans.length bkc, .slice ba Q.arrays.length bka, .slice bf Q.funcs.length bkf, .slice bm Q.main.length bkm]).heap[r]? = some (.cells #[.int .i64 P.width, .slice ac P.chans.length akc, .slice aa P.arrays.length aka, .slice af P.funcs.length akf, .slice am P.main.length akm] 27 (0, 0))) := (setRow_other _ _ _ _ (by omega)).trans (setRow_heap _ _ _ _ _ _ hx0)
  have HQ1 : Hid (((wn.setRow r #[.int .i64 P.width, .slice ac P.chans.length akc, .slice aa P.arrays.length aka, .slice af P.funcs.length akf, .slice am P.main.length akm]).setRow (r + 1) #[.int .i64 Q.width, .slice bc Q.chans.length bkc, .slice ba Q.arrays.length bka, .slice bf Q.funcs.length bkf, .slice bm Q.main.length bkm]).heap[r + 1]? = some (.cells #[.int .i64 Q.width, .slice bc Q.chans.length bkc, .slice ba Q.arrays.length bka, .slice bf Q.funcs.length bkf, .slice bm Q.main.length bkm] 27 (0, 0))) := setRow_heap _ _ _ _ _ _ hx2
  clear hx0 hx1 hx2 hr1 hr3 hoth HN0 HN1 HBN HD HDS hrw hrw1
  generalize (wn.setRow r #[.int .i64 P.width, .slice ac P.chans.length akc, .slice aa P.arrays.length aka, .slice af P.funcs.length akf, .slice am P.main.length akm]).setRow (r + 1) #[.int .i64 Q.width, .slice bc Q.chans.length bkc, .slice ba Q.arrays.length bka, .slice bf Q.funcs.length bkf, .slice bm Q.main.length bkm] = W1 at *
  go_upto_region 2 with fail
  try simp only [Act.put]
  go_cut [33] from 18 to 34 (fun cc wx => cc = .bool false ∧ Below W1.heap.size W1 wx)
  case first =>
    refine wp_region_mix (.one [0, 1, 3, 5] 2 (.one [] 4 (.one [] 6 (.one [] 7 (.one [] 8 (.one [] 9 (.one [10, 11] 12 (.one [] 13 (.one [] 14 (.fin [15])))))))))) (fun _ => false) (by kernel_rfl) (by kernel_rfl) rfl (by kernel_rfl) (fun _ d _ _ _ h => by cases d <;> exact h) ?_
    have D0 : Hid (Below W1.heap.size W1 W1.drew) := (Below.refl _ _).drew
    have l0 := ext_cell (row_of HP1.out 0 _ rfl)
    have m0 := ext_cell (row_of HQ1.out 0 _ rfl)
    have l1 := ext_cell (row_of HP1.out 1 _ rfl)
    have m1 := ext_cell (row_of HQ1.out 1 _ rfl)
    have l2 := ext_cell (row_of HP1.out 2 _ rfl)
    have m2 := ext_cell (row_of HQ1.out 2 _ rfl)
    have l3 := ext_cell (row_of HP1.out 3 _ rfl)
    have m3 := ext_cell (row_of HQ1.out 3 _ rfl)
    have l4 := ext_cell (row_of HP1.out 4 _ rfl)
    have m4 := ext_cell (row_of HQ1.out 4 _ rfl)
    generalize W1.drew = z0 at *
    refine mix_one (by simp only [opsOf, List.filterMap_cons, List.filterMap_nil, List.getElem?_toArray, List.getElem?_cons_succ, List.getElem?_cons_zero]; rfl) ⟨_, ext_of D0.out⟩ ?_
    change wpQuiet _ _ _ _ [_, _, _, _] _
    (repeat (go_big_quiet_step (fail)))
    refine wpQuiet_nil ?_
    have HC := Lib.hid (progEqualN P Q _ _ _ _ _ _ _ _ z0 (HRP.out.keep D0.out) (HRQ.out.keep D0.out))
    refine mix_step rfl ?_
    go_wp2_with (go_at_call 11; refine HC.out.mono ?_; rintro e z1 ⟨rfl, hz⟩)
    have D1 := Lib.hid (bcomp D0.out hz)
    clear hz HC
    (first | refine ⟨fun _ => ⟨_, ext_of D1.out⟩, ?_⟩ | refine ⟨⟨_, ext_of D1.out⟩, ?_⟩)
    have HC := Lib.hid (bare_prog P _ _ _ _ z1 (HRP.out.keep D1.out))
    refine mix_now ?_
    refine mix_step rfl ?_
    go_wp2_with (go_at_call 14; refine HC.out.mono ?_; rintro e z2 ⟨c1, c2, c3, c4, rfl, ⟨hr, -, -⟩, hz⟩; have R1 := Lib.hid hr; clear hr)
    have D2 := Lib.hid (bcomp D1.out hz)
    clear hz HC
    (first | refine ⟨fun _ => ⟨_, ext_of D2.out⟩, ?_⟩ | refine ⟨⟨_, ext_of D2.out⟩, ?_⟩)
    have HC := Lib.hid (bare_prog Q _ _ _ _ z2 (HRQ.out.keep D2.out))
    refine mix_now ?_
    refine mix_step rfl ?_
    go_wp2_with (go_at_call 14; refine HC.out.mono ?_; rintro e z3 ⟨e1, e2, e3, e4, rfl, ⟨hr, -, -⟩, hz⟩; have R2 := Lib.hid hr; clear hr)
    have D3 := Lib.hid (bcomp D2.out hz)
    have R1b := Lib.hid (R1.out.keep hz)
    clear hz HC R1
    (first | refine ⟨fun _ => ⟨_, ext_of D3.out⟩, ?_⟩ | refine ⟨⟨_, ext_of D3.out⟩, ?_⟩)
    have hc := equalProg (bareP P) (bareP Q) _ _ _ _ _ _ _ _ z3 R1b.out.forget R2.out.forget
    rw [eqP_bare] at hc
    have HC := Lib.hid hc
    clear hc
    refine mix_now ?_
    refine mix_step rfl ?_
    go_wp2_with (go_at_call 13; refine HC.out.mono ?_; rintro e z4 ⟨rfl, hz⟩)
    have D4 := Lib.hid (bcomp D3.out hz)
    clear hz HC R1b R2
    (first | refine ⟨fun _ => ⟨_, ext_of D4.out⟩, ?_⟩ | refine ⟨⟨_, ext_of D4.out⟩, ?_⟩)
    refine mix_now ?_
    refine mix_step rfl ?_
    go_wp2_with fail
    (first | refine ⟨fun _ => ⟨_, ext_of D4.out⟩, ?_⟩ | refine ⟨⟨_, ext_of D4.out⟩, ?_⟩)
    refine mix_now ?_
    refine mix_step rfl ?_
    go_wp2_with fail
    (first | refine ⟨fun _ => ⟨_, ext_of D4.out⟩, ?_⟩ | refine ⟨⟨_, ext_of D4.out⟩, ?_⟩)
    refine mix_one (by simp only [opsOf, List.filterMap_cons, List.filterMap_nil, List.getElem?_toArray, List.getElem?_cons_succ, List.getElem?_cons_zero]; rfl) ⟨_, ext_of D4.out⟩ ?_
    change wpQuiet _ _ _ _ [_, _] _
    (repeat (go_big_quiet_step (fail)))
    refine wpQuiet_nil ?_
    clear l0 l1 l2 l3 l4 m0 m1 m2 m3 m4
    have HC := Lib.hid (bare_prog P _ _ _ _ z4 (HRP.out.keep D4.out))
    refine mix_step rfl ?_
    go_wp2_with (go_at_call 14; refine HC.out.mono ?_; rintro e z5 ⟨c1, c2, c3, c4, rfl, ⟨hr, -, -⟩, hz⟩; have R1 := Lib.hid hr; clear hr)
    have D5 := Lib.hid (bcomp D4.out hz)
    clear hz HC
    (first | refine ⟨fun _ => ⟨_, ext_of D5.out⟩, ?_⟩ | refine ⟨⟨_, ext_of D5.out⟩, ?_⟩)
    have hc := progEqualN P (bareP P) _ _ _ _ _ _ _ _ z5 (HRP.out.keep D5.out) R1.out.forget
    rw [eqN_bare] at hc
    have HC := Lib.hid hc
    clear hc
    refine mix_now ?_
    refine mix_step rfl ?_
    go_wp2_with (go_at_call 11; refine HC.out.mono ?_; rintro e z6 ⟨rfl, hz⟩)
    have D6 := Lib.hid (bcomp D5.out hz)
    clear hz HC R1
    (first | refine ⟨fun _ => ⟨_, ext_of D6.out⟩, ?_⟩ | refine ⟨⟨_, ext_of D6.out⟩, ?_⟩)
    refine mix_now ?_
    refine mix_step rfl ?_
    go_wp2_with fail
    (first | refine ⟨fun _ => ⟨_, ext_of D6.out⟩, ?_⟩ | refine ⟨⟨_, ext_of D6.out⟩, ?_⟩)
    refine mix_fin (by simp only [opsOf, List.filterMap_cons, List.filterMap_nil, List.getElem?_toArray, List.getElem?_cons_succ, List.getElem?_cons_zero]; rfl) ⟨_, ext_of D6.out⟩ ?_
    change wpQuiet _ _ _ _ [_] _
    (repeat (go_big_quiet_step (fail)))
    refine wpQuiet_nil ?_
    go_wp2_with fail
    go_meet
    exact ⟨rfl, D6.out⟩
  case rest =>
    obtain ⟨rfl, hz⟩ := hcut
    clear HRQ HQ1
    have HB2 := Lib.hid (bcomp HB1.out hz)
    have HRP2 := Lib.hid (HRP.out.keep hz)
    have HP2 := Lib.hid ((hz.block r (Array.getElem?_eq_some_iff.1 HP1.out).1).trans HP1.out)
    clear hz HRP HP1 HB1 HB0 H H2
    have HCPY := Lib.hid (copyProg P _ _ _ _ wc HRP2.out)
    have p0 := row_of HP2.out 0 _ rfl
    have p1 := row_of HP2.out 1 _ rfl
    have p2 := row_of HP2.out 2 _ rfl
    have p3 := row_of HP2.out 3 _ rfl
    have p4 := row_of HP2.out 4 _ rfl
    go_upto_region 5 with (go_at_call 10; refine HCPY.out.mono ?_; rintro e z5 ⟨c1, c2, c3, c4, m, rfl, h1, h2, h3, h4, -, hz5⟩; obtain ⟨cc, ckc, rfl, -, -⟩ := id h1; obtain ⟨ca, cka, rfl, -, -⟩ := id h2; obtain ⟨cf, ckf, rfl, -, -⟩ := id h3; obtain ⟨cm, ckm, rfl, -, -⟩ := id h4; have HO := Lib.hid (And.intro h1.forget (And.intro h2.forget (And.intro h3.forget (And.intro h4.forget HRP2.out.2.2.2.2)))); have HZ5 := Lib.hid hz5; clear h1 h2 h3 h4 hz5)
    clear p0 p1 p2 p3 p4 HCPY
    have hal := (Below.refl z5.heap.size z5).alloc (Nat.le_refl _) (.cells #[.int .i64 P.width, .slice cc P.chans.length ckc, .slice ca P.arrays.length cka, .slice cf P.funcs.length ckf, .slice cm P.main.length ckm] 27)
    have HOW : Hid (RdProg none (z5.alloc (.cells #[.int .i64 P.width, .slice cc P.chans.length ckc, .slice ca P.arrays.length cka, .slice cf P.funcs.length ckf, .slice cm P.main.length ckm] 27)) P (.slice cc P.chans.length ckc) (.slice ca P.arrays.length cka) (.slice cf P.funcs.length ckf) (.slice cm P.main.length ckm)) := RdProg.keep HO.out hal
    have HN3 := Lib.hid (heap_alloc_new z5 (.cells #[.int .i64 P.width, .slice cc P.chans.length ckc, .slice ca P.arrays.length cka, .slice cf P.funcs.length ckf, .slice cm P.main.length ckm] 27))
    have HB3 := Lib.hid (bcomp HZ5.out hal)
    have hsz3 : (z5.alloc (.cells #[.int .i64 P.width, .slice cc P.chans.length ckc, .slice ca P.arrays.length cka, .slice cf P.funcs.length ckf, .slice cm P.main.length ckm] 27)).heap.size = z5.heap.size + 1 := by simp
    clear hal HO HZ5
    obtain ⟨r5, hr5⟩ : ∃ x, z5.heap.size = x := ⟨_, rfl⟩
    rw [hr5] at HN3 hsz3
    try rw [hr5]
    clear hr5
    generalize z5.alloc (.cells #[.int .i64 P.width, .slice cc P.chans.length ckc, .slice ca P.arrays.length cka, .slice cf P.funcs.length ckf, .slice cm P.main.length ckm] 27) = W3 at *
    have HRP3 := Lib.hid (HRP2.out.keep HB3.out)
    have HP3 := Lib.hid ((HB3.out.block r (Array.getElem?_eq_some_iff.1 HP2.out).1).trans HP2.out)
    have HB03 := Lib.hid (bcomp HB2.out HB3.out)
    clear HRP2 HP2 HB2 HB3
    have HCQ := Lib.hid (copyProgN P _ _ _ _ W3 HOW.out)
    have p0 := row_of HN3.out 0 _ rfl
    have p1 := row_of HN3.out 1 _ rfl
    have p2 := row_of HN3.out 2 _ rfl
    have p3 := row_of HN3.out 3 _ rfl
    have p4 := row_of HN3.out 4 _ rfl
    go_upto_region 6 with (go_at_call 15; refine HCQ.out.mono ?_; rintro e z6 ⟨c1, c2, c3, c4, rfl, hrd, hz6⟩; obtain ⟨dc, dkc, rfl, -, -⟩ := id hrd.1; obtain ⟨da, dka, rfl, -, -⟩ := id hrd.2.1; obtain ⟨df, dkf, rfl, -, -⟩ := id hrd.2.2.1; obtain ⟨dm, dkm, rfl, -, -⟩ := id hrd.2.2.2.1; have HD := Lib.hid hrd; have HZ6 := Lib.hid hz6; clear hrd hz6)
    clear p0 p1 p2 p3 p4 HCQ
    have hal := (Below.refl z6.heap.size z6).alloc (Nat.le_refl _) (.cells #[.int .i64 P.width, .slice dc P.chans.length dkc, .slice da P.arrays.length dka, .slice df P.funcs.length dkf, .slice dm P.main.length dkm] 27)
    have HD4 : Hid (RdProg (some (upFrom W3.heap.size)) (z6.alloc (.cells #[.int .i64 P.width, .slice dc P.chans.length dkc, .slice da P.arrays.length dka, .slice df P.funcs.length dkf, .slice dm P.main.length dkm] 27)) P (.slice dc P.chans.length dkc) (.slice da P.arrays.length dka) (.slice df P.funcs.length dkf) (.slice dm P.main.length dkm)) := HD.out.keep hal
    have HN4 := Lib.hid (heap_alloc_new z6 (.cells #[.int .i64 P.width, .slice dc P.chans.length dkc, .slice da P.arrays.length dka, .slice df P.funcs.length dkf, .slice dm P.main.length dkm] 27))
    have HB34 := Lib.hid (bcomp HZ6.out hal)
    clear hal HD HZ6
    obtain ⟨r6, hr6⟩ : ∃ x, z6.heap.size = x := ⟨_, rfl⟩
    rw [hr6] at HN4
    try rw [hr6]
    clear hr6
    generalize z6.alloc (.cells #[.int .i64 P.width, .slice dc P.chans.length dkc, .slice da P.arrays.length dka, .slice df P.funcs.length dkf, .slice dm P.main.length dkm] 27) = W4 at *
    have HRP4 := Lib.hid (HRP3.out.keep HB34.out)
    have HP4 := Lib.hid ((HB34.out.block r (Array.getElem?_eq_some_iff.1 HP3.out).1).trans HP3.out)
    have hc := equalProg P P _ _ _ _ _ _ _ _ W4 HD4.out.forget HRP4.out
    rw [selfP] at hc
    have HC := Lib.hid hc
    clear hc
    have l0 := row_of HN4.out 0 _ rfl
    have l1 := row_of HN4.out 1 _ rfl
    have l2 := row_of HN4.out 2 _ rfl
    have l3 := row_of HN4.out 3 _ rfl
    have l4 := row_of HN4.out 4 _ rfl
    have p0 := row_of HP4.out 0 _ rfl
    have p1 := row_of HP4.out 1 _ rfl
    have p2 := row_of HP4.out 2 _ rfl
    have p3 := row_of HP4.out 3 _ rfl
    have p4 := row_of HP4.out 4 _ rfl
    go_upto_region 8 with (go_at_call 13; refine HC.out.mono ?_; rintro e z7 ⟨rfl, hz⟩; have HZ7 := Lib.hid hz; clear hz)
    clear p0 p1 p2 p3 p4 l0 l1 l2 l3 l4 HC
    have HCI : Hid (CI W3.heap.size r6 P.width (.slice dc P.chans.length dkc) (.slice da P.arrays.length dka) (.slice df P.funcs.length dkf) (.slice dm P.main.length dkm) W3 z7) := ⟨⟨P, rfl, HD4.out.keep HZ7.out⟩, (HZ7.out.block r6 (Array.getElem?_eq_some_iff.1 HN4.out).1).trans HN4.out, bcomp HB34.out HZ7.out⟩
    clear HD4 HN4 HB34 HRP4 HP4 HZ7
    go_upto_region 9 with fail
    go_loopw [7] (fun iv wr => ∃ i : Nat, i ≤ P.chans.length ∧ iv = .int .i64 i ∧ CI W3.heap.size r6 P.width (.slice dc P.chans.length dkc) (.slice da P.arrays.length dka) (.slice df P.funcs.length dkf) (.slice dm P.main.length dkm) W3 wr) (fun iv _ => P.chans.length - (intOf iv).toNat)
    case atStart => exact ⟨0, Nat.zero_le _, rfl, HCI.out⟩
    case round =>
    obtain ⟨i, hi, rfl, hci⟩ := hrel
    obtain ⟨z8, rfl⟩ : ∃ x : World, x = wr := ⟨_, rfl⟩
    have HCI := Lib.hid hci
    have l1 := row_of hci.box 1 _ rfl
    clear hci
    by_cases hlt : i < P.chans.length
    · have hlt1 : (i : Int) < (P.chans.length : Int) := by omega
      obtain ⟨p', -, hp'⟩ := HCI.out.rd
      obtain ⟨_, _, e1, ⟨hsz, -⟩, hr⟩ := hp'.1
      simp only [Value.slice.injEq] at e1
      obtain ⟨rfl, e2, rfl⟩ := e1
      rw [← e2] at hsz
      obtain ⟨x, hx⟩ : ∃ x, p'.chans[i]? = some x := ⟨_, List.getElem?_eq_getElem (by omega)⟩
      obtain ⟨b, o, rfl, hf, c0, -⟩ := hr i x hx
      have f0 := hf.frozen (o + i)
      have HPUT := Lib.hid (HCI.out.put (u' := .string ⟨#[63]⟩) hf (by decide) c0 (.inr (.inl ⟨_, _, rfl, rfl, by decide⟩))).1
      clear hr hp' e2 hx hf
      go_wp2_with fail
      go_roundw
      case rel => exact ⟨i + 1, by omega, by go_num, HPUT.out⟩
      case measure => simp [intOf]; omega
    have hlt1 : ¬ (i : Int) < (P.chans.length : Int) := by omega
    obtain rfl : i = P.chans.length := by omega
    go_upto_region 13 with fail
    clear l1 hlt hi hlt1
    go_loopw [8] (fun iv wr => ∃ i : Nat, i ≤ P.arrays.length ∧ iv = .int .i64 i ∧ CI W3.heap.size r6 P.width (.slice dc P.chans.length dkc) (.slice da P.arrays.length dka) (.slice df P.funcs.length dkf) (.slice dm P.main.length dkm) W3 wr) (fun iv _ => P.arrays.length - (intOf iv).toNat)
    case atStart => exact ⟨0, Nat.zero_le _, rfl, HCI.out⟩
    case round =>
    obtain ⟨i, hi, rfl, hci⟩ := hrel
    obtain ⟨z9, rfl⟩ : ∃ x : World, x = wr := ⟨_, rfl⟩
    have HCI := Lib.hid hci
    have l2 := row_of hci.box 2 _ rfl
    clear hci
    by_cases hlt : i < P.arrays.length
    · have hlt1 : (i : Int) < (P.arrays.length : Int) := by omega
      obtain ⟨p', -, hp'⟩ := HCI.out.rd
      obtain ⟨_, _, e1, ⟨hsz, -⟩, hr⟩ := hp'.2.1
      simp only [Value.slice.injEq] at e1
      obtain ⟨rfl, e2, rfl⟩ := e1
      rw [← e2] at hsz
      obtain ⟨x, hx⟩ : ∃ x, p'.arrays[i]? = some x := ⟨_, List.getElem?_eq_getElem (by omega)⟩
      obtain ⟨b, o, rfl, hf, -, c1, hi64, -⟩ := hr i x hx
      have f1 := hf.frozen (o + i * 2 + 1)
      have HPUT : Hid (∀ n', InI64 n' → CI W3.heap.size r6 P.width _ _ _ _ W3 (z9.setCell ⟨b, o + i * 2 + 1, none⟩ (.int .i64 n'))) := fun n' hn' => (HCI.out.put hf (by decide) c1 (.inr (.inr (.inr (.inr ⟨_, _, rfl, rfl, hn'⟩))))).1
      clear hr hp' e2 hx hf
      go_wp2_with fail
      go_roundw
      case rel => exact ⟨i + 1, by omega, by go_num, HPUT.out _ (by unfold InI64 wrap64; omega)⟩
      case measure => simp [intOf]; omega
    have hlt1 : ¬ (i : Int) < (P.arrays.length : Int) := by omega
    obtain rfl : i = P.arrays.length := by omega
    go_upto_region 17 with fail
    clear l2 hlt hi hlt1
    have HFSZ : Hid (P.funcs.length * 80 ≤ 140737488351232) := by
      obtain ⟨p', -, hp'⟩ := HCI.out.rd
      obtain ⟨_, _, e1, ⟨hsz, -⟩, -⟩ := hp'.2.2.1
      simp only [Value.slice.injEq] at e1
      show P.funcs.length * 80 ≤ _
      rw [e1.2.1]
      exact hsz
    go_loopw [9, 10, 11, 12, 13] (fun iv _ _ _ _ wr => ∃ i : Nat, i ≤ P.funcs.length + 1 ∧ iv = .int .i64 i ∧ CI W3.heap.size r6 P.width (.slice dc P.chans.length dkc) (.slice da P.arrays.length dka) (.slice df P.funcs.length dkf) (.slice dm P.main.length dkm) W3 wr) (fun iv _ _ _ _ _ => P.funcs.length + 1 - (intOf iv).toNat)
    case atStart => exact ⟨0, Nat.zero_le _, rfl, HCI.out⟩
    case round =>
    obtain ⟨i, hi, rfl, hci⟩ := hrel
    obtain ⟨z10, rfl⟩ : ∃ x : World, x = wr := ⟨_, rfl⟩
    have HCI := Lib.hid hci
    have l0 := row_of hci.box 0 _ rfl
    have l1 := row_of hci.box 1 _ rfl
    have l2 := row_of hci.box 2 _ rfl
    have l3 := row_of hci.box 3 _ rfl
    have l4 := row_of hci.box 4 _ rfl
    clear hci
    by_cases hlt : i ≤ P.funcs.length
    · have hlt1 : (i : Int) ≤ (P.funcs.length : Int) := by omega
      have hbody : ∃ n : Nat, n * 80 ≤ 140737488351232 ∧ Calls Tryd.prog 16 #[.agg #[.int .i64 P.width, .slice dc P.chans.length dkc, .slice da P.arrays.length dka, .slice df P.funcs.length dkf, .slice dm P.main.length dkm], .int .i64 i] z10 fun e w' => ∃ la lc l', e = .returned (.slice la n lc) ∧ RdInstrs (some (upFrom W3.heap.size)) z10 (.slice la n lc) l' ∧ Below z10.heap.size z10 w' := by
        obtain ⟨p', hw, hp'⟩ := HCI.out.rd
        obtain ⟨_, _, e1, -, -⟩ := hp'.2.2.1
        simp only [Value.slice.injEq] at e1
        have hB := bodyG _ p' _ _ _ _ i z10 hp' (by omega)
        unfold progV at hB
        rw [hw] at hB
        by_cases hn : (codeAt p' i).length * 80 ≤ 140737488351232
        · refine ⟨(codeAt p' i).length, hn, hB.mono ?_⟩
          rintro e w' ⟨v, rfl, hr, hb⟩
          obtain ⟨la, lc, rfl, -⟩ := id hr
          exact ⟨la, lc, _, rfl, hr, hb⟩
        · refine ⟨0, by omega, hB.mono ?_⟩
          rintro e w' ⟨v, rfl, hr, hb⟩
          obtain ⟨la, lc, rfl, ⟨hz, -⟩, -⟩ := id hr
          exact absurd hz hn
      obtain ⟨ln, hln, hbody⟩ := hbody
      have HBODY := Lib.hid hbody
      clear hbody
      go_upto_region 21 with (go_at_call 16; refine HBODY.out.mono ?_; rintro e z11 ⟨la, lc, l', rfl, hr, hz⟩; have HL11 := Lib.hid (hr.keep hz); have HZ11 := Lib.hid hz; clear hr hz)
      clear l0 l1 l2 l3 l4 HBODY
      have HCI11 := Lib.hid (HCI.out.keep HZ11.out HCI.out.below.size)
      clear HCI HZ11
      go_loopw [11, 12] (fun kv _ wr => ∃ k : Nat, k ≤ ln ∧ kv = .int .i64 k ∧ CI W3.heap.size r6 P.width (.slice dc P.chans.length dkc) (.slice da P.arrays.length dka) (.slice df P.funcs.length dkf) (.slice dm P.main.length dkm) W3 wr ∧ ∃ l', RdInstrs (some (upFrom W3.heap.size)) wr (.slice la ln lc) l') (fun kv _ _ => ln - (intOf kv).toNat)
      case atStart => exact ⟨0, Nat.zero_le _, rfl, HCI11.out, _, HL11.out⟩
      case round =>
      obtain ⟨k, hk, rfl, hci, l2', hl2⟩ := hrel
      obtain ⟨z12, rfl⟩ : ∃ x : World, x = wr := ⟨_, rfl⟩
      have HCI := Lib.hid hci
      have HL12 := Lib.hid hl2
      clear hci hl2 HCI11 HL11
      by_cases hkt : k < ln
      · have hkt1 : (k : Int) < (ln : Int) := by omega
        obtain ⟨_, _, e1, -, hr⟩ := id HL12.out
        simp only [Value.slice.injEq] at e1
        obtain ⟨rfl, e2, rfl⟩ := e1
        obtain ⟨x, hx⟩ : ∃ x, l2'[k]? = some x := ⟨_, List.getElem?_eq_getElem (by omega)⟩
        obtain ⟨b, o, av3, rfl, hf, -, -, -, -, c4, -, -, hri⟩ := hr k x hx
        obtain ⟨xa, xc, rfl, ⟨hxs, -⟩, -⟩ := id hri.1
        obtain ⟨xn, hxn⟩ : ∃ n, x.args.length = n := ⟨_, rfl⟩
        rw [hxn] at c4 hxs
        have HC4 := Lib.hid c4
        have HXS := Lib.hid hxs
        clear hr hx hri e2 hxn hf c4
        go_upto_region 24 with fail
        go_loopw [12] (fun jv wr => ∃ j : Nat, j ≤ xn ∧ jv = .int .i64 j ∧ CI W3.heap.size r6 P.width _ _ _ _ W3 wr ∧ (∃ l', RdInstrs (some (upFrom W3.heap.size)) wr (.slice (some ⟨b, o, none⟩) ln lc) l') ∧ wr.cell? ⟨b, o + k * 7 + 4, none⟩ = some (.slice xa xn xc)) (fun jv _ => xn - (intOf jv).toNat)
        case atStart => exact ⟨0, Nat.zero_le _, rfl, HCI.out, ⟨_, HL12.out⟩, HC4.out⟩
        case round =>
        obtain ⟨j, hj, rfl, hci, ⟨l3', hl3⟩, c4⟩ := hrel
        obtain ⟨z13, rfl⟩ : ∃ x : World, x = wr := ⟨_, rfl⟩
        have HCI13 := Lib.hid hci
        have HL13 := Lib.hid hl3
        have HC13 := Lib.hid c4
        obtain ⟨_, _, e1, -, hr⟩ := id hl3
        simp only [Value.slice.injEq] at e1
        obtain ⟨rfl, e2, rfl⟩ := e1
        obtain ⟨x3, hx3⟩ : ∃ x, l3'[k]? = some x := ⟨_, List.getElem?_eq_getElem (by omega)⟩
        obtain ⟨b', o', av4, e3, hf, c0, -, -, -, d4, -, -, hri⟩ := hr k x3 hx3
        simp only [Option.some.injEq, Addr.mk.injEq, and_true] at e3
        obtain ⟨rfl, rfl⟩ := e3
        rw [c4] at d4
        simp only [Option.some.injEq] at d4
        subst d4
        have HF13 := Lib.hid hf
        have HC0 := Lib.hid c0
        have HRI := Lib.hid hri
        clear hr hx3 hri e2 hf c0 hci hl3
        by_cases hjt : j < xn
        · have hjt1 : (j : Int) < (xn : Int) := by omega
          obtain ⟨_, _, e1, -, hr⟩ := HRI.out.1
          simp only [Value.slice.injEq] at e1
          obtain ⟨rfl, e2, rfl⟩ := e1
          obtain ⟨y, hy⟩ : ∃ y, x3.args[j]? = some y := ⟨_, List.getElem?_eq_getElem (by omega)⟩
          obtain ⟨ab, ao, rfl, hfa, -, a1, hu64, -⟩ := hr j y hy
          have fa := hfa.frozen (ao + j * 2 + 1)
          have HPUT : Hid (∀ n', InU64 n' → CI W3.heap.size r6 P.width _ _ _ _ W3 (z13.setCell ⟨ab, ao + j * 2 + 1, none⟩ (.int .u64 n')) ∧ Soft (upFrom W3.heap.size) z13 (z13.setCell ⟨ab, ao + j * 2 + 1, none⟩ (.int .u64 n'))) := fun n' hn' => HCI13.out.put hfa (by decide) a1 (.inr (.inr (.inr (.inl ⟨_, _, rfl, rfl, hn'⟩))))
          clear hr hy e2 hfa
          go_wp2_with fail
          go_roundw
          case rel =>
            exact ⟨j + 1, by omega, by go_num, (HPUT.out _ (by unfold InU64; rw [IntKind.wrap_u64]; omega)).1, HL13.out.soft (HPUT.out _ (by unfold InU64; rw [IntKind.wrap_u64]; omega)).2, (HPUT.out _ (by unfold InU64; rw [IntKind.wrap_u64]; omega)).2.slice HF13.out HC13.out⟩
          case measure => simp [intOf]; omega
        have hjt1 : ¬ (j : Int) < (xn : Int) := by omega
        obtain rfl : j = xn := by omega
        go_upto_region 27 with fail
        have f0 := HF13.out.frozen (o + k * 7)
        have c0 := HC0.out
        have HPUT : Hid (∀ n', InU8 n' → CI W3.heap.size r6 P.width _ _ _ _ W3 (z13.setCell ⟨b, o + k * 7, none⟩ (.int .u8 n')) ∧ Soft (upFrom W3.heap.size) z13 (z13.setCell ⟨b, o + k * 7, none⟩ (.int .u8 n'))) := fun n' hn' => HCI13.out.put HF13.out (by decide) HC0.out (.inr (.inr (.inl ⟨_, _, rfl, rfl, hn'⟩)))
        clear HRI hjt hj hjt1 HCI HL12 HC4 HC13
        go_wp2_with fail
        go_roundw
        case rel => exact ⟨k + 1, by omega, by go_num, (HPUT.out _ (by unfold InU8; omega)).1, HL13.out.soft (HPUT.out _ (by unfold InU8; omega)).2⟩
        case measure => simp [intOf]; omega
      have hkt1 : ¬ (k : Int) < (ln : Int) := by omega
      obtain rfl : k = ln := by omega
      go_upto_region 28 with fail
      have l3 := row_of HCI.out.box 3 _ rfl
      have hfs0 := HFSZ.out
      by_cases hit : i < P.funcs.length
      · have hit1 : (i : Int) < (P.funcs.length : Int) := by omega
        obtain ⟨p', -, hp'⟩ := HCI.out.rd
        obtain ⟨_, _, e1, -, hr⟩ := hp'.2.2.1
        simp only [Value.slice.injEq] at e1
        obtain ⟨rfl, e2, rfl⟩ := e1
        obtain ⟨x, hx⟩ : ∃ x, p'.funcs[i]? = some x := ⟨_, List.getElem?_eq_getElem (by omega)⟩
        obtain ⟨b, o, pv3, cv3, rfl, hf, c0, c1, -, -, -, hrf⟩ := hr i x hx
        obtain ⟨xa, xc, rfl, ⟨hxs, -⟩, -⟩ := id hrf.1
        obtain ⟨xn, hxn⟩ : ∃ n, x.params.length = n := ⟨_, rfl⟩
        rw [hxn] at c1 hxs
        have HC1 := Lib.hid c1
        have HXS := Lib.hid hxs
        clear hr hx hrf e2 hxn hf c1 c0 hp'
        go_upto_region 30 with fail
        clear l3
        go_loopw [13] (fun jv wr => ∃ j : Nat, j ≤ xn ∧ jv = .int .i64 j ∧ CI W3.heap.size r6 P.width _ _ _ _ W3 wr ∧ wr.cell? ⟨b, o + i * 5 + 1, none⟩ = some (.slice xa xn xc)) (fun jv _ => xn - (intOf jv).toNat)
        case atStart => exact ⟨0, Nat.zero_le _, rfl, HCI.out, HC1.out⟩
        case round =>
        obtain ⟨j, hj, rfl, hci, c1⟩ := hrel
        obtain ⟨z13, rfl⟩ : ∃ x : World, x = wr := ⟨_, rfl⟩
        have HCI13 := Lib.hid hci
        have HC13 := Lib.hid c1
        have l3 := row_of hci.box 3 _ rfl
        obtain ⟨p', -, hp'⟩ := id hci.rd
        obtain ⟨_, _, e1, -, hr⟩ := hp'.2.2.1
        simp only [Value.slice.injEq] at e1
        obtain ⟨rfl, e2, rfl⟩ := e1
        obtain ⟨x, hx⟩ : ∃ x, p'.funcs[i]? = some x := ⟨_, List.getElem?_eq_getElem (by omega)⟩
        obtain ⟨b', o', pv3, cv3, e3, hf, c0, d1, -, -, -, hrf⟩ := hr i x hx
        simp only [Option.some.injEq, Addr.mk.injEq, and_true] at e3
        obtain ⟨rfl, rfl⟩ := e3
        rw [c1] at d1
        simp only [Option.some.injEq] at d1
        subst d1
        have HF13 := Lib.hid hf
        have HC0 := Lib.hid c0
        have HRS := Lib.hid hrf.1
        clear hr hx hrf e2 hf c0 hci hp'
        by_cases hjt : j < xn
        · have hjt1 : (j : Int) < (xn : Int) := by omega
          obtain ⟨_, _, e1, ⟨hxs, -⟩, hr⟩ := HRS.out
          simp only [Value.slice.injEq] at e1
          obtain ⟨rfl, e2, rfl⟩ := e1
          rw [← e2] at hxs
          obtain ⟨y, hy⟩ : ∃ y, x.params[j]? = some y := ⟨_, List.getElem?_eq_getElem (by omega)⟩
          obtain ⟨ab, ao, rfl, hfa, a1, -⟩ := hr j y hy
          have fa := hfa.frozen (ao + j)
          have hput := HCI13.out.put (u' := .string ⟨#[63]⟩) hfa (by decide) a1 (.inr (.inl ⟨_, _, rfl, rfl, by decide⟩))
          have HPUT := Lib.hid hput
          clear hr hy e2 hfa hput
          go_wp2_with fail
          go_roundw
          case rel => exact ⟨j + 1, by omega, by go_num, HPUT.out.1, HPUT.out.2.slice HF13.out HC13.out⟩
          case measure => simp [intOf]; omega
        have hjt1 : ¬ (j : Int) < (xn : Int) := by omega
        obtain rfl : j = xn := by omega
        have f0 := HF13.out.frozen (o + i * 5)
        have c0 := HC0.out
        have hput := HCI13.out.put (u' := .string ⟨#[63]⟩) HF13.out (by decide) HC0.out (.inr (.inl ⟨_, _, rfl, rfl, by decide⟩))
        have HPUT := Lib.hid hput
        clear hput HCI hjt hj hjt1 HC13 HC1 HRS
        go_wp2_with fail
        go_roundw
        case rel => exact ⟨i + 1, by omega, by go_num, HPUT.out.1⟩
        case measure => simp [intOf]; omega
      have hit1 : ¬ (i : Int) < (P.funcs.length : Int) := by omega
      go_wp2_with fail
      go_roundw
      case rel => exact ⟨i + 1, by omega, by go_num, HCI.out⟩
      case measure => simp [intOf]; omega
    have hlt1 : ¬ (i : Int) ≤ (P.funcs.length : Int) := by omega
    have hm := HCI.out.below
    have HBZ := Lib.hid hm
    have HP5 := Lib.hid ((hm.block r (Array.getElem?_eq_some_iff.1 HP3.out).1).trans HP3.out)
    have HN5 := Lib.hid ((hm.block r5 (Array.getElem?_eq_some_iff.1 HN3.out).1).trans HN3.out)
    have hc := equalProg P P _ _ _ _ _ _ _ _ z10 (HOW.out.keep hm) (HRP3.out.keep hm)
    rw [selfP] at hc
    have HC := Lib.hid hc
    have HLF := Lib.hid (HLD.out.keep (bcomp HB03.out hm))
    have HBF := Lib.hid (bcomp HB03.out hm)
    clear hm hc
    have l3 := row_of HCI.out.box 3 _ rfl
    have p0 := row_of HP5.out 0 _ rfl
    have p1 := row_of HP5.out 1 _ rfl
    have p2 := row_of HP5.out 2 _ rfl
    have p3 := row_of HP5.out 3 _ rfl
    have p4 := row_of HP5.out 4 _ rfl
    have m0 := row_of HN5.out 0 _ rfl
    have m1 := row_of HN5.out 1 _ rfl
    have m2 := row_of HN5.out 2 _ rfl
    have m3 := row_of HN5.out 3 _ rfl
    have m4 := row_of HN5.out 4 _ rfl
    go_wp2_with (first | (go_at_call 13; refine HC.out.mono ?_; rintro e z8 ⟨rfl, hz8⟩; have HZ8 := Lib.hid hz8; clear hz8) | (go_at_call 7; refine (AW _ (HLF.out.keep HZ8.out)).out.mono ?_; rintro e z9 ⟨rfl, hz9⟩))
    go_ret
    exact ⟨rfl, bcomp (bcomp HBF.out HZ8.out) hz9⟩
end Go.Proofs.YteeebofjlchndaaDoor
