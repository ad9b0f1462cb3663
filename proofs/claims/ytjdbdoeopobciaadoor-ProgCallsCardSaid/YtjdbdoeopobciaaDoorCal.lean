/- The walk of ProgCalls. Condition: the tables are laid. -/
import Derived.Test.YtjdbdoeopobciaaDoorCalB
import Derived.Test.YtjdbdoeopobciaaDoorOwn
set_option linter.unusedVariables false
set_option linter.unusedSimpArgs false
namespace Go.Proofs.YtjdbdoeopobciaaDoor
open Go.ChangeShapes Go.WideShapes Go.ChangeAt Go.RowKit
set_option maxRecDepth 100000 in
set_option maxHeartbeats 6400000 in
theorem calls_walk (n t : Int) (hn : InI64 n) (ht : InI64 t) (W : World) (hL : Laid W) : Calls Tryd.prog 8 #[.int .i64 n, .int .i64 t] W fun e w' => e = .returned (.bool true) ∧ Below W.heap.size W w' := by
  have HL := Lib.hid hL
  clear hL
  go_enter Tryd.func8, Tryd.ntmps8
  go_upto_region 2 with (go_at_call 24; refine (mod_any _ _ hn (by decide) _).mono ?_; rintro e w1 ⟨r, rfl, hr0, hr1, hb1⟩)
  obtain ⟨N, hN⟩ : ∃ N : Nat, 1 + r = (N : Int) := ⟨(1 + r).toNat, by omega⟩
  rw [hN]
  have hN1 : 1 ≤ N := by omega
  have hN2 : N ≤ 20 := by omega
  clear hN hr0 hr1
  go_upto_region 3 with (go_at_call 24; refine (mod_any _ _ ht (by omega) _).mono ?_; rintro e w2 ⟨r, rfl, hr0, hr1, hb2⟩)
  obtain ⟨q, rfl⟩ : ∃ q : Nat, r = (q : Int) := ⟨r.toNat, by omega⟩
  have hq : q < N := by omega
  have HB2 := Lib.hid (bcomp hb1 hb2)
  clear hr0 hr1 hb1 hb2 hn ht
  go_wp2_with fail
  have hb3 := (Below.refl w2.heap.size w2).alloc (Nat.le_refl _) (.cells #[.int .i64 8, .slice none 0 0, .slice none 0 0, .slice none 0 0, .slice none 0 0] 27)
  have g3 := heap_alloc_new w2 (.cells #[.int .i64 8, .slice none 0 0, .slice none 0 0, .slice none 0 0, .slice none 0 0] 27)
  have HB3 := Lib.hid (bcomp HB2.out hb3)
  have hs2 : W.heap.size ≤ w2.heap.size := HB2.out.size
  generalize w2.alloc (.cells #[.int .i64 8, .slice none 0 0, .slice none 0 0, .slice none 0 0, .slice none 0 0] 27) = W3 at *
  generalize w2.heap.size = B at *
  have hsB : B + 1 ≤ W3.heap.size := (Array.getElem?_eq_some_iff.1 g3).1
  obtain ⟨i0, hi, hz0, hz1, hz2⟩ := info_parts infoFunc
  clear HB2 hb3
  go_loopw [6] (fun i wr => ∃ (k : Nat) (P : List (FuncD × Value × Value)) (a : Option Addr) (c : Nat), k ≤ N ∧ i = .int .i64 k ∧ P.map Prod.fst = (chainL N).take k ∧ wr.ownsRow (B + 1) 52 5 (.slice a k c) k (P.flatMap funCells) ∧ (∀ p ∈ P, RdFunc (some (upFrom (B + 1))) wr p.1 p.2.1 p.2.2) ∧ wr.heap[B]? = some (.cells #[.int .i64 8, .slice none 0 0, .slice none 0 0, .slice a k c, .slice none 0 0] 27 (0, 0)) ∧ B + 1 ≤ wr.heap.size ∧ Below W.heap.size W wr) (fun i _ => N - (intOf i).toNat)
  case atStart => exact ⟨0, [], none, 0, Nat.zero_le _, rfl, rfl, World.ownsRow_nil _ _ _ _, (fun p hp => nomatch hp), g3, hsB, HB3.out⟩
  case round =>
    obtain ⟨k, P, a, c, hk, rfl, hP, hown, hp, hg, hsz, hb⟩ := hrel
    have HP := Lib.hid hP
    have HQ := Lib.hid hp
    have HO := Lib.hid hown
    have HG := Lib.hid hg
    have HB := Lib.hid hb
    clear hP hp hown hg hb g3 HB3
    by_cases hlt : k < N
    ·
      --[[
      go_upto_region 7 with fail
      obtain ⟨wo, rfl⟩ : ∃ x : World, x = wr := ⟨_, rfl⟩
      refine wp_region_own [0, 1, 2, 6, 7] [⟨3, some 28, []⟩, ⟨4, some 29, [(3, some 28)]⟩, ⟨5, some 30, [(4, some 29)]⟩, ⟨8, some 33, []⟩, ⟨9, some 34, [(5, some 30), (8, some 33)]⟩, ⟨10, some 7, []⟩] [11] [_] (fun j => decide (11 ≤ j))
        (fun j v w lo hi => match j with
          | 3 => ∃ g, v = .slice (some ⟨g, 0, none⟩) 1 1 ∧ w.heap[g]? = some (.cells #[.int .u8 (97 + (k : Int))] 5 (0, 0))
          | 4 => v = .string (cByte k)
          | 5 => v = .string (cName k)
          | 8 => v = .agg #[.int .i64 ((k : Int) + 2), .int .i64 1]
          | 9 => v = .agg #[.string (cName k), .slice none 0 0, .slice none 0 0, .int .i64 ((k : Int) + 2), .int .i64 1]
          | 10 => ∃ g, v = .pointer (some ⟨g, 0, none⟩) ∧ lo ≤ g ∧ g < hi ∧ w.heap[g]? = some (.cells #[.string ⟨#[]⟩, .slice none 0 0, .slice none 0 0, .int .i64 0, .int .i64 0] 52 (0, 0))
          | _ => True) (by kernel_rfl) (by kernel_rfl) rfl (by kernel_rfl) rfl rfl (fun _ d _ _ _ h => by cases d <;> exact h) ?_ ?_
      · intro j v w w' lo hi hy hbw
        match j, hy with
        | 3, ⟨g, e, h⟩ => exact ⟨g, e, (hbw.block _ (Array.getElem?_eq_some_iff.1 h).1).trans h⟩
        | 4, h => exact h
        | 5, h => exact h
        | 8, h => exact h
        | 9, h => exact h
        | 10, ⟨g, e, h1, h2, h⟩ => exact ⟨g, e, h1, h2, (hbw.block _ (Array.getElem?_eq_some_iff.1 h).1).trans h⟩
        | 0, _ | 1, _ | 2, _ | 6, _ | 7, _ | (x + 11), _ => trivial
      · refine mix_reads (by simp only [opsOf, List.filterMap_cons, List.filterMap_nil, List.getElem?_toArray, List.getElem?_cons_succ, List.getElem?_cons_zero]; rfl) ⟨_, ext_of (Below.refl _ _).drew⟩ ?_
        change wpQuiet _ _ _ _ [_, _, _, _, _] _
        (repeat (go_big_quiet_step (fail)))
        refine wpQuiet_nil ?_
        refine ⟨⟨fun vs w hb hn => ?_, fun vs w hb hn => ?_, fun vs w hb hn => ?_, fun vs w hb hn => ?_, fun vs w hb hn => ?_, fun vs w hb hn => ?_, trivial⟩, fun vs w hb hy hd => ?_⟩
        ·
          --[[
          clear hn
          refine mix_step rfl ?_
          simp only [pv]
          go_wp2_with fail
          exact ⟨_, rfl, (Below.refl _ _).alloc (Nat.le_refl _) _, w.heap.size, rfl, heap_alloc_new _ _⟩
          --]]
        ·
          --[[
          obtain ⟨g, e3, hg⟩ := hn (3, some 28) (by simp)
          clear hn
          have hcv := conv_one w g k (by omega) hg
          refine mix_step rfl ?_
          simp only [pv]
          rw [e3]
          go_wp2_with fail
          exact ⟨rfl, Below.refl _ _⟩
          --]]
        ·
          --[[
          have e4 := hn (4, some 29) (by simp)
          have e4 : (vs 4).1 = .string (cByte k) := e4
          clear hn
          refine mix_step rfl ?_
          simp only [pv]
          rw [e4]
          have hcn := cByte_name k
          go_wp2_with fail
          exact ⟨rfl, Below.refl _ _⟩
          --]]
        ·
          --[[
          clear hn
          refine mix_step rfl ?_
          simp only [pv]
          go_wp2_with (go_at_call 22; refine (at_any _ _ _).mono ?_; rintro e wn ⟨rfl, hbn⟩)
          first | exact ⟨rfl, hbn⟩ | exact ⟨_, rfl, hbn, rfl⟩
          --]]
        ·
          --[[
          have e5 : (vs 5).1 = .string (cName k) := hn (5, some 30) (by simp)
          have e8 : (vs 8).1 = .agg #[.int .i64 ((k : Int) + 2), .int .i64 1] := hn (8, some 33) (by simp)
          clear hn
          refine mix_step rfl ?_
          simp only [pv]
          rw [e5, e8]
          go_wp2_with fail
          first | exact ⟨rfl, Below.refl _ _⟩ | exact ⟨_, rfl, Below.refl _ _, rfl⟩
          --]]
        ·
          --[[
          clear hn
          refine mix_step rfl ?_
          simp only [pv]
          go_wp2_with fail
          exact ⟨_, rfl, (Below.refl _ _).alloc (Nat.le_refl _) _, w.heap.size, rfl, Nat.le_refl _, by simp, heap_alloc_new _ _⟩
          --]]
        · obtain ⟨e9, -⟩ := hy ⟨9, some 34, [(5, some 30), (8, some 33)]⟩ (by simp)
          obtain ⟨⟨g, e10, hg1, hg2, hg⟩, hl10, -⟩ := hy ⟨10, some 7, []⟩ (by simp)
          have e9 : (vs 9).1 = .agg #[.string (cName k), .slice none 0 0, .slice none 0 0, .int .i64 ((k : Int) + 2), .int .i64 1] := e9
          have e10 : (vs 10).1 = .pointer (some ⟨g, 0, none⟩) := e10
          clear hy hd
          simp only [List.map, Maker.pr, pv]
          rw [e9, e10]
          generalize (vs 3).1 = v3
          generalize (vs 4).1 = v4
          generalize (vs 5).1 = v5
          generalize (vs 8).1 = v8
          have HF := Lib.hid hg
          simp only [Act.put, List.setIfInBounds_toArray, List.set_cons_succ, List.set_cons_zero, List.getElem_toArray, List.getElem_cons_succ, List.getElem_cons_zero]
          refine wpList_store_row rfl 52 (.tmp 7) (.tmp 34) rfl g #[.string (cName k), .slice none 0 0, .slice none 0 0, .int .i64 ((k : Int) + 2), .int .i64 1] rfl rfl 52 #[.string ⟨#[]⟩, .slice none 0 0, .slice none 0 0, .int .i64 0, .int .i64 0] HF.out (by kernel_rfl) (by kernel_rfl) (by kernel_rfl) ?_
          go_upto_region 8 with fail
          have hb7 : Below wo.heap.size wo (w.setRow g #[.string (cName k), .slice none 0 0, .slice none 0 0, .int .i64 ((k : Int) + 2), .int .i64 1]) := below_row ((Below.refl _ _).drew.trans hb) (Nat.le_trans hl10 hg1) _
          have hg7 : (w.setRow g #[.string (cName k), .slice none 0 0, .slice none 0 0, .int .i64 ((k : Int) + 2), .int .i64 1]).heap[g]? = some (.cells #[.string (cName k), .slice none 0 0, .slice none 0 0, .int .i64 ((k : Int) + 2), .int .i64 1] 52 (0, 0)) := setRow_heap _ _ _ _ _ _ hg
          have hwo : wo.heap.size ≤ g := Nat.le_trans hl10 hg1
          generalize w.setRow g #[.string (cName k), .slice none 0 0, .slice none 0 0, .int .i64 ((k : Int) + 2), .int .i64 1] = W7 at *
          have HG7 := Lib.hid hg7
          have HB7 := Lib.hid hb7
          clear hb hg hg1 hg2 hl10 e9 e10 hb7 hg7 HF
          simp only [Act.put]
          go_upto_if 38 with fail
          go_cut [38] from 39 to 50 (fun cc wx => ∃ ca cn cc', RdInstrs (some (upFrom (B + 1))) wx (.slice ca cn cc') (fnD N k).code ∧ wx.heap[g]? = some (.cells #[.string (cName k), .slice none 0 0, .slice ca cn cc', .int .i64 ((k : Int) + 2), .int .i64 1] 52 (0, 0)) ∧ Below wo.heap.size wo wx)
          case first =>
            --[[
            by_cases hl : k + 1 < N
            · have hcode : (fnD N k).code = [callI k] := by simp [fnD, hl]
              have HCO := Lib.hid hcode
              clear hcode
              have hl' : (k : Int) + 1 < (N : Int) := by omega
              go_upto_region 9 with fail
              rw [show decide ((k : Int) + 1 < (N : Int)) = true by simpa using hl']
              refine wp_region_own [0, 1, 2, 6, 7] [⟨3, some 42, []⟩, ⟨4, some 43, [(3, some 42)]⟩, ⟨5, some 44, [(4, some 43)]⟩, ⟨8, some 47, []⟩, ⟨9, some 48, [(5, some 44), (8, some 47)]⟩, ⟨10, some 49, [(9, some 48)]⟩] [11, 12] [_, _] (fun j => decide (11 ≤ j))
                (fun j v w lo hi => match j with
                  | 3 => ∃ g, v = .slice (some ⟨g, 0, none⟩) 1 1 ∧ w.heap[g]? = some (.cells #[.int .u8 (98 + (k : Int))] 5 (0, 0))
                  | 4 => v = .string (cByte (k + 1))
                  | 5 => v = .string (cName (k + 1))
                  | 8 => v = .agg #[.int .i64 (50 + (k : Int)), .int .i64 3]
                  | 9 => v = .agg #[.int .u8 4, .int .u8 0, .string ⟨#[120]⟩, .string (cName (k + 1)), .slice none 0 0, .int .i64 (50 + (k : Int)), .int .i64 3]
                  | 10 => ∃ g, v = .slice (some ⟨g, 0, none⟩) 1 1 ∧ lo ≤ g ∧ w.heap[g]? = some (.cells #[.int .u8 4, .int .u8 0, .string ⟨#[120]⟩, .string (cName (k + 1)), .slice none 0 0, .int .i64 (50 + (k : Int)), .int .i64 3] 43 (0, 0))
                  | _ => True) (by kernel_rfl) (by kernel_rfl) rfl (by kernel_rfl) rfl rfl (fun _ d _ _ _ h => by cases d <;> exact h) ?_ ?_
              · intro j v w w' lo hi hy hbw
                match j, hy with
                | 3, ⟨g, e, h⟩ => exact ⟨g, e, (hbw.block _ (Array.getElem?_eq_some_iff.1 h).1).trans h⟩
                | 4, h => exact h
                | 5, h => exact h
                | 8, h => exact h
                | 9, h => exact h
                | 10, ⟨g, e, h1, h⟩ => exact ⟨g, e, h1, (hbw.block _ (Array.getElem?_eq_some_iff.1 h).1).trans h⟩
                | 0, _ | 1, _ | 2, _ | 6, _ | 7, _ | (x + 11), _ => trivial
              · refine mix_reads (by simp only [opsOf, List.filterMap_cons, List.filterMap_nil, List.getElem?_toArray, List.getElem?_cons_succ, List.getElem?_cons_zero]; rfl) ⟨_, ext_of (Below.refl _ _).drew⟩ ?_
                change wpQuiet _ _ _ _ [_, _, _, _, _] _
                (repeat (go_big_quiet_step (fail)))
                refine wpQuiet_nil ?_
                refine ⟨⟨fun vs w hb hn => ?_, fun vs w hb hn => ?_, fun vs w hb hn => ?_, fun vs w hb hn => ?_, fun vs w hb hn => ?_, fun vs w hb hn => ?_, trivial⟩, fun vs w hb hy hd => ?_⟩
                · clear hn
                  refine mix_step rfl ?_
                  simp only [pv]
                  go_wp2_with fail
                  exact ⟨_, rfl, (Below.refl _ _).alloc (Nat.le_refl _) _, w.heap.size, rfl, heap_alloc_new _ _⟩
                · obtain ⟨g, e3, hg⟩ := hn (3, some 42) (by simp)
                  clear hn
                  have hcv := conv_two w g k (by omega) hg
                  refine mix_step rfl ?_
                  simp only [pv]
                  rw [e3]
                  go_wp2_with fail
                  exact ⟨rfl, Below.refl _ _⟩
                · have e4 : (vs 4).1 = .string (cByte (k + 1)) := hn (4, some 43) (by simp)
                  clear hn
                  refine mix_step rfl ?_
                  simp only [pv]
                  rw [e4]
                  have hcn := cByte_name (k + 1)
                  go_wp2_with fail
                  exact ⟨rfl, Below.refl _ _⟩
                · clear hn
                  refine mix_step rfl ?_
                  simp only [pv]
                  go_wp2_with (go_at_call 22; refine (at_any _ _ _).mono ?_; rintro e wn ⟨rfl, hbn⟩)
                  first | exact ⟨rfl, hbn⟩ | exact ⟨_, rfl, hbn, rfl⟩
                · have e5 : (vs 5).1 = .string (cName (k + 1)) := hn (5, some 44) (by simp)
                  have e8 : (vs 8).1 = .agg #[.int .i64 (50 + (k : Int)), .int .i64 3] := hn (8, some 47) (by simp)
                  clear hn
                  refine mix_step rfl ?_
                  simp only [pv]
                  rw [e5, e8]
                  go_wp2_with fail
                  first | exact ⟨rfl, Below.refl _ _⟩ | exact ⟨_, rfl, Below.refl _ _, rfl⟩
                · have e9 : (vs 9).1 = .agg #[.int .u8 4, .int .u8 0, .string ⟨#[120]⟩, .string (cName (k + 1)), .slice none 0 0, .int .i64 (50 + (k : Int)), .int .i64 3] := hn (9, some 48) (by simp)
                  clear hn
                  refine mix_step rfl ?_
                  simp only [pv]
                  rw [e9]
                  go_wp2_with fail
                  exact ⟨_, rfl, (Below.refl _ _).alloc (Nat.le_refl _) _, w.heap.size, rfl, Nat.le_refl _, heap_alloc_new _ _⟩
                · obtain ⟨⟨gc, e10, hg1, hgc⟩, hl10, -⟩ := hy ⟨10, some 49, [(9, some 48)]⟩ (by simp)
                  have e10 : (vs 10).1 = .slice (some ⟨gc, 0, none⟩) 1 1 := e10
                  clear hy hd
                  simp only [List.map, Maker.pr, pv]
                  rw [e10]
                  generalize (vs 3).1 = v3'
                  generalize (vs 4).1 = v4'
                  generalize (vs 5).1 = v5'
                  generalize (vs 8).1 = v8'
                  generalize (vs 9).1 = v9'
                  have hlt7 : g < W7.heap.size := (Array.getElem?_eq_some_iff.1 HG7.out).1
                  have hbb : Below W7.heap.size W7 w := (Below.refl _ _).drew.trans hb
                  have hg8 := (hbb.block g hlt7).trans HG7.out
                  have c2 := row_of hg8 2 _ rfl
                  have f2 := frozen_of_row w _ 2 _ _ hg8
                  have hgn : W7.heap.size ≤ gc := Nat.le_trans hl10 hg1
                  have HG8 : Hid ((w.setCell ⟨g, 2, none⟩ (.slice (some ⟨gc, 0, none⟩) 1 1)).heap[g]? = some (.cells #[.string (cName k), .slice none 0 0, .slice (some ⟨gc, 0, none⟩) 1 1, .int .i64 ((k : Int) + 2), .int .i64 1] 52 (0, 0))) := heap_setCell_same _ _ 2 _ _ (.slice (some ⟨gc, 0, none⟩) 1 1) hg8
                  have HC8 : Hid ((w.setCell ⟨g, 2, none⟩ (.slice (some ⟨gc, 0, none⟩) 1 1)).heap[gc]? = some (.cells #[.int .u8 4, .int .u8 0, .string ⟨#[120]⟩, .string (cName (k + 1)), .slice none 0 0, .int .i64 (50 + (k : Int)), .int .i64 3] 43 (0, 0))) := by
                    show _ = _
                    rw [heap_setCell_other _ _ _ _ (by simp; omega)]
                    exact hgc
                  have HB8 : Hid (Below wo.heap.size wo (w.setCell ⟨g, 2, none⟩ (.slice (some ⟨gc, 0, none⟩) 1 1))) := (bcomp HB7.out hbb).setCell hwo _
                  have HGB := Lib.hid hgn
                  clear hb hgc hg1 hl10 e10 hbb hg8 hgn hlt7
                  simp only [Act.put, List.setIfInBounds_toArray, List.set_cons_succ, List.set_cons_zero, List.getElem_toArray, List.getElem_cons_succ, List.getElem_cons_zero]
                  go_wp2_with fail
                  go_meet
                  rw [HCO.out]
                  exact ⟨some ⟨gc, 0, none⟩, 1, 1, rdIo (l := [(callI k, .slice none 0 0)]) (by have := HGB.out; have := HB7.out.size; omega) HC8.out (by simp) (fun p hp => by
                    rw [List.mem_singleton] at hp; subst hp
                    exact ok_callI _ _ _ (by omega)), HG8.out, HB8.out⟩
            · have hcode : (fnD N k).code = [] := by simp [fnD, hl]
              have HCO := Lib.hid hcode
              clear hcode
              have hl' : ¬ (k : Int) + 1 < (N : Int) := by omega
              go_wp2_with fail
              go_meet
              rw [HCO.out]
              exact ⟨none, 0, 0, rdInstrs_nil _ _, HG7.out, HB7.out⟩
            --]]
          case rest =>
            obtain ⟨ca, cn, cc', hcode, hgx, hbx⟩ := hcut
            obtain ⟨wx, rfl⟩ : ∃ x : World, x = wc := ⟨_, rfl⟩
            have hgB := (hbx.block B (by omega)).trans HG.out
            have cB := row_of hgB 3 _ rfl
            have fB := frozen_of_row wx _ 3 _ _ hgB
            have HGX := Lib.hid hgx
            have hox := own_below HO.out hbx
            have hsx := hbx.size
            have HX := Lib.hid (And.intro hcode (And.intro hgB hbx))
            clear hcode hgx hgB hbx HG7 HB7
            go_wp2_with (first
              | (refine wpList_load_row rfl 52 (.tmp 7) rfl g rfl 52 #[.string (cName k), .slice none 0 0, .slice ca cn cc', .int .i64 ((k : Int) + 2), .int .i64 1] (0,0) _ ?h Tryd.underlying52 rfl ?s ?_; exact HGX.out; kernel_rfl)
              | (at_builtin; refine wpList_append_own _ rfl (.tmp 52) (.tmp 54) 24 rfl (B + 1) 52 i0 (.agg #[.string ⟨#[]⟩, .slice none 0 0, .slice none 0 0, .int .i64 0, .int .i64 0]) 5 80 Tryd.underlying24 hi hz0 hz1 hz2 rfl (by decide) _ _ _ rfl (hox.alloc _) ⟨wx.heap.size, 0, none⟩ 1 1 (funCells (fnD N k, Value.slice none 0 0, Value.slice ca cn cc')) rfl rfl (many_new _ _ _) ?c2 ?c3 ?c4 ?c5 ?_))
            case c2 => intro u hu; simp [funCells] at hu; rcases hu with rfl | rfl | rfl | rfl | rfl <;> rfl
            case c3 => unfold maxLen; omega
            case c4 => omega
            case c5 => first | omega | (simp; omega)
            · intro v' w2 hown' hgrow _
              obtain ⟨a', c', rfl, -⟩ := own_read hown'
              obtain ⟨hcode, hgB, hbx⟩ := HX.out
              have hal : Below wx.heap.size wx (wx.alloc (.cells (funCells (fnD N k, Value.slice none 0 0, Value.slice ca cn cc')).toArray 52)) := (Below.refl _ _).alloc (Nat.le_refl _) _
              have hoa := hox.alloc (.cells (funCells (fnD N k, Value.slice none 0 0, Value.slice ca cn cc')).toArray 52)
              have hle := own_row_le hox
              have hWB : W.heap.size ≤ B := hs2
              have hgB2 := (hgrow.block B (by simp; omega) (fun e => by have := hle _ e.symm; omega)).trans ((hal.block B (by omega)).trans hgB)
              have cB2 := row_of hgB2 3 _ rfl
              have fB2 := frozen_of_row w2 _ 3 _ _ hgB2
              have hnew : ∀ p ∈ P ++ [(fnD N k, Value.slice none 0 0, Value.slice ca cn cc')], RdFunc (some (upFrom (B + 1))) w2 p.1 p.2.1 p.2.2 := by
                intro p hp
                rcases List.mem_append.1 hp with h | h
                · exact func_grown hoa hgrow (((HQ.out p h).keep hbx).keep hal)
                · rw [List.mem_singleton] at h; subst h
                  exact func_grown hoa hgrow ⟨rdStrs_nil _ _, hcode.keep hal, by simp [fnD, InI64]; omega, by simp [fnD, InI64], cName_size k⟩
              have hbw : Below W.heap.size W w2 := ((HB.out.trans (hbx.mono HB.out.size)).alloc (by have := HB.out.size; omega) _).grown hgrow (by simp; omega) (fun j h => by have := hle j h; omega)
              have hsn : B + 1 ≤ w2.heap.size := (Array.getElem?_eq_some_iff.1 hgB2).1
              rw [show P.flatMap funCells ++ funCells (fnD N k, Value.slice none 0 0, Value.slice ca cn cc') = (P ++ [(fnD N k, Value.slice none 0 0, Value.slice ca cn cc')]).flatMap funCells from by simp] at hown'
              have HR : Hid ((w2.setCell ⟨B, 3, none⟩ (.slice a' (k + 1) c')).ownsRow (B + 1) 52 5 (.slice a' (k + 1) c') (k + 1) ((P ++ [(fnD N k, Value.slice none 0 0, Value.slice ca cn cc')]).flatMap funCells) ∧ (∀ p ∈ P ++ [(fnD N k, Value.slice none 0 0, Value.slice ca cn cc')], RdFunc (some (upFrom (B + 1))) (w2.setCell ⟨B, 3, none⟩ (.slice a' (k + 1) c')) p.1 p.2.1 p.2.2) ∧ (w2.setCell ⟨B, 3, none⟩ (.slice a' (k + 1) c')).heap[B]? = some (.cells #[.int .i64 8, .slice none 0 0, .slice none 0 0, .slice a' (k + 1) c', .slice none 0 0] 27 (0, 0)) ∧ B + 1 ≤ (w2.setCell ⟨B, 3, none⟩ (.slice a' (k + 1) c')).heap.size ∧ Below W.heap.size W (w2.setCell ⟨B, 3, none⟩ (.slice a' (k + 1) c'))) :=
                ⟨own_same hown' (Nat.le_refl _) (fun b hb _ => heap_setCell_other _ _ _ _ (by simp; omega)), fun p hp => RdFunc.same (hnew p hp) (fun b hb _ => heap_setCell_other _ _ _ _ (by have : B + 1 ≤ b := hb; simp; omega)) (fun _ _ h => h), heap_setCell_same _ _ 3 _ _ (.slice a' (k + 1) c') hgB2, by simpa using hsn, hbw.setCell hWB _⟩
              clear hown' hgrow hcode hgB hbx hal hoa hle hgB2 hnew hbw hox HX HGX cB fB
              go_wp2_with fail
              go_roundw
              case rel =>
                obtain ⟨r1, r2, r3, r4, r5⟩ := HR.out
                exact ⟨k + 1, P ++ [(fnD N k, Value.slice none 0 0, Value.slice ca cn cc')], a', c', by omega, by go_num, map_take_snoc _ HP.out (chain_get.2 ⟨hlt, rfl⟩), r1, r2, r3, r4, r5⟩
              case measure => simp [intOf]; omega
      --]]
    · obtain rfl : k = N := by omega
      have hP := HP.out
      rw [List.take_of_length_le (by simp [chainL])] at hP
      have HF : Hid (RdFuncs (some (upFrom (B + 1))) wr (.slice a k c) (chainL k)) := by
        have hlen : (chainL k).length = k := by simp [chainL]
        have := own_funcs (l := chainL k) hP (by rw [hlen]; exact HO.out) (by rw [hlen]; omega) HQ.out
        exact this
      clear HP HQ HO hP hi hz0 hz1 hz2
      have hH : RdProg none wr (chainD k) (.slice none 0 0) (.slice none 0 0) (.slice a k c) (.slice none 0 0) := ⟨rdStrs_nil _ _, rdArrs_nil _ _, HF.out.forget, rdInstrs_nil _ _, by show InI64 8; decide⟩
      have c0 := row_of HG.out 0 _ rfl
      have c1 := row_of HG.out 1 _ rfl
      have c2 := row_of HG.out 2 _ rfl
      have c3 := row_of HG.out 3 _ rfl
      have c4 := row_of HG.out 4 _ rfl
      have elen : (chainL k).length = k := chainL_length k
      have C1 := is_any (chainD k) (.slice none 0 0) (.slice none 0 0) (.slice a k c) (.slice none 0 0) none wr hH (HL.out.keep HB.out) (ck_chain hN2)
      have HC1 := Lib.hid C1
      clear C1 hH
      go_upto_region 13 with (go_at_call 25; refine HC1.out.mono ?_; rintro e w5 ⟨rfl, hb5⟩)
      have HG5 := Lib.hid ((hb5.block B (by omega)).trans HG.out)
      have HF5 := Lib.hid (HF.out.keep hb5)
      have HB5 := Lib.hid (HB.out.trans (hb5.mono HB.out.size))
      clear c0 c1 c2 c3 c4 hb5 HC1 HF HG HB
      obtain ⟨a', c', e', hl', hr'⟩ := id HF5.out
      simp only [Value.slice.injEq] at e'
      obtain ⟨rfl, -, rfl⟩ := e'
      obtain ⟨b5, o5, pv5, cv5, rfl, -, d0, -⟩ := hr' q _ (chain_get.2 ⟨hq, rfl⟩)
      clear hr' hl'
      have d0 : w5.cell? ⟨b5, o5 + q * 5, none⟩ = some (.string (cName q)) := d0
      refine wp_region_own [0, 1, 2, 3, 4, 5] [⟨6, some 67, []⟩, ⟨7, some 68, [(6, some 67)]⟩, ⟨8, some 8, []⟩] [9] [_] (fun j => decide (9 ≤ j))
        (fun j v w lo hi => match j with
          | 6 => v = .agg #[.int .i64 99, .int .i64 1]
          | 7 => v = .agg #[.int .u8 4, .int .u8 0, .string ⟨#[121]⟩, .string (cName q), .slice none 0 0, .int .i64 99, .int .i64 1]
          | 8 => ∃ g, v = .pointer (some ⟨g, 0, none⟩) ∧ lo ≤ g ∧ g < hi ∧ w.heap[g]? = some (.cells #[.int .u8 0, .int .u8 0, .string ⟨#[]⟩, .string ⟨#[]⟩, .slice none 0 0, .int .i64 0, .int .i64 0] 43 (0, 0))
          | _ => True) (by kernel_rfl) (by kernel_rfl) rfl (by kernel_rfl) rfl rfl (fun _ d _ _ _ h => by cases d <;> exact h) ?_ ?_
      · intro j v w w' lo hi hy hbw
        match j, hy with
        | 6, h => exact h
        | 7, h => exact h
        | 8, ⟨g, e, h1, h2, h⟩ => exact ⟨g, e, h1, h2, (hbw.block _ (Array.getElem?_eq_some_iff.1 h).1).trans h⟩
        | 0, _ | 1, _ | 2, _ | 3, _ | 4, _ | 5, _ | (x + 9), _ => trivial
      · have l1 := ext_cell (row_of HG5.out 3 _ rfl)
        have l2 := ext_cell d0
        have hq' : (q : Int) < (k : Int) := by omega
        refine mix_reads (by simp only [opsOf, List.filterMap_cons, List.filterMap_nil, List.getElem?_toArray, List.getElem?_cons_succ, List.getElem?_cons_zero]; rfl) ⟨_, ext_of (Below.refl _ _).drew⟩ ?_
        change wpQuiet _ _ _ _ [_, _, _, _, _, _] _
        (repeat (go_big_quiet_step (fail)))
        refine wpQuiet_nil ?_
        clear l1 l2 d0
        refine ⟨⟨fun vs w hb hn => ?_, fun vs w hb hn => ?_, fun vs w hb hn => ?_, trivial⟩, fun vs w hb hy hd => ?_⟩
        ·
          --[[
          clear hn
          refine mix_step rfl ?_
          simp only [pv]
          go_wp2_with (go_at_call 22; refine (at_any _ _ _).mono ?_; rintro e wn ⟨rfl, hbn⟩)
          first | exact ⟨rfl, hbn⟩ | exact ⟨_, rfl, hbn, rfl⟩
          --]]
        ·
          --[[
          have e6 : (vs 6).1 = .agg #[.int .i64 99, .int .i64 1] := hn (6, some 67) (by simp)
          clear hn
          refine mix_step rfl ?_
          simp only [pv]
          rw [e6]
          go_wp2_with fail
          first | exact ⟨rfl, Below.refl _ _⟩ | exact ⟨_, rfl, Below.refl _ _, rfl⟩
          --]]
        ·
          --[[
          clear hn
          refine mix_step rfl ?_
          simp only [pv]
          go_wp2_with fail
          exact ⟨_, rfl, (Below.refl _ _).alloc (Nat.le_refl _) _, w.heap.size, rfl, Nat.le_refl _, by simp, heap_alloc_new _ _⟩
          --]]
        · obtain ⟨e7, -⟩ := hy ⟨7, some 68, [(6, some 67)]⟩ (by simp)
          obtain ⟨⟨gc, e8, hg1, hg2, hgc⟩, hl8, -⟩ := hy ⟨8, some 8, []⟩ (by simp)
          have e7 : (vs 7).1 = .agg #[.int .u8 4, .int .u8 0, .string ⟨#[121]⟩, .string (cName q), .slice none 0 0, .int .i64 99, .int .i64 1] := e7
          have e8 : (vs 8).1 = .pointer (some ⟨gc, 0, none⟩) := e8
          clear hy hd
          simp only [List.map, Maker.pr, pv]
          rw [e7, e8]
          generalize (vs 6).1 = v6
          simp only [Act.put, List.setIfInBounds_toArray, List.set_cons_succ, List.set_cons_zero, List.getElem_toArray, List.getElem_cons_succ, List.getElem_cons_zero]
          refine wpList_store_row rfl 43 (.tmp 8) (.tmp 68) rfl gc #[.int .u8 4, .int .u8 0, .string ⟨#[121]⟩, .string (cName q), .slice none 0 0, .int .i64 99, .int .i64 1] rfl rfl 43 #[.int .u8 0, .int .u8 0, .string ⟨#[]⟩, .string ⟨#[]⟩, .slice none 0 0, .int .i64 0, .int .i64 0] hgc (by kernel_rfl) (by kernel_rfl) (by kernel_rfl) ?_
          go_upto_region 14 with fail
          have hgw : w5.heap.size ≤ gc := Nat.le_trans hl8 hg1
          have hb7 : Below w5.heap.size w5 (w.setRow gc #[.int .u8 4, .int .u8 0, .string ⟨#[121]⟩, .string (cName q), .slice none 0 0, .int .i64 99, .int .i64 1]) := below_row ((Below.refl _ _).drew.trans hb) hgw _
          have HC7 : Hid ((w.setRow gc #[.int .u8 4, .int .u8 0, .string ⟨#[121]⟩, .string (cName q), .slice none 0 0, .int .i64 99, .int .i64 1]).heap[gc]? = some (.cells #[.int .u8 4, .int .u8 0, .string ⟨#[121]⟩, .string (cName q), .slice none 0 0, .int .i64 99, .int .i64 1] 43 (0, 0))) := setRow_heap _ _ _ _ _ _ hgc
          generalize w.setRow gc #[.int .u8 4, .int .u8 0, .string ⟨#[121]⟩, .string (cName q), .slice none 0 0, .int .i64 99, .int .i64 1] = W7 at *
          have HG7 := Lib.hid ((hb7.block B (by have := (Array.getElem?_eq_some_iff.1 HG5.out).1; omega)).trans HG5.out)
          have HF7 := Lib.hid (HF5.out.keep hb7)
          have HB7 := Lib.hid (HB5.out.trans (hb7.mono HB5.out.size))
          have hWg : W.heap.size ≤ gc := Nat.le_trans HB5.out.size hgw
          clear hb hgc hg1 hg2 hl8 e7 e8 hb7 HG5 HF5 HB5 hgw
          simp only [Act.put]
          have HP7 : Hid (RdProg none W7 (chainD k) (.slice none 0 0) (.slice none 0 0) (.slice (some ⟨b5, o5, none⟩) k c) (.slice none 0 0)) := ⟨rdStrs_nil _ _, rdArrs_nil _ _, HF7.out.forget, rdInstrs_nil _ _, by show InI64 8; decide⟩
          refine wp_region_own [0, 2, 4] [⟨1, some 70, []⟩, ⟨3, some 72, []⟩, ⟨5, some 74, []⟩, ⟨6, some 9, []⟩, ⟨7, some 10, []⟩, ⟨8, some 11, []⟩] [9, 10, 11] [_, _, _] (fun j => decide (9 ≤ j))
            (fun j v w lo hi => match j with
              | 1 => CopyD k v w lo hi
              | 3 => CopyD k v w lo hi
              | 5 => CopyD k v w lo hi
              | 6 => ∃ g, v = .pointer (some ⟨g, 0, none⟩) ∧ lo ≤ g ∧ g < hi ∧ w.heap[g]? = some (.cells #[.int .i64 0, .slice none 0 0, .slice none 0 0, .slice none 0 0, .slice none 0 0] 27 (0, 0))
              | 7 => ∃ g, v = .pointer (some ⟨g, 0, none⟩) ∧ lo ≤ g ∧ g < hi ∧ w.heap[g]? = some (.cells #[.int .i64 0, .slice none 0 0, .slice none 0 0, .slice none 0 0, .slice none 0 0] 27 (0, 0))
              | 8 => ∃ g, v = .pointer (some ⟨g, 0, none⟩) ∧ lo ≤ g ∧ g < hi ∧ w.heap[g]? = some (.cells #[.int .i64 0, .slice none 0 0, .slice none 0 0, .slice none 0 0, .slice none 0 0] 27 (0, 0))
              | _ => True) (by kernel_rfl) (by kernel_rfl) rfl (by kernel_rfl) rfl rfl (fun _ d _ _ _ h => by cases d <;> exact h) ?_ ?_
          · intro j v w w' lo hi hy hbw
            match j, hy with
            | 1, h => exact CopyD.keep h hbw
            | 3, h => exact CopyD.keep h hbw
            | 5, h => exact CopyD.keep h hbw
            | 6, ⟨g, e, h1, h2, h⟩ => exact ⟨g, e, h1, h2, (hbw.block _ (Array.getElem?_eq_some_iff.1 h).1).trans h⟩
            | 7, ⟨g, e, h1, h2, h⟩ => exact ⟨g, e, h1, h2, (hbw.block _ (Array.getElem?_eq_some_iff.1 h).1).trans h⟩
            | 8, ⟨g, e, h1, h2, h⟩ => exact ⟨g, e, h1, h2, (hbw.block _ (Array.getElem?_eq_some_iff.1 h).1).trans h⟩
            | 0, _ | 2, _ | 4, _ | (x + 9), _ => trivial
          · have l0 := ext_cell (row_of HG7.out 0 _ rfl)
            have l1 := ext_cell (row_of HG7.out 1 _ rfl)
            have l2 := ext_cell (row_of HG7.out 2 _ rfl)
            have l3 := ext_cell (row_of HG7.out 3 _ rfl)
            have l4 := ext_cell (row_of HG7.out 4 _ rfl)
            refine mix_reads (by simp only [opsOf, List.filterMap_cons, List.filterMap_nil, List.getElem?_toArray, List.getElem?_cons_succ, List.getElem?_cons_zero]; rfl) ⟨_, ext_of (Below.refl _ _).drew⟩ ?_
            change wpQuiet _ _ _ _ [_, _, _] _
            (repeat (go_big_quiet_step (fail)))
            refine wpQuiet_nil ?_
            clear l0 l1 l2 l3 l4
            refine ⟨⟨fun vs w hb hn => ?_, fun vs w hb hn => ?_, fun vs w hb hn => ?_, fun vs w hb hn => ?_, fun vs w hb hn => ?_, fun vs w hb hn => ?_, trivial⟩, fun vs w hb hy hd => ?_⟩
            ·
              --[[
              clear hn
              have C := Lib.hid (copy_chain k hN1 _ _ _ _ w (HP7.out.keep ((Below.refl _ _).drew.trans hb)))
              refine mix_step rfl ?_
              simp only [pv]
              go_wp2_with (go_at_call 12; refine C.out.mono ?_; rintro e wn ⟨v, rfl, hc, hbn⟩)
              exact ⟨_, rfl, hbn, hc⟩
              --]]
            ·
              --[[
              clear hn
              have C := Lib.hid (copy_chain k hN1 _ _ _ _ w (HP7.out.keep ((Below.refl _ _).drew.trans hb)))
              refine mix_step rfl ?_
              simp only [pv]
              go_wp2_with (go_at_call 12; refine C.out.mono ?_; rintro e wn ⟨v, rfl, hc, hbn⟩)
              exact ⟨_, rfl, hbn, hc⟩
              --]]
            ·
              --[[
              clear hn
              have C := Lib.hid (copy_chain k hN1 _ _ _ _ w (HP7.out.keep ((Below.refl _ _).drew.trans hb)))
              refine mix_step rfl ?_
              simp only [pv]
              go_wp2_with (go_at_call 12; refine C.out.mono ?_; rintro e wn ⟨v, rfl, hc, hbn⟩)
              exact ⟨_, rfl, hbn, hc⟩
              --]]
            ·
              --[[
              clear hn
              refine mix_step rfl ?_
              simp only [pv]
              go_wp2_with fail
              exact ⟨_, rfl, (Below.refl _ _).alloc (Nat.le_refl _) _, w.heap.size, rfl, Nat.le_refl _, by simp, heap_alloc_new _ _⟩
              --]]
            ·
              --[[
              clear hn
              refine mix_step rfl ?_
              simp only [pv]
              go_wp2_with fail
              exact ⟨_, rfl, (Below.refl _ _).alloc (Nat.le_refl _) _, w.heap.size, rfl, Nat.le_refl _, by simp, heap_alloc_new _ _⟩
              --]]
            ·
              --[[
              clear hn
              refine mix_step rfl ?_
              simp only [pv]
              go_wp2_with fail
              exact ⟨_, rfl, (Below.refl _ _).alloc (Nat.le_refl _) _, w.heap.size, rfl, Nat.le_refl _, by simp, heap_alloc_new _ _⟩
              --]]
            · obtain ⟨y1, p1, q1, r1⟩ := hy ⟨1, some 70, []⟩ (by simp)
              obtain ⟨y3, p3, q3, r3⟩ := hy ⟨3, some 72, []⟩ (by simp)
              obtain ⟨y5, p5, q5, r5⟩ := hy ⟨5, some 74, []⟩ (by simp)
              obtain ⟨y6, p6, q6, r6⟩ := hy ⟨6, some 9, []⟩ (by simp)
              obtain ⟨y7, p7, q7, r7⟩ := hy ⟨7, some 10, []⟩ (by simp)
              obtain ⟨y8, p8, q8, r8⟩ := hy ⟨8, some 11, []⟩ (by simp)
              have d13 := hd ⟨1, some 70, []⟩ (by simp) ⟨3, some 72, []⟩ (by simp) (by decide)
              have d15 := hd ⟨1, some 70, []⟩ (by simp) ⟨5, some 74, []⟩ (by simp) (by decide)
              have d16 := hd ⟨1, some 70, []⟩ (by simp) ⟨6, some 9, []⟩ (by simp) (by decide)
              have d17 := hd ⟨1, some 70, []⟩ (by simp) ⟨7, some 10, []⟩ (by simp) (by decide)
              have d18 := hd ⟨1, some 70, []⟩ (by simp) ⟨8, some 11, []⟩ (by simp) (by decide)
              have d36 := hd ⟨3, some 72, []⟩ (by simp) ⟨6, some 9, []⟩ (by simp) (by decide)
              have d37 := hd ⟨3, some 72, []⟩ (by simp) ⟨7, some 10, []⟩ (by simp) (by decide)
              have d38 := hd ⟨3, some 72, []⟩ (by simp) ⟨8, some 11, []⟩ (by simp) (by decide)
              have d56 := hd ⟨5, some 74, []⟩ (by simp) ⟨6, some 9, []⟩ (by simp) (by decide)
              have d57 := hd ⟨5, some 74, []⟩ (by simp) ⟨7, some 10, []⟩ (by simp) (by decide)
              have d58 := hd ⟨5, some 74, []⟩ (by simp) ⟨8, some 11, []⟩ (by simp) (by decide)
              have d67 := hd ⟨6, some 9, []⟩ (by simp) ⟨7, some 10, []⟩ (by simp) (by decide)
              have d68 := hd ⟨6, some 9, []⟩ (by simp) ⟨8, some 11, []⟩ (by simp) (by decide)
              have d78 := hd ⟨7, some 10, []⟩ (by simp) ⟨8, some 11, []⟩ (by simp) (by decide)
              clear hy hd
              simp only [List.map, Maker.pr, pv]
              generalize vs 1 = x1 at *
              obtain ⟨v1, lo1, hi1⟩ := x1
              generalize vs 3 = x3 at *
              obtain ⟨v3, lo3, hi3⟩ := x3
              generalize vs 5 = x5 at *
              obtain ⟨v5, lo5, hi5⟩ := x5
              generalize vs 6 = x6 at *
              obtain ⟨v6, lo6, hi6⟩ := x6
              generalize vs 7 = x7 at *
              obtain ⟨v7, lo7, hi7⟩ := x7
              generalize vs 8 = x8 at *
              obtain ⟨v8, lo8, hi8⟩ := x8
              dsimp only at d13 d15 p1 q1 r1 p3 q3 r3 p5 q5 r5 p6 q6 r6 p7 q7 r7 p8 q8 r8 d16 d17 d18 d36 d37 d38 d56 d57 d58 d67 d68 d78 ⊢
              obtain ⟨ac1, kc1, aa1, ka1, b1, o1, kf1, am1, km1, rfl, hf1, hn1⟩ := y1
              obtain ⟨ac3, kc3, aa3, ka3, b3, o3, kf3, am3, km3, rfl, hf3, hn3⟩ := y3
              obtain ⟨ac5, kc5, aa5, ka5, b5', o5', kf5, am5, km5, rfl, hf5, hn5⟩ := y5
              obtain ⟨g6, rfl, s6, t6, hg6⟩ := y6
              obtain ⟨g7, rfl, s7, t7, hg7⟩ := y7
              obtain ⟨g8, rfl, s8, t8, hg8⟩ := y8
              dsimp only at s6 t6 s7 t7 s8 t8 hf1 hn1 hf3 hn3 hf5 hn5
              simp only [Act.put, List.setIfInBounds_toArray, List.set_cons_succ, List.set_cons_zero, List.getElem_toArray, List.getElem_cons_succ, List.getElem_cons_zero]
              have hga : (w.setRow g6 #[.int .i64 8, .slice ac1 0 kc1, .slice aa1 0 ka1, .slice (some ⟨b1, o1, none⟩) k kf1, .slice am1 0 km1]).heap[g7]? = some (.cells #[.int .i64 0, .slice none 0 0, .slice none 0 0, .slice none 0 0, .slice none 0 0] 27 (0, 0)) := (setRow_other _ _ _ _ (by omega)).trans hg7
              have hgb : ((w.setRow g6 #[.int .i64 8, .slice ac1 0 kc1, .slice aa1 0 ka1, .slice (some ⟨b1, o1, none⟩) k kf1, .slice am1 0 km1]).setRow g7 #[.int .i64 8, .slice ac3 0 kc3, .slice aa3 0 ka3, .slice (some ⟨b3, o3, none⟩) k kf3, .slice am3 0 km3]).heap[g8]? = some (.cells #[.int .i64 0, .slice none 0 0, .slice none 0 0, .slice none 0 0, .slice none 0 0] 27 (0, 0)) := (setRow_other _ _ _ _ (by omega)).trans ((setRow_other _ _ _ _ (by omega)).trans hg8)
              refine wpList_store_row rfl 27 (.tmp 9) (.tmp 70) rfl g6 #[.int .i64 8, .slice ac1 0 kc1, .slice aa1 0 ka1, .slice (some ⟨b1, o1, none⟩) k kf1, .slice am1 0 km1] rfl rfl 27 #[.int .i64 0, .slice none 0 0, .slice none 0 0, .slice none 0 0, .slice none 0 0] hg6 (by kernel_rfl) (by kernel_rfl) (by kernel_rfl) ?_
              refine wpList_store_row rfl 27 (.tmp 10) (.tmp 72) rfl g7 #[.int .i64 8, .slice ac3 0 kc3, .slice aa3 0 ka3, .slice (some ⟨b3, o3, none⟩) k kf3, .slice am3 0 km3] rfl rfl 27 #[.int .i64 0, .slice none 0 0, .slice none 0 0, .slice none 0 0, .slice none 0 0] hga (by kernel_rfl) (by kernel_rfl) (by kernel_rfl) ?_
              refine wpList_store_row rfl 27 (.tmp 11) (.tmp 74) rfl g8 #[.int .i64 8, .slice ac5 0 kc5, .slice aa5 0 ka5, .slice (some ⟨b5', o5', none⟩) k kf5, .slice am5 0 km5] rfl rfl 27 #[.int .i64 0, .slice none 0 0, .slice none 0 0, .slice none 0 0, .slice none 0 0] hgb (by kernel_rfl) (by kernel_rfl) (by kernel_rfl) ?_
              go_upto_region 15 with fail
              obtain ⟨K, hK⟩ : ∃ K, k = K + 1 := ⟨k - 1, by omega⟩
              have hK1 : k - 1 = K := by omega
              rw [hK1] at hn1 hn3 hn5
              have hszw : W7.heap.size ≤ w.heap.size := hb.size
              have hW7s : W.heap.size ≤ W7.heap.size := HB7.out.size
              have hs7 : W7.drew.heap.size = W7.heap.size := rfl
              have hgc7 : gc < W7.heap.size := (Array.getElem?_eq_some_iff.1 HC7.out).1
              have hb7 : Below W7.heap.size W7 w := (Below.refl _ _).drew.trans hb
              rw [hs7] at p1 p3 p5 p6 p7 p8
              obtain ⟨hb1l, hb1h⟩ : lo1 ≤ b1 ∧ b1 < hi1 := rdFuncs_block hf1 (chain_get.2 ⟨hq, rfl⟩)
              have hrow : ∀ b, b ≠ g6 → b ≠ g7 → b ≠ g8 → (((w.setRow g6 #[.int .i64 8, .slice ac1 0 kc1, .slice aa1 0 ka1, .slice (some ⟨b1, o1, none⟩) k kf1, .slice am1 0 km1]).setRow g7 #[.int .i64 8, .slice ac3 0 kc3, .slice aa3 0 ka3, .slice (some ⟨b3, o3, none⟩) k kf3, .slice am3 0 km3]).setRow g8 #[.int .i64 8, .slice ac5 0 kc5, .slice aa5 0 ka5, .slice (some ⟨b5', o5', none⟩) k kf5, .slice am5 0 km5]).heap[b]? = w.heap[b]? := fun b h6 h7 h8 => by
                rw [setRow_other _ _ _ _ h8, setRow_other _ _ _ _ h7, setRow_other _ _ _ _ h6]
              have H1 := Lib.hid (RdFuncs.same (g' := within lo1 hi1) hf1 (w' := (((w.setRow g6 #[.int .i64 8, .slice ac1 0 kc1, .slice aa1 0 ka1, .slice (some ⟨b1, o1, none⟩) k kf1, .slice am1 0 km1]).setRow g7 #[.int .i64 8, .slice ac3 0 kc3, .slice aa3 0 ka3, .slice (some ⟨b3, o3, none⟩) k kf3, .slice am3 0 km3]).setRow g8 #[.int .i64 8, .slice ac5 0 kc5, .slice aa5 0 ka5, .slice (some ⟨b5', o5', none⟩) k kf5, .slice am5 0 km5])) (fun b hb _ => by obtain ⟨u, v⟩ := hb; exact hrow b (by omega) (by omega) (by omega)) (fun _ _ h => h))
              have H3 := Lib.hid (RdFuncs.same (g' := within lo3 hi3) hf3 (w' := (((w.setRow g6 #[.int .i64 8, .slice ac1 0 kc1, .slice aa1 0 ka1, .slice (some ⟨b1, o1, none⟩) k kf1, .slice am1 0 km1]).setRow g7 #[.int .i64 8, .slice ac3 0 kc3, .slice aa3 0 ka3, .slice (some ⟨b3, o3, none⟩) k kf3, .slice am3 0 km3]).setRow g8 #[.int .i64 8, .slice ac5 0 kc5, .slice aa5 0 ka5, .slice (some ⟨b5', o5', none⟩) k kf5, .slice am5 0 km5])) (fun b hb _ => by obtain ⟨u, v⟩ := hb; exact hrow b (by omega) (by omega) (by omega)) (fun _ _ h => h))
              have H5 := Lib.hid (RdFuncs.same (g' := within lo5 hi5) hf5 (w' := (((w.setRow g6 #[.int .i64 8, .slice ac1 0 kc1, .slice aa1 0 ka1, .slice (some ⟨b1, o1, none⟩) k kf1, .slice am1 0 km1]).setRow g7 #[.int .i64 8, .slice ac3 0 kc3, .slice aa3 0 ka3, .slice (some ⟨b3, o3, none⟩) k kf3, .slice am3 0 km3]).setRow g8 #[.int .i64 8, .slice ac5 0 kc5, .slice aa5 0 ka5, .slice (some ⟨b5', o5', none⟩) k kf5, .slice am5 0 km5])) (fun b hb _ => by obtain ⟨u, v⟩ := hb; exact hrow b (by omega) (by omega) (by omega)) (fun _ _ h => h))
              have n1 : (((w.setRow g6 #[.int .i64 8, .slice ac1 0 kc1, .slice aa1 0 ka1, .slice (some ⟨b1, o1, none⟩) k kf1, .slice am1 0 km1]).setRow g7 #[.int .i64 8, .slice ac3 0 kc3, .slice aa3 0 ka3, .slice (some ⟨b3, o3, none⟩) k kf3, .slice am3 0 km3]).setRow g8 #[.int .i64 8, .slice ac5 0 kc5, .slice aa5 0 ka5, .slice (some ⟨b5', o5', none⟩) k kf5, .slice am5 0 km5]).cell? ⟨b1, o1 + K * 5 + 2, none⟩ = some (.slice none 0 0) := (World.cell?_of_block (w := w) (hrow b1 (by omega) (by omega) (by omega))).trans hn1
              have HCc : Hid ((((w.setRow g6 #[.int .i64 8, .slice ac1 0 kc1, .slice aa1 0 ka1, .slice (some ⟨b1, o1, none⟩) k kf1, .slice am1 0 km1]).setRow g7 #[.int .i64 8, .slice ac3 0 kc3, .slice aa3 0 ka3, .slice (some ⟨b3, o3, none⟩) k kf3, .slice am3 0 km3]).setRow g8 #[.int .i64 8, .slice ac5 0 kc5, .slice aa5 0 ka5, .slice (some ⟨b5', o5', none⟩) k kf5, .slice am5 0 km5]).heap[gc]? = some (.cells #[.int .u8 4, .int .u8 0, .string ⟨#[121]⟩, .string (cName q), .slice none 0 0, .int .i64 99, .int .i64 1] 43 (0, 0))) := (hrow gc (by omega) (by omega) (by omega)).trans ((hb7.block gc hgc7).trans HC7.out)
              have H6 : Hid ((((w.setRow g6 #[.int .i64 8, .slice ac1 0 kc1, .slice aa1 0 ka1, .slice (some ⟨b1, o1, none⟩) k kf1, .slice am1 0 km1]).setRow g7 #[.int .i64 8, .slice ac3 0 kc3, .slice aa3 0 ka3, .slice (some ⟨b3, o3, none⟩) k kf3, .slice am3 0 km3]).setRow g8 #[.int .i64 8, .slice ac5 0 kc5, .slice aa5 0 ka5, .slice (some ⟨b5', o5', none⟩) k kf5, .slice am5 0 km5]).heap[g6]? = some (.cells #[.int .i64 8, .slice ac1 0 kc1, .slice aa1 0 ka1, .slice (some ⟨b1, o1, none⟩) k kf1, .slice am1 0 km1] 27 (0, 0))) := (setRow_other _ _ _ _ (by omega)).trans ((setRow_other _ _ _ _ (by omega)).trans (setRow_heap _ _ _ _ _ _ hg6))
              have H7 : Hid ((((w.setRow g6 #[.int .i64 8, .slice ac1 0 kc1, .slice aa1 0 ka1, .slice (some ⟨b1, o1, none⟩) k kf1, .slice am1 0 km1]).setRow g7 #[.int .i64 8, .slice ac3 0 kc3, .slice aa3 0 ka3, .slice (some ⟨b3, o3, none⟩) k kf3, .slice am3 0 km3]).setRow g8 #[.int .i64 8, .slice ac5 0 kc5, .slice aa5 0 ka5, .slice (some ⟨b5', o5', none⟩) k kf5, .slice am5 0 km5]).heap[g7]? = some (.cells #[.int .i64 8, .slice ac3 0 kc3, .slice aa3 0 ka3, .slice (some ⟨b3, o3, none⟩) k kf3, .slice am3 0 km3] 27 (0, 0))) := (setRow_other _ _ _ _ (by omega)).trans (setRow_heap _ _ _ _ _ _ hga)
              have H8 : Hid ((((w.setRow g6 #[.int .i64 8, .slice ac1 0 kc1, .slice aa1 0 ka1, .slice (some ⟨b1, o1, none⟩) k kf1, .slice am1 0 km1]).setRow g7 #[.int .i64 8, .slice ac3 0 kc3, .slice aa3 0 ka3, .slice (some ⟨b3, o3, none⟩) k kf3, .slice am3 0 km3]).setRow g8 #[.int .i64 8, .slice ac5 0 kc5, .slice aa5 0 ka5, .slice (some ⟨b5', o5', none⟩) k kf5, .slice am5 0 km5]).heap[g8]? = some (.cells #[.int .i64 8, .slice ac5 0 kc5, .slice aa5 0 ka5, .slice (some ⟨b5', o5', none⟩) k kf5, .slice am5 0 km5] 27 (0, 0))) := setRow_heap _ _ _ _ _ _ hgb
              have HB8 : Hid (Below W.heap.size W (((w.setRow g6 #[.int .i64 8, .slice ac1 0 kc1, .slice aa1 0 ka1, .slice (some ⟨b1, o1, none⟩) k kf1, .slice am1 0 km1]).setRow g7 #[.int .i64 8, .slice ac3 0 kc3, .slice aa3 0 ka3, .slice (some ⟨b3, o3, none⟩) k kf3, .slice am3 0 km3]).setRow g8 #[.int .i64 8, .slice ac5 0 kc5, .slice aa5 0 ka5, .slice (some ⟨b5', o5', none⟩) k kf5, .slice am5 0 km5])) := below_row (below_row (below_row (bcomp HB7.out hb7) (by omega) _) (by omega) _) (by omega) _
              have hbig : hi1 ≤ (((w.setRow g6 #[.int .i64 8, .slice ac1 0 kc1, .slice aa1 0 ka1, .slice (some ⟨b1, o1, none⟩) k kf1, .slice am1 0 km1]).setRow g7 #[.int .i64 8, .slice ac3 0 kc3, .slice aa3 0 ka3, .slice (some ⟨b3, o3, none⟩) k kf3, .slice am3 0 km3]).setRow g8 #[.int .i64 8, .slice ac5 0 kc5, .slice aa5 0 ka5, .slice (some ⟨b5', o5', none⟩) k kf5, .slice am5 0 km5]).heap.size ∧ hi3 ≤ (((w.setRow g6 #[.int .i64 8, .slice ac1 0 kc1, .slice aa1 0 ka1, .slice (some ⟨b1, o1, none⟩) k kf1, .slice am1 0 km1]).setRow g7 #[.int .i64 8, .slice ac3 0 kc3, .slice aa3 0 ka3, .slice (some ⟨b3, o3, none⟩) k kf3, .slice am3 0 km3]).setRow g8 #[.int .i64 8, .slice ac5 0 kc5, .slice aa5 0 ka5, .slice (some ⟨b5', o5', none⟩) k kf5, .slice am5 0 km5]).heap.size ∧ hi5 ≤ (((w.setRow g6 #[.int .i64 8, .slice ac1 0 kc1, .slice aa1 0 ka1, .slice (some ⟨b1, o1, none⟩) k kf1, .slice am1 0 km1]).setRow g7 #[.int .i64 8, .slice ac3 0 kc3, .slice aa3 0 ka3, .slice (some ⟨b3, o3, none⟩) k kf3, .slice am3 0 km3]).setRow g8 #[.int .i64 8, .slice ac5 0 kc5, .slice aa5 0 ka5, .slice (some ⟨b5', o5', none⟩) k kf5, .slice am5 0 km5]).heap.size := ⟨by simpa using r1, by simpa using r3, by simpa using r5⟩
              clear hf1 hf3 hf5 hn1 hn3 hn5 hrow hga hgb hg6 hg7 hg8 hb hb7 HC7 HP7 HG7 HF7 HB7
              generalize (((w.setRow g6 #[.int .i64 8, .slice ac1 0 kc1, .slice aa1 0 ka1, .slice (some ⟨b1, o1, none⟩) k kf1, .slice am1 0 km1]).setRow g7 #[.int .i64 8, .slice ac3 0 kc3, .slice aa3 0 ka3, .slice (some ⟨b3, o3, none⟩) k kf3, .slice am3 0 km3]).setRow g8 #[.int .i64 8, .slice ac5 0 kc5, .slice aa5 0 ka5, .slice (some ⟨b5', o5', none⟩) k kf5, .slice am5 0 km5]) = W8 at *
              simp only [Act.put]
              obtain ⟨hi1', hi3', hi5'⟩ := hbig
              have hkm : (k : Int) - 1 = (K : Int) := by omega
              have hKk : (K : Int) < (k : Int) := by omega
              obtain ⟨i1, hj, hw0, hw1, hw2⟩ := info_parts infoInstr
              have HK := Lib.hid (And.intro hK hK1)
              clear hK hK1
              refine wp_region_mix (.one [0, 1, 2, 3, 4, 5, 6, 7, 8, 9, 10, 11] 12 (.one [] 13 (tailOf [14, 15, 16]))) (fun j => decide (14 ≤ j)) (by kernel_rfl) (by kernel_rfl) rfl (by kernel_rfl) (fun _ d _ _ _ h => by cases d <;> exact h) ?_
              have HB : Hid (Below W8.heap.size W8 W8.drew) := (Below.refl _ _).drew
              generalize W8.drew = wn at *
              have l3 := ext_cell (row_of H6.out 3 _ rfl)
              have ln := ext_cell n1
              have lc0 := ext_cell (row_of HCc.out 0 _ rfl)
              have lc1 := ext_cell (row_of HCc.out 1 _ rfl)
              have lc2 := ext_cell (row_of HCc.out 2 _ rfl)
              have lc3 := ext_cell (row_of HCc.out 3 _ rfl)
              have lc4 := ext_cell (row_of HCc.out 4 _ rfl)
              have lc5 := ext_cell (row_of HCc.out 5 _ rfl)
              have lc6 := ext_cell (row_of HCc.out 6 _ rfl)
              refine mix_one (by simp only [opsOf, List.filterMap_cons, List.filterMap_nil, List.getElem?_toArray, List.getElem?_cons_succ, List.getElem?_cons_zero]; rfl) ⟨_, ext_of HB.out⟩ ?_
              change wpQuiet _ _ _ _ [_, _, _, _, _, _, _, _, _, _, _, _] _
              (repeat (go_big_quiet_step (fail)))
              refine wpQuiet_nil ?_
              clear l3 ln lc0 lc1 lc2 lc3 lc4 lc5 lc6
              refine mix_step rfl ?_
              go_wp2_with fail
              have hbn : Below wn.heap.size wn (wn.alloc (.cells #[.int .u8 4, .int .u8 0, .string ⟨#[121]⟩, .string (cName q), .slice none 0 0, .int .i64 99, .int .i64 1] 43)) := (Below.refl _ _).alloc (Nat.le_refl _) _
              have hmany : ∀ j u, (insCells (callT q, Value.slice none 0 0))[j]? = some u → (wn.alloc (.cells #[.int .u8 4, .int .u8 0, .string ⟨#[121]⟩, .string (cName q), .slice none 0 0, .int .i64 99, .int .i64 1] 43)).cell? ((⟨wn.heap.size, 0, none⟩ : Addr).add j) = some u := many_new wn (insCells (callT q, .slice none 0 0)) _
              have HB := Lib.hid (bcomp HB.out hbn)
              clear hbn
              refine ⟨⟨_, ext_of HB.out⟩, ?_⟩
              generalize wn.alloc (.cells #[.int .u8 4, .int .u8 0, .string ⟨#[121]⟩, .string (cName q), .slice none 0 0, .int .i64 99, .int .i64 1] 43) = wm at *
              generalize wn.heap.size = gn at *
              refine mix_now ?_
              refine mix_step rfl ?_
              have hsm := HB.out.size
              refine wpList_append_own _ rfl (.tmp 85) (.tmp 87) 25 rfl W8.heap.size 43 i1 (.agg #[.int .u8 0, .int .u8 0, .string ⟨#[]⟩, .string ⟨#[]⟩, .slice none 0 0, .int .i64 0, .int .i64 0]) 7 80 Tryd.underlying25 hj hw0 hw1 hw2 rfl (by decide) _ _ _ rfl (World.ownsRow_nil _ _ _ _) ⟨gn, 0, none⟩ 1 1 (insCells (callT q, .slice none 0 0)) rfl rfl hmany ?c2 ?c3 ?c4 ?c5 ?_
              case c2 => intro u hu; simp [insCells] at hu; rcases hu with rfl | rfl | rfl | rfl | rfl | rfl | rfl <;> rfl
              case c3 => unfold maxLen; omega
              case c4 => omega
              case c5 => first | omega | (simp; omega)
              intro v' w2 hown' hgrow _
              obtain ⟨a', c', rfl, -⟩ := own_read hown'
              have hbg : Below wm.heap.size wm w2 := (Below.refl _ _).grown hgrow (Nat.le_refl _) (fun j h => by cases h)
              have HB := Lib.hid (bcomp HB.out hbg)
              refine ⟨fun _ => ⟨_, ext_of HB.out⟩, ?_⟩
              have H1k := Lib.hid (H1.out.keep HB.out)
              have n2 := cell_keep HB.out n1
              have f2 : w2.frozen? ⟨b1, o1 + K * 5 + 2, none⟩ = false := by
                obtain ⟨a2, c2, e2, -, hr2⟩ := H1k.out
                simp only [Value.slice.injEq] at e2
                obtain ⟨rfl, -, -⟩ := e2
                obtain ⟨b2, o2, pv2, cv2, e3, hf3, -⟩ := hr2 q _ (chain_get.2 ⟨hq, rfl⟩)
                simp only [Option.some.injEq, Addr.mk.injEq, and_true] at e3
                obtain ⟨rfl, rfl⟩ := e3
                exact Free.frozen hf3 _
              refine mix_tail [14, 15, 16] [_, _, _] _ _ rfl rfl ?_
              go_upto_region 16 with fail
              have hs2' := HB.out.size
              have hkeep : ∀ b, b ≠ b1 → b < W8.heap.size → (w2.setCell ⟨b1, o1 + K * 5 + 2, none⟩ (.slice a' 1 c')).heap[b]? = W8.heap[b]? := fun b hb hl => (heap_setCell_other _ _ _ _ (by simp; omega)).trans (HB.out.block b hl)
              have hkeep2 : ∀ b, b ≠ b1 → (w2.setCell ⟨b1, o1 + K * 5 + 2, none⟩ (.slice a' 1 c')).heap[b]? = w2.heap[b]? := fun b hb => heap_setCell_other _ _ _ _ (by simp; omega)
              have hcode : RdInstrs (some (upFrom W8.heap.size)) w2 (.slice a' 1 c') [callT q] := own_instrs (P := [(callT q, Value.slice none 0 0)]) rfl (by simpa using hown') (by simp) (fun p hp => by
                rw [List.mem_singleton] at hp; subst hp
                exact ok_callT _ _ _)
              have z6 : g6 < W8.heap.size := (Array.getElem?_eq_some_iff.1 H6.out).1
              have z7 : g7 < W8.heap.size := (Array.getElem?_eq_some_iff.1 H7.out).1
              have z8 : g8 < W8.heap.size := (Array.getElem?_eq_some_iff.1 H8.out).1
              have zc : gc < W8.heap.size := (Array.getElem?_eq_some_iff.1 HCc.out).1
              have hcode2 : RdInstrs (some (fun b => b ≠ g7 ∧ b ≠ g8)) (w2.setCell ⟨b1, o1 + K * 5 + 2, none⟩ (.slice a' 1 c')) (.slice a' 1 c') [callT q] := RdInstrs.same (g' := (fun b => b ≠ g7 ∧ b ≠ g8)) hcode (fun b hb _ => hkeep2 b (by have : W8.heap.size ≤ b := hb; omega)) (fun b _ hb => by have : W8.heap.size ≤ b := hb; exact ⟨by omega, by omega⟩)
              have HLo : Hid (RdFuncs (some (fun b => b ≠ g7 ∧ b ≠ g8)) (w2.setCell ⟨b1, o1 + K * 5 + 2, none⟩ (.slice a' 1 c')) (.slice (some ⟨b1, o1, none⟩) k kf1) (loopL k q)) := by
                have := loop_rd (q := q) (cv := .slice a' 1 c') (G := (fun b => b ≠ g7 ∧ b ≠ g8)) (fun b hb => by obtain ⟨u, v⟩ := hb; exact ⟨by omega, by omega⟩) hN1 H1k.out (by rw [HK.out.2]; exact hcode2)
                rw [HK.out.2] at this
                exact this
              have HNo : Hid (RdFuncs (some (fun b => b ≠ g7 ∧ b ≠ g8)) (w2.setCell ⟨b1, o1 + K * 5 + 2, none⟩ (.slice a' 1 c')) (.slice (some ⟨b3, o3, none⟩) k kf3) (chainL k)) := RdFuncs.same (g' := (fun b => b ≠ g7 ∧ b ≠ g8)) (H3.out.keep HB.out) (fun b hb _ => by obtain ⟨u, v⟩ := hb; exact hkeep2 b (by omega)) (fun b _ hb => by obtain ⟨u, v⟩ := hb; exact ⟨by omega, by omega⟩)
              have HFo : Hid (RdFuncs (some (fun b => b ≠ g7 ∧ b ≠ g8)) (w2.setCell ⟨b1, o1 + K * 5 + 2, none⟩ (.slice a' 1 c')) (.slice (some ⟨b5', o5', none⟩) k kf5) (chainL k)) := RdFuncs.same (g' := (fun b => b ≠ g7 ∧ b ≠ g8)) (H5.out.keep HB.out) (fun b hb _ => by obtain ⟨u, v⟩ := hb; exact hkeep2 b (by omega)) (fun b _ hb => by obtain ⟨u, v⟩ := hb; exact ⟨by omega, by omega⟩)
              have H6 := Lib.hid ((hkeep g6 (by omega) z6).trans H6.out)
              have H7 := Lib.hid ((hkeep g7 (by omega) z7).trans H7.out)
              have H8 := Lib.hid ((hkeep g8 (by omega) z8).trans H8.out)
              have HCc := Lib.hid ((hkeep gc (by omega) zc).trans HCc.out)
              have HB9 : Hid (Below W.heap.size W (w2.setCell ⟨b1, o1 + K * 5 + 2, none⟩ (.slice a' 1 c'))) := (bcomp HB8.out HB.out).setCell (by show W.heap.size ≤ b1; omega) _
              have hord : g6 ≠ g7 ∧ g6 ≠ g8 ∧ g7 ≠ g8 ∧ gc ≠ g6 ∧ gc ≠ g7 ∧ gc ≠ g8 ∧ W.heap.size ≤ g7 ∧ W.heap.size ≤ g8 := ⟨by omega, by omega, by omega, by omega, by omega, by omega, by omega, by omega⟩
              have HOrd := Lib.hid hord
              clear hcode hcode2 hkeep hkeep2 z6 z7 z8 zc f2 n2 H1k hown' hgrow hbg HB8 H1 H3 H5 hord HB n1 hmany hsm hs2' hkm hKk hj hw0 hw1 hw2
              clear d13 d15 d16 d17 d18 d36 d37 d38 d56 d57 d58 d67 d68 d78 p1 q1 r1 p3 q3 r3 p5 q5 r5 p6 q6 r6 p7 q7 r7 p8 q8 r8 s6 t6 s7 t7 s8 t8 hi1' hi3' hi5' hb1l hb1h hszw hW7s hs7 hgc7
              generalize (w2.setCell ⟨b1, o1 + K * 5 + 2, none⟩ (.slice a' 1 c')) = W9 at *
              have h3 := H7.out
              have k4 := row_of h3 4 _ rfl
              have fk4 := frozen_of_row W9 _ 4 _ _ h3
              go_upto_region 17 with (go_at_call 22; refine (at_any _ _ _).mono ?_; rintro e wa ⟨rfl, hba⟩; have k4a := cell_keep hba k4; have fk4a := free_keep hba k4 fk4; have nea := block_lt_of_cell k4a; have neb : g7 ≠ wa.heap.size := Nat.ne_of_lt nea; have nec : wa.heap.size ≠ g7 := fun e => neb e.symm)
              obtain ⟨o1', o2', o3', o4', o5'', o6', o7', o8'⟩ := HOrd.out
              have hsa := hba.size
              have hk10 : ∀ b, b ≠ g7 → b < W9.heap.size → ((wa.setCell ⟨g7, 4, none⟩ (.slice (some ⟨wa.heap.size, 0, none⟩) 1 1)).alloc (.cells #[.int .u8 4, .int .u8 0, .string ⟨#[121]⟩, .string ⟨#[103]⟩, .slice none 0 0, .int .i64 98, .int .i64 2] 43)).heap[b]? = W9.heap[b]? := fun b hb hl => ((Below.heap_alloc _ _ _ (by simp; omega)).trans (heap_setCell_other _ _ _ _ (by simp; omega))).trans (hba.block b hl)
              have y7 : g7 < W9.heap.size := (Array.getElem?_eq_some_iff.1 H7.out).1
              have HN7 : Hid (((wa.setCell ⟨g7, 4, none⟩ (.slice (some ⟨wa.heap.size, 0, none⟩) 1 1)).alloc (.cells #[.int .u8 4, .int .u8 0, .string ⟨#[121]⟩, .string ⟨#[103]⟩, .slice none 0 0, .int .i64 98, .int .i64 2] 43)).heap[g7]? = some (.cells #[.int .i64 8, .slice ac3 0 kc3, .slice aa3 0 ka3, .slice (some ⟨b3, o3, none⟩) k kf3, .slice (some ⟨wa.heap.size, 0, none⟩) 1 1] 27 (0, 0))) := (Below.heap_alloc _ _ _ (by simp; omega)).trans (heap_setCell_same _ _ 4 _ _ (.slice (some ⟨wa.heap.size, 0, none⟩) 1 1) ((hba.block g7 y7).trans H7.out))
              have HIN : Hid (((wa.setCell ⟨g7, 4, none⟩ (.slice (some ⟨wa.heap.size, 0, none⟩) 1 1)).alloc (.cells #[.int .u8 4, .int .u8 0, .string ⟨#[121]⟩, .string ⟨#[103]⟩, .slice none 0 0, .int .i64 98, .int .i64 2] 43)).heap[wa.heap.size]? = some (.cells #[.int .u8 4, .int .u8 0, .string ⟨#[121]⟩, .string ⟨#[103]⟩, .slice none 0 0, .int .i64 98, .int .i64 2] 43 (0, 0))) := by
                have := heap_alloc_new (wa.setCell ⟨g7, 4, none⟩ (.slice (some ⟨wa.heap.size, 0, none⟩) 1 1)) (.cells #[.int .u8 4, .int .u8 0, .string ⟨#[121]⟩, .string ⟨#[103]⟩, .slice none 0 0, .int .i64 98, .int .i64 2] 43)
                rw [show (wa.setCell ⟨g7, 4, none⟩ (.slice (some ⟨wa.heap.size, 0, none⟩) 1 1)).heap.size = wa.heap.size by simp] at this
                exact this
              have HB10 : Hid (Below W.heap.size W ((wa.setCell ⟨g7, 4, none⟩ (.slice (some ⟨wa.heap.size, 0, none⟩) 1 1)).alloc (.cells #[.int .u8 4, .int .u8 0, .string ⟨#[121]⟩, .string ⟨#[103]⟩, .slice none 0 0, .int .i64 98, .int .i64 2] 43))) := ((bcomp HB9.out hba).setCell (by show W.heap.size ≤ g7; omega) _).alloc (by simp; have := (bcomp HB9.out hba).size; omega) _
              have H8 := Lib.hid ((hk10 g8 (by omega) (Array.getElem?_eq_some_iff.1 H8.out).1).trans H8.out)
              have H6 := Lib.hid ((hk10 g6 (by omega) (Array.getElem?_eq_some_iff.1 H6.out).1).trans H6.out)
              have HCc := Lib.hid ((hk10 gc (by omega) (Array.getElem?_eq_some_iff.1 HCc.out).1).trans HCc.out)
              have HLo := Lib.hid (RdFuncs.same (g' := (fun b => b ≠ g7 ∧ b ≠ g8)) HLo.out (fun b hb hl => hk10 b hb.1 hl) (fun _ _ h => h))
              have HNo := Lib.hid (RdFuncs.same (g' := (fun b => b ≠ g7 ∧ b ≠ g8)) HNo.out (fun b hb hl => hk10 b hb.1 hl) (fun _ _ h => h))
              have HFo := Lib.hid (RdFuncs.same (g' := (fun b => b ≠ g7 ∧ b ≠ g8)) HFo.out (fun b hb hl => hk10 b hb.1 hl) (fun _ _ h => h))
              have hgi : wa.heap.size ≠ g7 ∧ wa.heap.size ≠ g8 := ⟨nec, by have := (Array.getElem?_eq_some_iff.1 H8.out).1; have := (Array.getElem?_eq_some_iff.1 HIN.out).1; intro e; have e1 := H8.out; rw [← e] at e1; rw [HIN.out] at e1; simp at e1⟩
              have HGi := Lib.hid hgi
              clear hk10 y7 hsa hba k4 fk4 k4a fk4a nea neb nec h3 hgi HB9
              generalize ((wa.setCell ⟨g7, 4, none⟩ (.slice (some ⟨wa.heap.size, 0, none⟩) 1 1)).alloc (.cells #[.int .u8 4, .int .u8 0, .string ⟨#[121]⟩, .string ⟨#[103]⟩, .slice none 0 0, .int .i64 98, .int .i64 2] 43)) = W10 at *
              generalize wa.heap.size = gi at *
              clear o1' o2' o3' o4' o5'' o6' o7' o8'
              have c0 := row_of HCc.out 0 _ rfl
              have c1 := row_of HCc.out 1 _ rfl
              have c2 := row_of HCc.out 2 _ rfl
              have c3 := row_of HCc.out 3 _ rfl
              have c4 := row_of HCc.out 4 _ rfl
              have c5 := row_of HCc.out 5 _ rfl
              have c6 := row_of HCc.out 6 _ rfl
              have h8 := H8.out
              have k4 := row_of h8 4 _ rfl
              have fk4 := frozen_of_row W10 _ 4 _ _ h8
              have y8 := block_lt_of_cell k4
              have yc := block_lt_of_cell c0
              have y8 : g8 < W10.heap.size := y8
              have yc : gc < W10.heap.size := yc
              clear h8
              have m0 : g8 ≠ W10.heap.size := by omega
              have m1 : W10.heap.size ≠ g8 := by omega
              have m2 : g8 < W10.heap.size := by omega
              have m3 : ¬ W10.heap.size ≤ g8 := by omega
              have m4 : g8 ≠ W10.heap.size + 1 := by omega
              have m5 : W10.heap.size + 1 ≠ g8 := by omega
              have m6 : g8 < W10.heap.size + 1 := by omega
              have m7 : ¬ W10.heap.size + 1 ≤ g8 := by omega
              have m8 : g8 ≠ W10.heap.size + 2 := by omega
              have m9 : W10.heap.size + 2 ≠ g8 := by omega
              have m10 : g8 < W10.heap.size + 2 := by omega
              have m11 : ¬ W10.heap.size + 2 ≤ g8 := by omega
              have m12 : g8 ≠ W10.heap.size + 1 + 1 := by omega
              have m13 : W10.heap.size + 1 + 1 ≠ g8 := by omega
              have m14 : g8 < W10.heap.size + 1 + 1 := by omega
              have m15 : ¬ W10.heap.size + 1 + 1 ≤ g8 := by omega
              go_upto_region 20 with fail
              clear c0 c1 c2 c3 c4 c5 c6 k4 fk4 m0 m1 m2 m3 m4 m5 m6 m7 m8 m9 m10 m11 m12 m13 m14 m15
              have hWS : (W10.setCell ⟨g8, 4, none⟩ (.slice (some ⟨W10.heap.size + 1 + 1, 0, none⟩) 2 2)).heap.size = W10.heap.size := by simp
              have hk20 : ∀ b, b ≠ g8 → b < W10.heap.size → ((((W10.setCell ⟨g8, 4, none⟩ (.slice (some ⟨W10.heap.size + 1 + 1, 0, none⟩) 2 2)).alloc (.cells #[.int .u8 4, .int .u8 0, .string ⟨#[121]⟩, .string (cName q), .slice (some ⟨W10.heap.size + 1, 0, none⟩) 1 1, .int .i64 99, .int .i64 1] 43)).alloc (.cells #[.string ⟨#[]⟩, .int .u64 1] 46)).alloc (.cells #[.int .u8 4, .int .u8 0, .string ⟨#[121]⟩, .string (cName q), .slice none 0 0, .int .i64 99, .int .i64 1, .int .u8 4, .int .u8 0, .string ⟨#[121]⟩, .string (cName q), .slice (some ⟨W10.heap.size + 1, 0, none⟩) 1 1, .int .i64 99, .int .i64 1] 43)).heap[b]? = W10.heap[b]? := fun b hb hl => (Below.heap_alloc _ _ _ (by simp; omega)).trans ((Below.heap_alloc _ _ _ (by simp; omega)).trans ((Below.heap_alloc _ _ _ (by simp; omega)).trans (heap_setCell_other _ _ _ _ (by simp; omega))))
              have N8 : Hid (((((W10.setCell ⟨g8, 4, none⟩ (.slice (some ⟨W10.heap.size + 1 + 1, 0, none⟩) 2 2)).alloc (.cells #[.int .u8 4, .int .u8 0, .string ⟨#[121]⟩, .string (cName q), .slice (some ⟨W10.heap.size + 1, 0, none⟩) 1 1, .int .i64 99, .int .i64 1] 43)).alloc (.cells #[.string ⟨#[]⟩, .int .u64 1] 46)).alloc (.cells #[.int .u8 4, .int .u8 0, .string ⟨#[121]⟩, .string (cName q), .slice none 0 0, .int .i64 99, .int .i64 1, .int .u8 4, .int .u8 0, .string ⟨#[121]⟩, .string (cName q), .slice (some ⟨W10.heap.size + 1, 0, none⟩) 1 1, .int .i64 99, .int .i64 1] 43)).heap[g8]? = some (.cells #[.int .i64 8, .slice ac5 0 kc5, .slice aa5 0 ka5, .slice (some ⟨b5', o5', none⟩) k kf5, .slice (some ⟨W10.heap.size + 1 + 1, 0, none⟩) 2 2] 27 (0, 0))) := (Below.heap_alloc _ _ _ (by simp; omega)).trans ((Below.heap_alloc _ _ _ (by simp; omega)).trans ((Below.heap_alloc _ _ _ (by simp; omega)).trans (heap_setCell_same _ _ 4 _ _ (.slice (some ⟨W10.heap.size + 1 + 1, 0, none⟩) 2 2) H8.out)))
              have NA : Hid (((((W10.setCell ⟨g8, 4, none⟩ (.slice (some ⟨W10.heap.size + 1 + 1, 0, none⟩) 2 2)).alloc (.cells #[.int .u8 4, .int .u8 0, .string ⟨#[121]⟩, .string (cName q), .slice (some ⟨W10.heap.size + 1, 0, none⟩) 1 1, .int .i64 99, .int .i64 1] 43)).alloc (.cells #[.string ⟨#[]⟩, .int .u64 1] 46)).alloc (.cells #[.int .u8 4, .int .u8 0, .string ⟨#[121]⟩, .string (cName q), .slice none 0 0, .int .i64 99, .int .i64 1, .int .u8 4, .int .u8 0, .string ⟨#[121]⟩, .string (cName q), .slice (some ⟨W10.heap.size + 1, 0, none⟩) 1 1, .int .i64 99, .int .i64 1] 43)).heap[W10.heap.size + 1]? = some (.cells #[.string ⟨#[]⟩, .int .u64 1] 46 (0, 0))) := by
                have h := heap_alloc_new ((W10.setCell ⟨g8, 4, none⟩ (.slice (some ⟨W10.heap.size + 1 + 1, 0, none⟩) 2 2)).alloc (.cells #[.int .u8 4, .int .u8 0, .string ⟨#[121]⟩, .string (cName q), .slice (some ⟨W10.heap.size + 1, 0, none⟩) 1 1, .int .i64 99, .int .i64 1] 43)) (.cells #[.string ⟨#[]⟩, .int .u64 1] 46)
                rw [show ((W10.setCell ⟨g8, 4, none⟩ (.slice (some ⟨W10.heap.size + 1 + 1, 0, none⟩) 2 2)).alloc (.cells #[.int .u8 4, .int .u8 0, .string ⟨#[121]⟩, .string (cName q), .slice (some ⟨W10.heap.size + 1, 0, none⟩) 1 1, .int .i64 99, .int .i64 1] 43)).heap.size = W10.heap.size + 1 by simp] at h
                exact (Below.heap_alloc _ _ _ (by simp)).trans h
              have NT : Hid (((((W10.setCell ⟨g8, 4, none⟩ (.slice (some ⟨W10.heap.size + 1 + 1, 0, none⟩) 2 2)).alloc (.cells #[.int .u8 4, .int .u8 0, .string ⟨#[121]⟩, .string (cName q), .slice (some ⟨W10.heap.size + 1, 0, none⟩) 1 1, .int .i64 99, .int .i64 1] 43)).alloc (.cells #[.string ⟨#[]⟩, .int .u64 1] 46)).alloc (.cells #[.int .u8 4, .int .u8 0, .string ⟨#[121]⟩, .string (cName q), .slice none 0 0, .int .i64 99, .int .i64 1, .int .u8 4, .int .u8 0, .string ⟨#[121]⟩, .string (cName q), .slice (some ⟨W10.heap.size + 1, 0, none⟩) 1 1, .int .i64 99, .int .i64 1] 43)).heap[W10.heap.size + 1 + 1]? = some (.cells #[.int .u8 4, .int .u8 0, .string ⟨#[121]⟩, .string (cName q), .slice none 0 0, .int .i64 99, .int .i64 1, .int .u8 4, .int .u8 0, .string ⟨#[121]⟩, .string (cName q), .slice (some ⟨W10.heap.size + 1, 0, none⟩) 1 1, .int .i64 99, .int .i64 1] 43 (0, 0))) := by
                have h := heap_alloc_new (((W10.setCell ⟨g8, 4, none⟩ (.slice (some ⟨W10.heap.size + 1 + 1, 0, none⟩) 2 2)).alloc (.cells #[.int .u8 4, .int .u8 0, .string ⟨#[121]⟩, .string (cName q), .slice (some ⟨W10.heap.size + 1, 0, none⟩) 1 1, .int .i64 99, .int .i64 1] 43)).alloc (.cells #[.string ⟨#[]⟩, .int .u64 1] 46)) (.cells #[.int .u8 4, .int .u8 0, .string ⟨#[121]⟩, .string (cName q), .slice none 0 0, .int .i64 99, .int .i64 1, .int .u8 4, .int .u8 0, .string ⟨#[121]⟩, .string (cName q), .slice (some ⟨W10.heap.size + 1, 0, none⟩) 1 1, .int .i64 99, .int .i64 1] 43)
                rw [show (((W10.setCell ⟨g8, 4, none⟩ (.slice (some ⟨W10.heap.size + 1 + 1, 0, none⟩) 2 2)).alloc (.cells #[.int .u8 4, .int .u8 0, .string ⟨#[121]⟩, .string (cName q), .slice (some ⟨W10.heap.size + 1, 0, none⟩) 1 1, .int .i64 99, .int .i64 1] 43)).alloc (.cells #[.string ⟨#[]⟩, .int .u64 1] 46)).heap.size = W10.heap.size + 1 + 1 by simp] at h
                exact h
              obtain ⟨o1', o2', o3', o4', o5'', o6', o7', o8'⟩ := HOrd.out
              have HB20 : Hid (Below W.heap.size W ((((W10.setCell ⟨g8, 4, none⟩ (.slice (some ⟨W10.heap.size + 1 + 1, 0, none⟩) 2 2)).alloc (.cells #[.int .u8 4, .int .u8 0, .string ⟨#[121]⟩, .string (cName q), .slice (some ⟨W10.heap.size + 1, 0, none⟩) 1 1, .int .i64 99, .int .i64 1] 43)).alloc (.cells #[.string ⟨#[]⟩, .int .u64 1] 46)).alloc (.cells #[.int .u8 4, .int .u8 0, .string ⟨#[121]⟩, .string (cName q), .slice none 0 0, .int .i64 99, .int .i64 1, .int .u8 4, .int .u8 0, .string ⟨#[121]⟩, .string (cName q), .slice (some ⟨W10.heap.size + 1, 0, none⟩) 1 1, .int .i64 99, .int .i64 1] 43))) := (((HB10.out.setCell (by show W.heap.size ≤ g8; omega) _).alloc (by simp; have := HB10.out.size; omega) _).alloc (by simp; have := HB10.out.size; omega) _).alloc (by simp; have := HB10.out.size; omega) _
              have N6 := Lib.hid ((hk20 g6 (by omega) (Array.getElem?_eq_some_iff.1 H6.out).1).trans H6.out)
              have N7 := Lib.hid ((hk20 g7 (by omega) (Array.getElem?_eq_some_iff.1 HN7.out).1).trans HN7.out)
              have NI := Lib.hid ((hk20 gi HGi.out.2 (Array.getElem?_eq_some_iff.1 HIN.out).1).trans HIN.out)
              have HLo := Lib.hid (RdFuncs.same (g' := (fun b => b ≠ g7 ∧ b ≠ g8)) HLo.out (fun b hb hl => hk20 b hb.2 hl) (fun _ _ h => h))
              have HNo := Lib.hid (RdFuncs.same (g' := (fun b => b ≠ g7 ∧ b ≠ g8)) HNo.out (fun b hb hl => hk20 b hb.2 hl) (fun _ _ h => h))
              have HFo := Lib.hid (RdFuncs.same (g' := (fun b => b ≠ g7 ∧ b ≠ g8)) HFo.out (fun b hb hl => hk20 b hb.2 hl) (fun _ _ h => h))
              clear hk20 hWS o1' o2' o3' o4' o5'' o6' o7' o8' H6 HN7 H8 HIN HCc HB10 y8 yc H7
              generalize ((((W10.setCell ⟨g8, 4, none⟩ (.slice (some ⟨W10.heap.size + 1 + 1, 0, none⟩) 2 2)).alloc (.cells #[.int .u8 4, .int .u8 0, .string ⟨#[121]⟩, .string (cName q), .slice (some ⟨W10.heap.size + 1, 0, none⟩) 1 1, .int .i64 99, .int .i64 1] 43)).alloc (.cells #[.string ⟨#[]⟩, .int .u64 1] 46)).alloc (.cells #[.int .u8 4, .int .u8 0, .string ⟨#[121]⟩, .string (cName q), .slice none 0 0, .int .i64 99, .int .i64 1, .int .u8 4, .int .u8 0, .string ⟨#[121]⟩, .string (cName q), .slice (some ⟨W10.heap.size + 1, 0, none⟩) 1 1, .int .i64 99, .int .i64 1] 43)) = W20 at *
              generalize W10.heap.size = sz at *
              have PL : Hid (RdProg none W20 (loopD k q) (.slice ac1 0 kc1) (.slice aa1 0 ka1) (.slice (some ⟨b1, o1, none⟩) k kf1) (.slice am1 0 km1)) := ⟨rdStrs_none _ _ _, rdArrs_none _ _ _, HLo.out.forget, rdInstrs_none _ _ _, by show InI64 8; decide⟩
              have PN : Hid (RdProg none W20 (noneD k) (.slice ac3 0 kc3) (.slice aa3 0 ka3) (.slice (some ⟨b3, o3, none⟩) k kf3) (.slice (some ⟨gi, 0, none⟩) 1 1)) := ⟨rdStrs_none _ _ _, rdArrs_none _ _ _, HNo.out.forget, rdI (l := [(iNone, .slice none 0 0)]) NI.out (by simp) (fun p hp => by
                rw [List.mem_singleton] at hp; subst hp
                exact ⟨rdArgs_nil _ _, by decide, by decide, by decide, by decide, by decide, by decide⟩), by show InI64 8; decide⟩
              have PF : Hid (RdProg none W20 (callsFormD k q) (.slice ac5 0 kc5) (.slice aa5 0 ka5) (.slice (some ⟨b5', o5', none⟩) k kf5) (.slice (some ⟨sz + 1 + 1, 0, none⟩) 2 2)) := ⟨rdStrs_none _ _ _, rdArrs_none _ _ _, HFo.out.forget, rdI (l := [(callT q, .slice none 0 0), (moreT q, .slice (some ⟨sz + 1, 0, none⟩) 1 1)]) NT.out (by simp) (fun p hp => by
                simp only [List.mem_cons, List.not_mem_nil, or_false] at hp
                rcases hp with rfl | rfl
                · exact ok_callT _ _ _
                · exact ⟨rdA (l := [⟨bs [], 1⟩]) NA.out (by simp) (fun s hs => by rw [List.mem_singleton] at hs; subst hs; exact ⟨by decide, by decide⟩), (ok_callT none W20 q).2⟩), by show InI64 8; decide⟩
              clear HLo HNo HFo NI NA NT
              refine wp_region_mix (.one [0, 1, 2] 3 (.one [] 4 (.one [5, 6] 7 (.one [] 8 (.one [9, 10, 11] 12 (.one [] 13 (.one [14, 15] 16 (.fin [17, 18])))))))) (fun _ => false) (by kernel_rfl) (by kernel_rfl) rfl (by kernel_rfl) (fun _ d _ _ _ h => by cases d <;> exact h) ?_
              have HB : Hid (Below W20.heap.size W20 W20.drew) := (Below.refl _ _).drew
              generalize W20.drew = wn at *
              refine mix_one (by simp only [opsOf, List.filterMap_cons, List.filterMap_nil, List.getElem?_toArray, List.getElem?_cons_succ, List.getElem?_cons_zero]; rfl) ⟨_, ext_of HB.out⟩ ?_
              change wpQuiet _ _ _ _ [_, _, _] _
              have l0 := ext_cell (row_of N6.out 0 _ rfl)
              have l1 := ext_cell (row_of N6.out 1 _ rfl)
              have l2 := ext_cell (row_of N6.out 2 _ rfl)
              have l3 := ext_cell (row_of N6.out 3 _ rfl)
              have l4 := ext_cell (row_of N6.out 4 _ rfl)
              (repeat (go_big_quiet_step (fail)))
              refine wpQuiet_nil ?_
              clear l0 l1 l2 l3 l4
              refine mix_step rfl ?_
              go_wp2_with (go_at_call 22; refine (at_any _ _ _).mono ?_; rintro e wn ⟨rfl, hbn⟩)
              have HB := Lib.hid (bcomp HB.out hbn)
              clear hbn
              refine ⟨fun _ => ⟨_, ext_of HB.out⟩, ?_⟩
              refine mix_now ?_
              refine mix_step rfl ?_
              go_wp2_with (go_at_call 25; refine (is_any _ _ _ _ _ (some ⟨(q : Int) + 2, 1, 9⟩) _ (PL.out.keep HB.out) ((HL.out.keep HB20.out).keep HB.out) (ck_loop hN2 hq)).mono ?_; rintro e wn ⟨rfl, hbn⟩)
              have HB := Lib.hid (bcomp HB.out hbn)
              clear hbn
              refine ⟨fun _ => ⟨_, ext_of HB.out⟩, ?_⟩
              refine mix_one (by simp only [opsOf, List.filterMap_cons, List.filterMap_nil, List.getElem?_toArray, List.getElem?_cons_succ, List.getElem?_cons_zero]; rfl) ⟨_, ext_of HB.out⟩ ?_
              change wpQuiet _ _ _ _ [_, _] _
              have l0 := ext_cell (row_of N7.out 0 _ rfl)
              have l1 := ext_cell (row_of N7.out 1 _ rfl)
              have l2 := ext_cell (row_of N7.out 2 _ rfl)
              have l3 := ext_cell (row_of N7.out 3 _ rfl)
              have l4 := ext_cell (row_of N7.out 4 _ rfl)
              (repeat (go_big_quiet_step (fail)))
              refine wpQuiet_nil ?_
              clear l0 l1 l2 l3 l4
              refine mix_step rfl ?_
              go_wp2_with (go_at_call 22; refine (at_any _ _ _).mono ?_; rintro e wn ⟨rfl, hbn⟩)
              have HB := Lib.hid (bcomp HB.out hbn)
              clear hbn
              refine ⟨fun _ => ⟨_, ext_of HB.out⟩, ?_⟩
              refine mix_now ?_
              refine mix_step rfl ?_
              go_wp2_with (go_at_call 25; refine (is_any _ _ _ _ _ (some ⟨98, 2, 6⟩) _ (PN.out.keep HB.out) ((HL.out.keep HB20.out).keep HB.out) (ck_none hN2)).mono ?_; rintro e wn ⟨rfl, hbn⟩)
              have HB := Lib.hid (bcomp HB.out hbn)
              clear hbn
              refine ⟨fun _ => ⟨_, ext_of HB.out⟩, ?_⟩
              refine mix_one (by simp only [opsOf, List.filterMap_cons, List.filterMap_nil, List.getElem?_toArray, List.getElem?_cons_succ, List.getElem?_cons_zero]; rfl) ⟨_, ext_of HB.out⟩ ?_
              change wpQuiet _ _ _ _ [_, _, _] _
              have l0 := ext_cell (row_of N8.out 0 _ rfl)
              have l1 := ext_cell (row_of N8.out 1 _ rfl)
              have l2 := ext_cell (row_of N8.out 2 _ rfl)
              have l3 := ext_cell (row_of N8.out 3 _ rfl)
              have l4 := ext_cell (row_of N8.out 4 _ rfl)
              (repeat (go_big_quiet_step (fail)))
              refine wpQuiet_nil ?_
              clear l0 l1 l2 l3 l4
              refine mix_step rfl ?_
              go_wp2_with (go_at_call 22; refine (at_any _ _ _).mono ?_; rintro e wn ⟨rfl, hbn⟩)
              have HB := Lib.hid (bcomp HB.out hbn)
              clear hbn
              refine ⟨fun _ => ⟨_, ext_of HB.out⟩, ?_⟩
              refine mix_now ?_
              refine mix_step rfl ?_
              go_wp2_with (go_at_call 25; refine (is_any _ _ _ _ _ (some ⟨99, 1, 4⟩) _ (PF.out.keep HB.out) ((HL.out.keep HB20.out).keep HB.out) (ck_form hN2 hq)).mono ?_; rintro e wn ⟨rfl, hbn⟩)
              have HB := Lib.hid (bcomp HB.out hbn)
              clear hbn
              refine ⟨fun _ => ⟨_, ext_of HB.out⟩, ?_⟩
              refine mix_one (by simp only [opsOf, List.filterMap_cons, List.filterMap_nil, List.getElem?_toArray, List.getElem?_cons_succ, List.getElem?_cons_zero]; rfl) ⟨_, ext_of HB.out⟩ ?_
              change wpQuiet _ _ _ _ [_, _] _
              (repeat (go_big_quiet_step (fail)))
              refine wpQuiet_nil ?_
              refine mix_step rfl ?_
              go_wp2_with (go_at_call 16; refine (awake_any _ ((HL.out.keep HB20.out).keep HB.out)).mono ?_; rintro e wn ⟨rfl, hbn⟩)
              have HB := Lib.hid (bcomp HB.out hbn)
              clear hbn
              refine ⟨fun _ => ⟨_, ext_of HB.out⟩, ?_⟩
              refine mix_fin (by simp only [opsOf, List.filterMap_cons, List.filterMap_nil, List.getElem?_toArray, List.getElem?_cons_succ, List.getElem?_cons_zero]; rfl) ⟨_, ext_of HB.out⟩ ?_
              change wpQuiet _ _ _ _ [_, _] _
              (repeat (go_big_quiet_step (fail)))
              refine wpQuiet_nil ?_
              go_wp2_with fail
              go_ret
              exact ⟨rfl, HB20.out.trans (HB.out.mono HB20.out.size)⟩
end Go.Proofs.YtjdbdoeopobciaaDoor
