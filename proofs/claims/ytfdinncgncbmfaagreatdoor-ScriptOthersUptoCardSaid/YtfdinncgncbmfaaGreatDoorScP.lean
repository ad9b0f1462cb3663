/- Contract of script.Prog: it returns the program of the string, in new memory. Conditions: none. -/
import Derived.Test.YtfdinncgncbmfaaGreatDoorScQ
set_option linter.unusedVariables false
set_option linter.unusedSimpArgs false
set_option linter.unnecessarySimpa false
namespace Go.Proofs.YtfdinncgncbmfaaGreatDoor
open Go.Maps (Keyed int_keyed)
open Go.WideShapes Go.ChangeMaps Go.MapKept Go.WideMaps Go.ChangeAt Go.RowKit Go.ChangeShapes
set_option maxRecDepth 100000 in
set_option maxHeartbeats 6400000 in
theorem prog_any (l : List UInt8) (w : World) :
    Calls Tryz.prog 12 #[.string ⟨l.toArray⟩] w fun e w' => ∃ cv av fv mv, e = .returned (.agg #[.int .i64 (progS l).width, cv, av, fv, mv]) ∧ RdProg (some (upFrom w.heap.size)) w' (progS l) cv av fv mv ∧ Below w.heap.size w w' := by
  obtain ⟨r, hr⟩ : ∃ r, w.heap.size = r := ⟨_, rfl⟩
  have a1 := (Below.refl w.heap.size w).alloc (Nat.le_refl _) (.cells #[.int .i64 0, .slice none 0 0, .slice none 0 0, .slice none 0 0, .slice none 0 0] 28)
  have a2 := a1.alloc (by simp) (.cells #[.string ⟨l.toArray⟩] 72)
  have g2 := heap2_of (w := w) (A := .cells #[.int .i64 0, .slice none 0 0, .slice none 0 0, .slice none 0 0, .slice none 0 0] 28 (0, 0)) (B := .cells #[.string ⟨l.toArray⟩] 72 (0, 0)) (Below.refl _ _)
  have HB2 := Lib.hid a2
  have HS2 : Hid (SrcAt ((w.alloc (.cells #[.int .i64 0, .slice none 0 0, .slice none 0 0, .slice none 0 0, .slice none 0 0] 28)).alloc (.cells #[.string ⟨l.toArray⟩] 72)) (w.heap.size + 1) l) := g2.2.1
  have HR2 := Lib.hid g2.1
  clear a1 a2 g2
  go_enter Tryz.func12, Tryz.ntmps12
  go_upto_region 2 with fail
  rw [hr] at HB2 HS2 HR2
  try rw [hr]
  generalize (w.alloc (.cells #[.int .i64 0, .slice none 0 0, .slice none 0 0, .slice none 0 0, .slice none 0 0] 28)).alloc (.cells #[.string ⟨l.toArray⟩] 72) = W at *
  obtain ⟨v1, hv⟩ : ∃ x, (takeS 4 l).1 = x := ⟨_, rfl⟩
  obtain ⟨l1, hl1⟩ : ∃ x, (takeS 4 l).2 = x := ⟨_, rfl⟩
  have hvl : v1 < 4 := by rw [← hv]; exact take_small 4 l (by omega)
  have ht := take_any (r + 1) l 4 W HS2.out (by omega) (by omega)
  rw [hv, hl1] at ht
  have HT := Lib.hid ht
  have HV1 := Lib.hid hv
  have HL1 := Lib.hid hl1
  clear ht hv hl1
  go_upto_region 3 with (first | (go_at_call 21; refine HT.out.mono ?_; rintro e z1 ⟨rfl, hs1, ht1⟩; have HS3 := Lib.hid hs1; have HT1 := Lib.hid ht1; have HZN := Lib.hid (heap_alloc_new z1 (.cells #[.int .i64 0, .slice none 0 0, .slice none 0 0, .slice none 0 0, .slice none 0 0] 28)); clear hs1 ht1) | (refine wpList_store_row rfl 28 (.tmp 4) (.tmp 18) rfl z1.heap.size #[.int .i64 (1 + (v1 : Int)), .slice none 0 0, .slice none 0 0, .slice none 0 0, .slice none 0 0] rfl rfl 28 #[.int .i64 0, .slice none 0 0, .slice none 0 0, .slice none 0 0, .slice none 0 0] ?hs1 (by as_aux_lemma => kernel_rfl) (by as_aux_lemma => kernel_rfl) (by as_aux_lemma => kernel_rfl) ?_; exact HZN.out))
  have hbn : Below z1.heap.size z1 ((z1.alloc (.cells #[.int .i64 0, .slice none 0 0, .slice none 0 0, .slice none 0 0, .slice none 0 0] 28)).setRow z1.heap.size #[.int .i64 (1 + (v1 : Int)), .slice none 0 0, .slice none 0 0, .slice none 0 0, .slice none 0 0]) := below_row ((Below.refl z1.heap.size z1).alloc (Nat.le_refl _) (.cells #[.int .i64 0, .slice none 0 0, .slice none 0 0, .slice none 0 0, .slice none 0 0] 28)) (Nat.le_refl _) _
  have hbx : ((z1.alloc (.cells #[.int .i64 0, .slice none 0 0, .slice none 0 0, .slice none 0 0, .slice none 0 0] 28)).setRow z1.heap.size #[.int .i64 (1 + (v1 : Int)), .slice none 0 0, .slice none 0 0, .slice none 0 0, .slice none 0 0]).heap[z1.heap.size]? = some (.cells #[.int .i64 (1 + (v1 : Int)), .slice none 0 0, .slice none 0 0, .slice none 0 0, .slice none 0 0] 28 (0, 0)) := setRow_heap _ _ _ _ _ _ HZN.out
  have hWs : r + 1 < W.heap.size := HS2.out.lt
  have hz1 : W.heap.size ≤ z1.heap.size := HT1.out.size
  have hP : PSt w z1.heap.size (r + 1) r (1 + (v1 : Int)) ((z1.alloc (.cells #[.int .i64 0, .slice none 0 0, .slice none 0 0, .slice none 0 0, .slice none 0 0] 28)).setRow z1.heap.size #[.int .i64 (1 + (v1 : Int)), .slice none 0 0, .slice none 0 0, .slice none 0 0, .slice none 0 0]) (.slice none 0 0) (.slice none 0 0) (.slice none 0 0) [] [] [] l1 := by
    have hbw : Below r w z1 := HB2.out.trans (HT1.out.below r (by omega) (fun i hi e => by have e' : i = r + 1 := e; omega))
    have hres := (hbn.block r (by omega)).trans (HT1.out.heap HR2.out (fun e => by have e' : r = r + 1 := e; omega))
    exact ⟨hbx, (hbn.block _ HS3.out.lt).trans HS3.out, World.ownsRow_nil _ _ _ _, World.ownsRow_nil _ _ _ _, World.ownsRow_nil _ _ _ _, fun q hq => (by simp at hq), hbw.trans (hbn.mono (by omega)), by omega, by omega, by omega, by omega, hres⟩
  have HP := Lib.hid hP
  try simp only [Act.put]
  generalize z1.heap.size = pb at *
  clear hP hbn hbx HZN HS3 HT1 HT HB2 HS2 HR2
  generalize (z1.alloc (.cells #[.int .i64 0, .slice none 0 0, .slice none 0 0, .slice none 0 0, .slice none 0 0] 28)).setRow pb #[.int .i64 (1 + (v1 : Int)), .slice none 0 0, .slice none 0 0, .slice none 0 0, .slice none 0 0] = w2 at *
  obtain ⟨v2, hv⟩ : ∃ x, (takeS 3 l1).1 = x := ⟨_, rfl⟩
  obtain ⟨l2, hl2⟩ : ∃ x, (takeS 3 l1).2 = x := ⟨_, rfl⟩
  have hvl2 : v2 < 3 := by rw [← hv]; exact take_small 3 l1 (by omega)
  have ht := take_any (r + 1) l1 3 w2 HP.out.src (by omega) (by omega)
  rw [hv, hl2] at ht
  have HT := Lib.hid ht
  have HX2 : Hid (takeS 3 l1 = (v2, l2)) := (by show _ = _; rw [← hv, ← hl2])
  clear ht hv hl2
  go_upto_region 4 with (go_at_call 21; refine HT.out.mono ?_; rintro e w3 ⟨rfl, hs1, ht1⟩; have HP3 := Lib.hid (HP.out.bytes (by omega) ht1 hs1); clear hs1 ht1)
  clear HT HP
  obtain ⟨iS, hiS, hzS0, hzS1, hzS2⟩ := info_parts infoStrS
  go_loopw [5, 22] (fun _ v wr => ∃ (i : Nat) (cv : Value), i ≤ 1 + v2 ∧ v = .int .i64 i ∧ PSt w pb (r + 1) r (1 + (v1 : Int)) wr cv (.slice none 0 0) (.slice none 0 0) ((List.range i).map (nmS 99)) [] [] l2) (fun _ v _ => 1 + v2 - (intOf v).toNat)
  case atStart => exact ⟨0, _, Nat.zero_le _, rfl, HP3.out⟩
  case round =>
    obtain ⟨i, cv, hi, rfl, hp⟩ := hrel
    obtain ⟨w4, rfl⟩ : ∃ x : World, x = wr := ⟨_, rfl⟩
    have HP4 := Lib.hid hp
    clear hp
    by_cases hlt : i < 1 + v2
    · have hlt1 : (i : Int) < 1 + (v2 : Int) := by omega
      --[[ chans
      go_upto_region 6 with fail
      have q1 := keepS_cell (S := [pb]) (by simp) (row_of HP4.out.box 1 cv rfl)
      refine wp_region_mixS [pb] (.one [0, 1, 2] 3 (.one [] 4 (.one [] 5 (.one [] 6 (tailOf [7, 8]))))) (fun j => decide (7 ≤ j)) (by kernel_rfl) (by kernel_rfl) rfl (by kernel_rfl) (fun _ d _ _ _ h => by cases d <;> exact h) ?_
      have HBd : Hid (Below w4.heap.size w4 w4.drew) := (Below.refl _ _).drew
      generalize w4.drew = y0 at *
      have hpx := (Array.getElem?_eq_some_iff.1 HP4.out.box).1
      have ONE : Hid (∀ z : World, z.heap[pb]? = w4.heap[pb]? → ∀ b ∈ [pb], z.heap[b]? = w4.heap[b]?) := fun z hz b hb => by
        simp only [List.mem_cons, List.not_mem_nil, or_false] at hb
        subst hb
        exact hz
      have HKn := Lib.hid (ONE.out y0 (HBd.out.block _ hpx))
      refine mix_one (by simp only [opsOf, List.filterMap_cons, List.filterMap_nil, List.getElem?_toArray, List.getElem?_cons_succ, List.getElem?_cons_zero]; rfl) ⟨_, keepS_of HKn.out⟩ ?_
      change wpQuiet _ _ _ _ [_, _, _] _
      (repeat (go_big_quiet_step (fail)))
      clear q1
      refine wpQuiet_nil ?_
      refine mix_step rfl ?_
      go_wp2_with fail
      obtain ⟨ns, hns⟩ : ∃ y, nmS 99 i = y := ⟨_, rfl⟩
      have hal := (Below.refl y0.heap.size y0).alloc (Nat.le_refl _) (.cells #[.int .i64 (i : Nat)] 3)
      have hN := name_any 99 i (by omega) y0.heap.size _ (heap_alloc_new y0 (.cells #[.int .i64 (i : Nat)] 3))
      rw [hns] at hN
      have HN := Lib.hid hN
      have HB1 := Lib.hid (bcomp HBd.out hal)
      have HK1 := Lib.hid (ONE.out (y0.alloc (.cells #[.int .i64 (i : Nat)] 3)) (HB1.out.block _ hpx))
      have HNS := Lib.hid hns
      clear hal hN hns
      (first | refine ⟨fun _ => ⟨_, keepS_of HK1.out⟩, ?_⟩ | refine ⟨⟨_, keepS_of HK1.out⟩, ?_⟩)
      refine mix_now ?_
      refine mix_step rfl ?_
      go_wp2_with (go_at_call 22; refine HN.out.mono ?_; rintro e z ⟨rfl, rfl⟩)
      (first | refine ⟨fun _ => ⟨_, keepS_of HK1.out⟩, ?_⟩ | refine ⟨⟨_, keepS_of HK1.out⟩, ?_⟩)
      generalize y0.alloc (.cells #[.int .i64 (i : Nat)] 3) = y1 at *
      refine mix_now ?_
      refine mix_step rfl ?_
      go_wp2_with fail
      have hal := (Below.refl y1.heap.size y1).alloc (Nat.le_refl _) (.cells #[.string ns] 9)
      have hnw := heap_alloc_new y1 (.cells #[.string ns] 9)
      have HB2 := Lib.hid (bcomp HB1.out hal)
      have HK2 := Lib.hid (ONE.out (y1.alloc (.cells #[.string ns] 9)) (HB2.out.block _ hpx))
      obtain ⟨g2, hg2⟩ : ∃ x, y1.heap.size = x := ⟨_, rfl⟩
      rw [hg2] at hnw
      try rw [hg2]
      have HF2 := Lib.hid hnw
      clear hal hnw hg2
      generalize y1.alloc (.cells #[.string ns] 9) = y2 at *
      (first | refine ⟨fun _ => ⟨_, keepS_of HK2.out⟩, ?_⟩ | refine ⟨⟨_, keepS_of HK2.out⟩, ?_⟩)
      have HP5 := Lib.hid (HP4.out.later HB2.out)
      refine mix_now ?_
      refine mix_step rfl ?_
      try (simp only [Act.put, List.setIfInBounds_toArray, List.set_cons_succ, List.set_cons_zero, List.getElem_toArray, List.getElem_cons_succ, List.getElem_cons_zero])
      refine wpList_append_own_at _ rfl (.tmp 26) (.tmp 30) 23 rfl r 9 iS (.string ⟨#[]⟩) 1 16 Tryz.underlying23 hiS hzS0 hzS1 hzS2 rfl (by decide) _ _ _ rfl HP5.out.oc ⟨g2, 0, none⟩ 1 1 [.string ns] rfl rfl ?sa1 ?sb1 ?sc1 ?sd1 (Nat.le_trans HP5.out.hb0 HP5.out.below.size) ?_
      case sa1 => exact row_news (xs := [.string ns]) HF2.out
      case sb1 => intro u hu; simp only [List.mem_cons, List.not_mem_nil, or_false] at hu; subst hu; rfl
      case sc1 => simp only [List.length_map, List.length_range]; unfold maxLen; omega
      case sd1 => simp only [List.length_map, List.length_range]; omega
      intro v' y3 hown' hgrow _ hblk
      obtain ⟨xa, xc, rfl, _⟩ := own_read hown'
      have hbx3 := (Trn.of_grown (S := fun b => cv.ownBlock = some b) hgrow (fun b e => e)).heap HP5.out.box (not_own HP5.out.oc HP5.out.box (by decide))
      have HBX := Lib.hid hbx3
      have HP6 := Lib.hid (HP5.out.chan hgrow hown')
      clear hown' hgrow hblk hbx3
      try (simp only [Act.put, List.setIfInBounds_toArray, List.set_cons_succ, List.set_cons_zero, List.getElem_toArray, List.getElem_cons_succ, List.getElem_cons_zero])
      go_wp2_with fail
      have HK3 := Lib.hid (ONE.out y3 (HBX.out.trans HP4.out.box.symm))
      (first | refine ⟨fun _ => ⟨_, keepS_of HK3.out⟩, ?_⟩ | refine ⟨⟨_, keepS_of HK3.out⟩, ?_⟩)
      have c1 := row_of HBX.out 1 cv rfl
      have f1 := frozen_of_row y3 pb 1 _ _ HBX.out
      refine mix_tail [7, 8] [_, _] _ _ rfl rfl ?_
      simp only [Act.put, List.setIfInBounds_toArray, List.set_cons_succ, List.set_cons_zero, List.getElem_toArray, List.getElem_cons_succ, List.getElem_cons_zero]
      go_wp2_with fail
      clear c1 f1
      go_roundw
      case rel => exact ⟨i + 1, _, by omega, by go_num, by
        have h := HP6.out
        rw [← HNS.out] at h
        simp only [List.length_map, List.length_range] at h
        rw [List.range_succ, List.map_append]
        exact h⟩
      case measure => simp [intOf]; omega
      --]]
    · have hlt1 : ¬ (i : Int) < 1 + (v2 : Int) := by omega
      obtain ⟨C, hC⟩ : ∃ C, (List.range i).map (nmS 99) = C := ⟨_, rfl⟩
      have HC : Hid (C = (List.range (1 + v2)).map (nmS 99)) := by show _ = _; rw [← hC, show i = 1 + v2 by omega]
      rw [hC] at HP4
      clear hC
      obtain ⟨v3, hv⟩ : ∃ x, (takeS 3 l2).1 = x := ⟨_, rfl⟩
      obtain ⟨l3, hl3⟩ : ∃ x, (takeS 3 l2).2 = x := ⟨_, rfl⟩
      have hvl3 : v3 < 3 := by rw [← hv]; exact take_small 3 l2 (by omega)
      have ht := take_any (r + 1) l2 3 w4 HP4.out.src (by omega) (by omega)
      rw [hv, hl3] at ht
      have HT := Lib.hid ht
      have HX3 : Hid (takeS 3 l2 = (v3, l3)) := (by show _ = _; rw [← hv, ← hl3])
      clear ht hv hl3
      go_upto_region 9 with (go_at_call 21; refine HT.out.mono ?_; rintro e w5 ⟨rfl, hs1, ht1⟩; have HP5 := Lib.hid (HP4.out.bytes (by omega) ht1 hs1); clear hs1 ht1)
      clear HT HP4
      obtain ⟨iA, hiA, hzA0, hzA1, hzA2⟩ := info_parts infoArrS
      go_loopw [6, 36] (fun _ v wr => ∃ (i : Nat) (av : Value) (A : List ArrD) (lc : List UInt8), i ≤ v3 ∧ v = .int .i64 i ∧ A.length = i ∧ Hid (timesS arrOne v3 0 [] l3 = timesS arrOne (v3 - i) i A lc) ∧ PSt w pb (r + 1) r (1 + (v1 : Int)) wr cv av (.slice none 0 0) C A [] lc) (fun _ v _ => v3 - (intOf v).toNat)
      case atStart => exact ⟨0, _, [], l3, Nat.zero_le _, rfl, rfl, rfl, HP5.out⟩
      case round =>
        obtain ⟨i, av, A, lc, hi, rfl, hAl, HIN, hp⟩ := hrel
        obtain ⟨w6, rfl⟩ : ∃ x : World, x = wr := ⟨_, rfl⟩
        have HP6 := Lib.hid hp
        clear hp
        by_cases hlt : i < v3
        · have hlt1 : (i : Int) < (v3 : Int) := by omega
          --[[ arrs
          obtain ⟨v4, hv⟩ : ∃ x, (takeS 4 lc).1 = x := ⟨_, rfl⟩
          obtain ⟨l4, hl4⟩ : ∃ x, (takeS 4 lc).2 = x := ⟨_, rfl⟩
          have hvl4 : v4 < 4 := by rw [← hv]; exact take_small 4 lc (by omega)
          have HIN2 : Hid (timesS arrOne v3 0 [] l3 = timesS arrOne (v3 - (i + 1)) (i + 1) (A ++ [⟨nmS 97 i, 1 + (v4 : Int)⟩]) l4) := by
            show _ = _
            rw [HIN.out, show v3 - i = (v3 - (i + 1)) + 1 by omega, ← hv, ← hl4]
            rfl
          go_upto_region 11 with fail
          have q2 := keepS_cell (S := [pb]) (by simp) (row_of HP6.out.box 2 av rfl)
          refine wp_region_mixS [pb] (.one [0, 1, 2, 5] 3 (.one [] 4 (.one [] 6 (.one [7, 8] 9 (.one [] 10 (tailOf [11, 12])))))) (fun j => decide (11 ≤ j)) (by kernel_rfl) (by kernel_rfl) rfl (by kernel_rfl) (fun _ d _ _ _ h => by cases d <;> exact h) ?_
          have HBd : Hid (Below w6.heap.size w6 w6.drew) := (Below.refl _ _).drew
          generalize w6.drew = y0 at *
          have hpx := (Array.getElem?_eq_some_iff.1 HP6.out.box).1
          have ONE : Hid (∀ z : World, z.heap[pb]? = w6.heap[pb]? → ∀ b ∈ [pb], z.heap[b]? = w6.heap[b]?) := fun z hz b hb => by
            simp only [List.mem_cons, List.not_mem_nil, or_false] at hb
            subst hb
            exact hz
          have HKn := Lib.hid (ONE.out y0 (HBd.out.block _ hpx))
          refine mix_one (by simp only [opsOf, List.filterMap_cons, List.filterMap_nil, List.getElem?_toArray, List.getElem?_cons_succ, List.getElem?_cons_zero]; rfl) ⟨_, keepS_of HKn.out⟩ ?_
          change wpQuiet _ _ _ _ [_, _, _, _] _
          (repeat (go_big_quiet_step (fail)))
          clear q2
          refine wpQuiet_nil ?_
          refine mix_step rfl ?_
          go_wp2_with fail
          obtain ⟨ns, hns⟩ : ∃ y, nmS 97 i = y := ⟨_, rfl⟩
          have hal := (Below.refl y0.heap.size y0).alloc (Nat.le_refl _) (.cells #[.int .i64 (i : Nat)] 3)
          have hN := name_any 97 i (by omega) y0.heap.size _ (heap_alloc_new y0 (.cells #[.int .i64 (i : Nat)] 3))
          rw [hns] at hN
          have HN := Lib.hid hN
          have HB1 := Lib.hid (bcomp HBd.out hal)
          have HK1 := Lib.hid (ONE.out (y0.alloc (.cells #[.int .i64 (i : Nat)] 3)) (HB1.out.block _ hpx))
          have HNS := Lib.hid hns
          clear hal hN hns
          (first | refine ⟨fun _ => ⟨_, keepS_of HK1.out⟩, ?_⟩ | refine ⟨⟨_, keepS_of HK1.out⟩, ?_⟩)
          refine mix_now ?_
          refine mix_step rfl ?_
          go_wp2_with (go_at_call 22; refine HN.out.mono ?_; rintro e z ⟨rfl, rfl⟩)
          (first | refine ⟨fun _ => ⟨_, keepS_of HK1.out⟩, ?_⟩ | refine ⟨⟨_, keepS_of HK1.out⟩, ?_⟩)
          generalize y0.alloc (.cells #[.int .i64 (i : Nat)] 3) = y1 at *
          have HPy1 := Lib.hid (HP6.out.later HB1.out)
          have ht := take_any (r + 1) lc 4 y1 HPy1.out.src (by omega) (by omega)
          rw [hv, hl4] at ht
          have HT := Lib.hid ht
          clear ht hv hl4
          refine mix_now ?_
          refine mix_step rfl ?_
          go_wp2_with (go_at_call 21; refine HT.out.mono ?_; rintro e y2 ⟨rfl, hs1, ht1⟩)
          have HPy2 := Lib.hid (HPy1.out.bytes (by omega) ht1 hs1)
          have HK2 := Lib.hid (ONE.out y2 (HPy2.out.box.trans HP6.out.box.symm))
          clear hs1 ht1 HT
          (first | refine ⟨fun _ => ⟨_, keepS_of HK2.out⟩, ?_⟩ | refine ⟨⟨_, keepS_of HK2.out⟩, ?_⟩)
          refine mix_one (by simp only [opsOf, List.filterMap_cons, List.filterMap_nil, List.getElem?_toArray, List.getElem?_cons_succ, List.getElem?_cons_zero]; rfl) ⟨_, keepS_of HK2.out⟩ ?_
          change wpQuiet _ _ _ _ [_, _] _
          (repeat (go_big_quiet_step (fail)))
          refine wpQuiet_nil ?_
          refine mix_step rfl ?_
          go_wp2_with fail
          have hal := (Below.refl y2.heap.size y2).alloc (Nat.le_refl _) (.cells #[.string ns, .int .i64 (1 + (v4 : Int))] 54)
          have hnw := heap_alloc_new y2 (.cells #[.string ns, .int .i64 (1 + (v4 : Int))] 54)
          have HPy3 := Lib.hid (HPy2.out.later hal)
          have HK3 := Lib.hid (ONE.out (y2.alloc (.cells #[.string ns, .int .i64 (1 + (v4 : Int))] 54)) (HPy3.out.box.trans HP6.out.box.symm))
          obtain ⟨g2, hg2⟩ : ∃ x, y2.heap.size = x := ⟨_, rfl⟩
          rw [hg2] at hnw
          try rw [hg2]
          have HF2 := Lib.hid hnw
          clear hal hnw hg2
          generalize y2.alloc (.cells #[.string ns, .int .i64 (1 + (v4 : Int))] 54) = y3 at *
          (first | refine ⟨fun _ => ⟨_, keepS_of HK3.out⟩, ?_⟩ | refine ⟨⟨_, keepS_of HK3.out⟩, ?_⟩)
          refine mix_now ?_
          refine mix_step rfl ?_
          try (simp only [Act.put, List.setIfInBounds_toArray, List.set_cons_succ, List.set_cons_zero, List.getElem_toArray, List.getElem_cons_succ, List.getElem_cons_zero])
          refine wpList_append_own_at _ rfl (.tmp 40) (.tmp 48) 24 rfl r 54 iA (.agg #[.string ⟨#[]⟩, .int .i64 0]) 2 24 Tryz.underlying24 hiA hzA0 hzA1 hzA2 rfl (by decide) _ _ _ rfl HPy3.out.oa ⟨g2, 0, none⟩ 1 1 (arrCells ⟨ns, 1 + (v4 : Int)⟩) rfl rfl ?ta1 ?tb1 ?tc1 ?td1 (Nat.le_trans HPy3.out.hb0 HPy3.out.below.size) ?_
          case ta1 => exact row_news (xs := arrCells ⟨ns, 1 + (v4 : Int)⟩) HF2.out
          case tb1 => intro u hu; simp [arrCells] at hu; rcases hu with rfl | rfl <;> rfl
          case tc1 => unfold maxLen; omega
          case td1 => omega
          intro v' y4 hown' hgrow _ hblk
          obtain ⟨xa, xc, rfl, _⟩ := own_read hown'
          have hbx3 := (Trn.of_grown (S := fun b => av.ownBlock = some b) hgrow (fun b e => e)).heap HPy3.out.box (not_own HPy3.out.oa HPy3.out.box (by decide))
          have HBX := Lib.hid hbx3
          have HPy5 := Lib.hid (HPy3.out.arr hgrow hown')
          clear hown' hgrow hblk hbx3
          try (simp only [Act.put, List.setIfInBounds_toArray, List.set_cons_succ, List.set_cons_zero, List.getElem_toArray, List.getElem_cons_succ, List.getElem_cons_zero])
          go_wp2_with fail
          have HK4 := Lib.hid (ONE.out y4 (HBX.out.trans HP6.out.box.symm))
          (first | refine ⟨fun _ => ⟨_, keepS_of HK4.out⟩, ?_⟩ | refine ⟨⟨_, keepS_of HK4.out⟩, ?_⟩)
          have c2 := row_of HBX.out 2 av rfl
          have f2 := frozen_of_row y4 pb 2 _ _ HBX.out
          refine mix_tail [11, 12] [_, _] _ _ rfl rfl ?_
          simp only [Act.put, List.setIfInBounds_toArray, List.set_cons_succ, List.set_cons_zero, List.getElem_toArray, List.getElem_cons_succ, List.getElem_cons_zero]
          go_wp2_with fail
          clear c2 f2
          rw [HNS.out] at HIN2
          go_roundw
          case rel => exact ⟨i + 1, _, A ++ [⟨ns, 1 + (v4 : Int)⟩], l4, by omega, by go_num, by simp [hAl], HIN2, (by have h := HPy5.out; rw [hAl] at h; exact h)⟩
          case measure => simp [intOf]; omega
          --]]
        · have hlt1 : ¬ (i : Int) < (v3 : Int) := by omega
          --<<REST
          obtain rfl : i = v3 := by omega
          have HA : Hid (timesS arrOne i 0 [] l3 = (A, lc)) := by show _ = _; rw [HIN.out, Nat.sub_self]; rfl
          have hAl2 : A.length ≤ 2 := by omega
          have HCL : Hid (C.length = 1 + v2) := by show _ = _; rw [HC.out]; simp
          clear HIN hAl
          obtain ⟨v5, hv⟩ : ∃ x, (takeS 3 lc).1 = x := ⟨_, rfl⟩
          obtain ⟨l5, hl5⟩ : ∃ x, (takeS 3 lc).2 = x := ⟨_, rfl⟩
          have hvl5 : v5 < 3 := by rw [← hv]; exact take_small 3 lc (by omega)
          have ht := take_any (r + 1) lc 3 w6 HP6.out.src (by omega) (by omega)
          rw [hv, hl5] at ht
          have HT := Lib.hid ht
          have HX5 : Hid (takeS 3 lc = (v5, l5)) := (by show _ = _; rw [← hv, ← hl5])
          clear ht hv hl5
          go_upto_region 14 with (go_at_call 21; refine HT.out.mono ?_; rintro e w7 ⟨rfl, hs1, ht1⟩; have HP7 := Lib.hid (HP6.out.bytes (by omega) ht1 hs1); clear hs1 ht1)
          clear HT HP6
          obtain ⟨iF, hiF, hzF0, hzF1, hzF2⟩ := info_parts infoFunS
          go_loopw [7, 8, 9, 10, 54] (fun _ _ _ _ v wr => ∃ (j : Nat) (fv : Value) (F : List (FuncD × Value × Value)) (lf : List UInt8), j ≤ v5 ∧ v = .int .i64 j ∧ F.length = j ∧ Hid (funcsS A.length C.length v5 [] l5 = funcsS A.length C.length (v5 - j) (F.map Prod.fst) lf) ∧ (∀ q ∈ F, q.1.params.length ≤ 100) ∧ PSt w pb (r + 1) r (1 + (v1 : Int)) wr cv av fv C A F lf) (fun _ _ _ _ v _ => v5 - (intOf v).toNat)
          case atStart => exact ⟨0, _, [], l5, Nat.zero_le _, rfl, rfl, rfl, (fun q hq => by simp at hq), HP7.out⟩
          case round =>
            obtain ⟨j, fv, F, lf, hj, rfl, hFl, HFN, hFP, hp⟩ := hrel
            obtain ⟨w8, rfl⟩ : ∃ x : World, x = wr := ⟨_, rfl⟩
            have HP8 := Lib.hid hp
            have HFL := Lib.hid hFl
            have HFP := Lib.hid hFP
            clear hp hFl hFP
            by_cases hlt : j < v5
            · have hlt1 : (j : Int) < (v5 : Int) := by omega
              --[[ func
              have hsw8 : r + 1 < w8.heap.size := HP8.out.src.lt
              obtain ⟨ns, hns⟩ : ∃ y, nmS 102 j = y := ⟨_, rfl⟩
              have hN := name_any 102 j (by omega) w8.heap.size _ (heap_alloc_new w8 (.cells #[.int .i64 (j : Nat)] 3))
              rw [hns] at hN
              have HN := Lib.hid hN
              have HNS := Lib.hid hns
              have HZ : Hid (∀ z : World, w8.alloc (.cells #[.int .i64 (j : Nat)] 3) = z → Below w8.heap.size w8 z) := by
                rintro z rfl
                exact (Below.refl _ _).alloc (Nat.le_refl _) _
              clear hN hns
              go_upto_region 17 with (first | (go_at_call 22; refine HN.out.mono ?_; rintro e z ⟨rfl, hz⟩; have HBZ := Lib.hid (HZ.out z hz); have HZN := Lib.hid (heap_alloc_new z (.cells #[.string ⟨#[]⟩, .slice none 0 0, .slice none 0 0, .int .i64 0, .int .i64 0] 56)); clear hz) | (refine wpList_store_row rfl 56 (.tmp 8) (.tmp 60) rfl z.heap.size #[.string ns, .slice none 0 0, .slice none 0 0, .int .i64 0, .int .i64 0] rfl rfl 56 #[.string ⟨#[]⟩, .slice none 0 0, .slice none 0 0, .int .i64 0, .int .i64 0] ?hf1 (by as_aux_lemma => kernel_rfl) (by as_aux_lemma => kernel_rfl) (by as_aux_lemma => kernel_rfl) ?_; exact HZN.out))
              have hb9 := below_row (HBZ.out.alloc HBZ.out.size (.cells #[.string ⟨#[]⟩, .slice none 0 0, .slice none 0 0, .int .i64 0, .int .i64 0] 56)) HBZ.out.size #[.string ns, .slice none 0 0, .slice none 0 0, .int .i64 0, .int .i64 0]
              have HF9 : Hid (FSt w8 (r + 1) z.heap.size ((z.alloc (.cells #[.string ⟨#[]⟩, .slice none 0 0, .slice none 0 0, .int .i64 0, .int .i64 0] 56)).setRow z.heap.size #[.string ns, .slice none 0 0, .slice none 0 0, .int .i64 0, .int .i64 0]) ns (.slice none 0 0) [] lf) := ⟨setRow_heap _ _ _ _ _ _ HZN.out, (hb9.block _ hsw8).trans HP8.out.src, World.ownsRow_nil _ _ _ _, Trn.of_below hb9, HBZ.out.size, hsw8⟩
              try simp only [Act.put]
              have hfb8 : w8.heap.size ≤ z.heap.size := HBZ.out.size
              clear hb9 HZN HBZ HN HZ
              generalize z.heap.size = fb at *
              generalize (z.alloc (.cells #[.string ⟨#[]⟩, .slice none 0 0, .slice none 0 0, .int .i64 0, .int .i64 0] 56)).setRow fb #[.string ns, .slice none 0 0, .slice none 0 0, .int .i64 0, .int .i64 0] = w9 at *
              obtain ⟨np, hv⟩ : ∃ x, (takeS 3 lf).1 = x := ⟨_, rfl⟩
              obtain ⟨l7, hl7⟩ : ∃ x, (takeS 3 lf).2 = x := ⟨_, rfl⟩
              have hnp : np < 3 := by rw [← hv]; exact take_small 3 lf (by omega)
              have ht := take_any (r + 1) lf 3 w9 HF9.out.src (by omega) (by omega)
              rw [hv, hl7] at ht
              have HT := Lib.hid ht
              have HX7 : Hid (takeS 3 lf = (np, l7)) := (by show _ = _; rw [← hv, ← hl7])
              clear ht hv hl7
              go_upto_region 18 with (go_at_call 21; refine HT.out.mono ?_; rintro e w10 ⟨rfl, hs1, ht1⟩; have HF10 := Lib.hid (HF9.out.bytes ht1 hs1); clear hs1 ht1)
              clear HT HF9
              go_loopw [9, 63] (fun _ v wr => ∃ (k : Nat) (pv : Value), k ≤ np ∧ v = .int .i64 k ∧ FSt w8 (r + 1) fb wr ns pv ((List.range k).map (nmS 112)) l7) (fun _ v _ => np - (intOf v).toNat)
              case atStart => exact ⟨0, _, Nat.zero_le _, rfl, HF10.out⟩
              case round =>
                obtain ⟨k, pv, hk, rfl, hf⟩ := hrel
                obtain ⟨w11, rfl⟩ : ∃ x : World, x = wr := ⟨_, rfl⟩
                have HF11 := Lib.hid hf
                clear hf
                by_cases hltp : k < np
                · have hlt2 : (k : Int) < (np : Int) := by omega
                  --[[ params
                  go_upto_region 20 with fail
                  have q1 := keepS_cell (S := [fb]) (by simp) (row_of HF11.out.box 1 pv rfl)
                  refine wp_region_mixS [fb] (.one [0, 1, 2] 3 (.one [] 4 (.one [] 5 (.one [] 6 (tailOf [7, 8]))))) (fun j => decide (7 ≤ j)) (by kernel_rfl) (by kernel_rfl) rfl (by kernel_rfl) (fun _ d _ _ _ h => by cases d <;> exact h) ?_
                  have HBd : Hid (Below w11.heap.size w11 w11.drew) := (Below.refl _ _).drew
                  generalize w11.drew = y0 at *
                  have hpx := (Array.getElem?_eq_some_iff.1 HF11.out.box).1
                  have ONE : Hid (∀ z : World, z.heap[fb]? = w11.heap[fb]? → ∀ b ∈ [fb], z.heap[b]? = w11.heap[b]?) := fun z hz b hb => by
                    simp only [List.mem_cons, List.not_mem_nil, or_false] at hb
                    subst hb
                    exact hz
                  have HKn := Lib.hid (ONE.out y0 (HBd.out.block _ hpx))
                  refine mix_one (by simp only [opsOf, List.filterMap_cons, List.filterMap_nil, List.getElem?_toArray, List.getElem?_cons_succ, List.getElem?_cons_zero]; rfl) ⟨_, keepS_of HKn.out⟩ ?_
                  change wpQuiet _ _ _ _ [_, _, _] _
                  (repeat (go_big_quiet_step (fail)))
                  clear q1
                  refine wpQuiet_nil ?_
                  refine mix_step rfl ?_
                  go_wp2_with fail
                  obtain ⟨ps, hps⟩ : ∃ y, nmS 112 k = y := ⟨_, rfl⟩
                  have hal := (Below.refl y0.heap.size y0).alloc (Nat.le_refl _) (.cells #[.int .i64 (k : Nat)] 3)
                  have hN := name_any 112 k (by omega) y0.heap.size _ (heap_alloc_new y0 (.cells #[.int .i64 (k : Nat)] 3))
                  rw [hps] at hN
                  have HN := Lib.hid hN
                  have HB1 := Lib.hid (bcomp HBd.out hal)
                  have HK1 := Lib.hid (ONE.out (y0.alloc (.cells #[.int .i64 (k : Nat)] 3)) (HB1.out.block _ hpx))
                  have HPS := Lib.hid hps
                  clear hal hN hps
                  (first | refine ⟨fun _ => ⟨_, keepS_of HK1.out⟩, ?_⟩ | refine ⟨⟨_, keepS_of HK1.out⟩, ?_⟩)
                  refine mix_now ?_
                  refine mix_step rfl ?_
                  go_wp2_with (go_at_call 22; refine HN.out.mono ?_; rintro e z ⟨rfl, rfl⟩)
                  (first | refine ⟨fun _ => ⟨_, keepS_of HK1.out⟩, ?_⟩ | refine ⟨⟨_, keepS_of HK1.out⟩, ?_⟩)
                  generalize y0.alloc (.cells #[.int .i64 (k : Nat)] 3) = y1 at *
                  refine mix_now ?_
                  refine mix_step rfl ?_
                  go_wp2_with fail
                  have hal := (Below.refl y1.heap.size y1).alloc (Nat.le_refl _) (.cells #[.string ps] 9)
                  have hnw := heap_alloc_new y1 (.cells #[.string ps] 9)
                  have HB2 := Lib.hid (bcomp HB1.out hal)
                  have HK2 := Lib.hid (ONE.out (y1.alloc (.cells #[.string ps] 9)) (HB2.out.block _ hpx))
                  obtain ⟨g2, hg2⟩ : ∃ x, y1.heap.size = x := ⟨_, rfl⟩
                  rw [hg2] at hnw
                  try rw [hg2]
                  have HF2 := Lib.hid hnw
                  clear hal hnw hg2
                  generalize y1.alloc (.cells #[.string ps] 9) = y2 at *
                  (first | refine ⟨fun _ => ⟨_, keepS_of HK2.out⟩, ?_⟩ | refine ⟨⟨_, keepS_of HK2.out⟩, ?_⟩)
                  have HP5 := Lib.hid (HF11.out.later HB2.out)
                  have hfy2 : fb ≤ y2.heap.size := by have := HB2.out.size; omega
                  refine mix_now ?_
                  refine mix_step rfl ?_
                  try (simp only [Act.put, List.setIfInBounds_toArray, List.set_cons_succ, List.set_cons_zero, List.getElem_toArray, List.getElem_cons_succ, List.getElem_cons_zero])
                  refine wpList_append_own_at _ rfl (.tmp 67) (.tmp 71) 23 rfl fb 9 iS (.string ⟨#[]⟩) 1 16 Tryz.underlying23 hiS hzS0 hzS1 hzS2 rfl (by decide) _ _ _ rfl HP5.out.op ⟨g2, 0, none⟩ 1 1 [.string ps] rfl rfl ?qa1 ?qb1 ?qc1 ?qd1 hfy2 ?_
                  case qa1 => exact row_news (xs := [.string ps]) HF2.out
                  case qb1 => intro u hu; simp only [List.mem_cons, List.not_mem_nil, or_false] at hu; subst hu; rfl
                  case qc1 => simp only [List.length_map, List.length_range]; unfold maxLen; omega
                  case qd1 => simp only [List.length_map, List.length_range]; omega
                  intro v' y3 hown' hgrow _ hblk
                  obtain ⟨xa, xc, rfl, _⟩ := own_read hown'
                  have hbx3 := (Trn.of_grown (S := fun b => pv.ownBlock = some b) hgrow (fun b e => e)).heap HP5.out.box (not_own HP5.out.op HP5.out.box (by decide))
                  have HBX := Lib.hid hbx3
                  have HP6 := Lib.hid (HP5.out.par hgrow hown')
                  clear hown' hgrow hblk hbx3
                  try (simp only [Act.put, List.setIfInBounds_toArray, List.set_cons_succ, List.set_cons_zero, List.getElem_toArray, List.getElem_cons_succ, List.getElem_cons_zero])
                  go_wp2_with fail
                  have HK3 := Lib.hid (ONE.out y3 (HBX.out.trans HF11.out.box.symm))
                  (first | refine ⟨fun _ => ⟨_, keepS_of HK3.out⟩, ?_⟩ | refine ⟨⟨_, keepS_of HK3.out⟩, ?_⟩)
                  have c1 := row_of HBX.out 1 pv rfl
                  have f1 := frozen_of_row y3 fb 1 _ _ HBX.out
                  refine mix_tail [7, 8] [_, _] _ _ rfl rfl ?_
                  simp only [Act.put, List.setIfInBounds_toArray, List.set_cons_succ, List.set_cons_zero, List.getElem_toArray, List.getElem_cons_succ, List.getElem_cons_zero]
                  go_wp2_with fail
                  clear c1 f1
                  go_roundw
                  case rel => exact ⟨k + 1, _, by omega, by go_num, by
                    have h := HP6.out
                    rw [← HPS.out] at h
                    simp only [List.length_map, List.length_range] at h
                    rw [List.range_succ, List.map_append]
                    exact h⟩
                  case measure => simp [intOf]; omega
                  --]]
                · have hlt2 : ¬ (k : Int) < (np : Int) := by omega
                  obtain ⟨K, hK⟩ : ∃ K, (List.range k).map (nmS 112) = K := ⟨_, rfl⟩
                  have HKE : Hid (K = (List.range np).map (nmS 112)) := by show _ = _; rw [← hK, show k = np by omega]
                  have hKl : K.length ≤ 2 := by rw [← hK]; simp; omega
                  rw [hK] at HF11
                  clear hK
                  have HPW := Lib.hid (HP8.out.bytes (by omega) HF11.out.tr HF11.out.src)
                  obtain ⟨pa, pc, rfl, -⟩ := own_read HF11.out.op
                  have hpk : ∀ b, (Value.slice pa K.length pc).ownBlock = some b → b < w11.heap.size := fun b hb => own_lt HF11.out.op hb
                  have HPK := Lib.hid hpk
                  have hfb11 : fb < w11.heap.size := (Array.getElem?_eq_some_iff.1 HF11.out.box).1
                  have hsw11 : r + 1 < w11.heap.size := HF11.out.src.lt
                  have hal := (Below.refl w11.heap.size w11).alloc (Nat.le_refl _) (.cells #[.pointer (some ⟨r + 1, 0, none⟩), .pointer (some ⟨pb, 0, none⟩), .int .i64 (K.length : Nat), .int .i64 (j : Nat), .bool false, .slice none 0 0, .slice none 0 0, .int .u8 0, .int .u8 0, .string ⟨#[]⟩, .string ⟨#[]⟩, .slice none 0 0, .int .i64 0, .int .i64 0, .int .i64 0] 88)
                  have HM12 : Hid (MkAt (w11.alloc (.cells #[.pointer (some ⟨r + 1, 0, none⟩), .pointer (some ⟨pb, 0, none⟩), .int .i64 (K.length : Nat), .int .i64 (j : Nat), .bool false, .slice none 0 0, .slice none 0 0, .int .u8 0, .int .u8 0, .string ⟨#[]⟩, .string ⟨#[]⟩, .slice none 0 0, .int .i64 0, .int .i64 0, .int .i64 0] 88)) w11.heap.size (r + 1) pb K.length j false (.slice none 0 0) (.slice none 0 0) 0 0 ⟨#[]⟩ ⟨#[]⟩ (.slice none 0 0) 0) := heap_alloc_new w11 _
                  obtain ⟨E, hEd⟩ : ∃ E : EnvS, (⟨A.length, C.length, K.length, F.map fun q => q.1.params.length, false⟩ : EnvS) = E := ⟨_, rfl⟩
                  have HEP : Hid (E.par = K.length) := by show _ = _; rw [← hEd]
                  have HEF : Hid (E.calls.length = j) := by show _ = _; rw [← hEd]; simp [HFL.out]
                  have HEM : Hid (E.main = false) := by show _ = _; rw [← hEd]
                  have hcl2 : C.length ≤ 100 := by have := HCL.out; omega
                  have hcl1 : 1 ≤ C.length := by have := HCL.out; omega
                  have hfl2 : F.length ≤ 100 := by have := HFL.out; omega
                  have HEO : Hid (EnvOk E) := by
                    show EnvOk E
                    rw [← hEd]
                    exact ⟨by show A.length ≤ 100; omega, hcl2, by show K.length ≤ 100; omega, by simpa using hfl2, fun n hn => by
                      obtain ⟨q, hq, rfl⟩ := List.mem_map.1 hn
                      exact HFP.out q hq⟩
                  have he12 := HPW.out.env (z := w11.alloc (.cells #[.pointer (some ⟨r + 1, 0, none⟩), .pointer (some ⟨pb, 0, none⟩), .int .i64 (K.length : Nat), .int .i64 (j : Nat), .bool false, .slice none 0 0, .slice none 0 0, .int .u8 0, .int .u8 0, .string ⟨#[]⟩, .string ⟨#[]⟩, .slice none 0 0, .int .i64 0, .int .i64 0, .int .i64 0] 88)) (par := K.length) (mn := false) hal (Nat.le_refl _) (Nat.lt_succ_self _) hcl1 hcl2 (by omega) hfl2 HFP.out
                  rw [hEd] at he12
                  have HE12 := Lib.hid he12
                  have HF12 := Lib.hid (HF11.out.later hal)
                  have hsz12 : w11.heap.size + 1 ≤ (w11.alloc (.cells #[.pointer (some ⟨r + 1, 0, none⟩), .pointer (some ⟨pb, 0, none⟩), .int .i64 (K.length : Nat), .int .i64 (j : Nat), .bool false, .slice none 0 0, .slice none 0 0, .int .u8 0, .int .u8 0, .string ⟨#[]⟩, .string ⟨#[]⟩, .slice none 0 0, .int .i64 0, .int .i64 0, .int .i64 0] 88)).heap.size := by simp
                  have HED := Lib.hid hEd
                  have hq1 := row_of HF11.out.box 1 (.slice pa K.length pc) rfl
                  clear hal he12 hEd hpk hcl1 hcl2 hfl2
                  go_upto_region 23 with fail
                  clear hq1
                  generalize w11.alloc (.cells #[.pointer (some ⟨r + 1, 0, none⟩), .pointer (some ⟨pb, 0, none⟩), .int .i64 (K.length : Nat), .int .i64 (j : Nat), .bool false, .slice none 0 0, .slice none 0 0, .int .u8 0, .int .u8 0, .string ⟨#[]⟩, .string ⟨#[]⟩, .slice none 0 0, .int .i64 0, .int .i64 0, .int .i64 0] 88) = w12 at *
                  clear HF11
                  generalize w11.heap.size = m at *
                  obtain ⟨nm, hv⟩ : ∃ x, (takeS 7 l7).1 = x := ⟨_, rfl⟩
                  obtain ⟨l8, hl8⟩ : ∃ x, (takeS 7 l7).2 = x := ⟨_, rfl⟩
                  have hnm : nm < 7 := by rw [← hv]; exact take_small 7 l7 (by omega)
                  have ht := take_any (r + 1) l7 7 w12 HF12.out.src (by omega) (by omega)
                  rw [hv, hl8] at ht
                  have HT := Lib.hid ht
                  have HX8 : Hid (takeS 7 l7 = (nm, l8)) := (by show _ = _; rw [← hv, ← hl8])
                  clear ht hv hl8
                  go_upto_region 24 with (go_at_call 21; refine HT.out.mono ?_; rintro e w13 ⟨rfl, hs1, ht1⟩; have HF13 := Lib.hid (HF12.out.bytes ht1 hs1); have HM13 : Hid (MkAt w13 m (r + 1) pb K.length j false (.slice none 0 0) (.slice none 0 0) 0 0 ⟨#[]⟩ ⟨#[]⟩ (.slice none 0 0) 0) := (ht1.heap HM12.out (fun e => by have e' : m = r + 1 := e; omega)); have HE13 := Lib.hid (HE12.out.trn (ht1.mono fun i h => .inr (.inl h))); have hsz13 : m + 1 ≤ w13.heap.size := Nat.le_trans hsz12 ht1.size; clear hs1 ht1)
                  clear HT HF12 HM12 HE12
                  go_loopw [84] (fun v wr => ∃ (ii : Nat) (c : List (InstrD × Int)) (tv cv : Value) (k0 o0 : Int) (d0 n0 : ByteArray) (av0 : Value) (t0 : Int) (lq : List UInt8), ii ≤ nm ∧ v = .int .i64 ii ∧ c.length = ii ∧ (∀ x ∈ c, GoodI x) ∧ Hid (codeS E nm [] l8 = codeS E (nm - ii) c lq) ∧ MkAt wr m (r + 1) pb K.length j false tv cv k0 o0 d0 n0 av0 t0 ∧ CodeAt wr (m + 1) cv tv c ∧ FSt w8 (r + 1) fb wr ns (.slice pa K.length pc) K lq ∧ Trn (mS m (r + 1) (m + 1)) w13 wr) (fun v _ => nm - (intOf v).toNat)
                  case atStart => exact ⟨0, [], _, _, _, _, _, _, _, _, l8, Nat.zero_le _, rfl, rfl, (fun x hx => by simp at hx), rfl, HM13.out, code_nil _ _, HF13.out, Trn.refl _ _⟩
                  case round =>
                    obtain ⟨ii, c, tv, cv2, k0, o0, d0, n0, av0, t0, lq, hii, rfl, hcl, hgood, HCI, hmk, hco, hft, htr⟩ := hrel
                    obtain ⟨w14, rfl⟩ : ∃ x : World, x = wr := ⟨_, rfl⟩
                    have HMK := Lib.hid hmk
                    have HCO := Lib.hid hco
                    have HFT := Lib.hid hft
                    have HTR := Lib.hid htr
                    have HGO := Lib.hid hgood
                    have HCLN := Lib.hid hcl
                    have hc6 : c.length ≤ 7 := by omega
                    have hsz14 : m + 1 ≤ w14.heap.size := Nat.le_trans hsz13 htr.size
                    clear hmk hco hft htr hgood hcl
                    by_cases hltn : ii < nm
                    · have hlt3 : (ii : Int) < (nm : Int) := by omega
                      --[[ one
                      have HONE := Lib.hid (one_any m (r + 1) pb K.length j false tv cv2 (m + 1) k0 o0 d0 n0 av0 t0 c lq E w14 HMK.out HCO.out (by omega) HFT.out.src (by omega) (by omega) (by omega) hsz14 (by omega) HEP.out HEF.out HEM.out (HE13.out.trn HTR.out))
                      go_wp2_with (go_at_call 33; refine HONE.out.mono ?_; rintro e w15 ⟨rfl, tv5, cv5, k5, o5, d5, n5, av5, t5, hm5, hc5, hs5, ht5⟩; have HM5 := Lib.hid hm5; have HC5 := Lib.hid hc5; have HF5 := Lib.hid (HFT.out.made ht5 hs5 hfb11 (Nat.lt_succ_self _) HPK.out); have HT5 := Lib.hid (HTR.out.trans ht5); clear hm5 hc5 hs5 ht5)
                      go_roundw
                      case rel => exact ⟨ii + 1, c ++ [(instrS E c.length lq).1], tv5, cv5, k5, o5, d5, n5, av5, t5, _, by omega, by go_num, by simp [HCLN.out], (fun x hx => by
                        rcases List.mem_append.1 hx with hx | hx
                        · exact HGO.out x hx
                        · rw [List.mem_singleton] at hx; subst hx; exact good_instr HEO.out c.length (by omega) lq), (by
                        show _ = _
                        rw [HCI.out, show nm - ii = (nm - (ii + 1)) + 1 by omega]
                        rfl), HM5.out, HC5.out, HF5.out, HT5.out⟩
                      case measure => simp [intOf]; omega
                      --]]
                    · have hlt3 : ¬ (ii : Int) < (nm : Int) := by omega
                      have HCD : Hid (codeS E nm [] l8 = (c, lq)) := by show _ = _; rw [HCI.out, show nm - ii = 0 by omega]; rfl
                      have HLAB := Lib.hid (labelled_any m (r + 1) pb K.length j false tv cv2 (m + 1) k0 o0 d0 n0 av0 t0 c w14 HMK.out HCO.out (by omega) (by omega) hsz14 HGO.out)
                      clear HCI
                      go_upto_region 28 with (go_at_call 34; refine HLAB.out.mono ?_; rintro e w15 ⟨lv, rfl, hli, htr⟩; obtain ⟨la, lc2, rfl, -⟩ := id hli; have HLI := Lib.hid hli; have HTL := Lib.hid htr; have HF15 := Lib.hid (HFT.out.made (htr.mono fun x hx => .inr (.inr hx)) (htr.heap HFT.out.src (by show ¬ m + 1 ≤ r + 1; omega)) hfb11 (Nat.lt_succ_self _) HPK.out); have c2 := row_of HF15.out.box 2 (.slice none 0 0) rfl; have f2 := frozen_of_row w15 fb 2 _ _ HF15.out.box; clear hli htr)
                      clear c2 f2
                      obtain ⟨x1, x2, x3, x4⟩ := HF15.out.code (.slice la (labelledS c).length lc2)
                      have HX1 := Lib.hid x1
                      have HX3 := Lib.hid x3
                      have HP16 := Lib.hid (HP8.out.bytes (by omega) x4 x2)
                      have HLI2 : Hid (RdInstrs (some (upFrom r)) (w15.setCell ⟨fb, 2, none⟩ (.slice la (labelledS c).length lc2)) (.slice la (labelledS c).length lc2) (labelledS c)) := RdInstrs.same HLI.out (fun b hb _ => heap_setCell_other w15 ⟨fb, 2, none⟩ b _ (by have e : m + 1 ≤ b := hb; show ¬ b = fb; omega)) (fun b _ hb => by have e : m + 1 ≤ b := hb; show r ≤ b; omega)
                      clear x1 x2 x3 x4
                      generalize w15.setCell ⟨fb, 2, none⟩ (.slice la (labelledS c).length lc2) = w16 at *
                      clear HLI HTL HF15 HLAB
                      obtain ⟨fd, hfd⟩ : ∃ q : FuncD, (⟨ns, K, labelledS c, 0, 0⟩ : FuncD) = q := ⟨_, rfl⟩
                      have HFD := Lib.hid hfd
                      have hal := (Below.refl w16.heap.size w16).alloc (Nat.le_refl _) (.cells (funCells (⟨ns, K, labelledS c, 0, 0⟩, .slice pa K.length pc, .slice la (labelledS c).length lc2)).toArray 56)
                      have HP17 := Lib.hid (HP16.out.later hal)
                      have HRF : Hid (RdFunc (some (upFrom r)) (w16.alloc (.cells (funCells (⟨ns, K, labelledS c, 0, 0⟩, .slice pa K.length pc, .slice la (labelledS c).length lc2)).toArray 56)) ⟨ns, K, labelledS c, 0, 0⟩ (.slice pa K.length pc) (.slice la (labelledS c).length lc2)) := by
                        refine ⟨own_strs (l := K) (own_below (own_upS HX3.out (by omega)) hal) (by omega) (fun s hs => ?_), HLI2.out.keep hal, by unfold InI64; simp, by unfold InI64; simp, ?_⟩
                        · rw [HKE.out] at hs
                          obtain ⟨y, hy, rfl⟩ := List.mem_map.1 hs
                          have hy2 : y < np := by simpa using hy
                          have h := nm_ok 112 (n := y) (by omega)
                          unfold NmOk at h
                          unfold maxLen
                          omega
                        · show ns.size ≤ maxLen
                          rw [← HNS.out]
                          have h := nm_ok 102 (n := j) (by omega)
                          unfold NmOk at h
                          unfold maxLen
                          omega
                      have p3 := row_of HP16.out.box 3 fv rfl
                      have p30 := row_of HX1.out 0 _ rfl
                      have p31 := row_of HX1.out 1 _ rfl
                      have p32 := row_of HX1.out 2 _ rfl
                      have p33 := row_of HX1.out 3 _ rfl
                      have p34 := row_of HX1.out 4 _ rfl
                      clear hal hfd
                      go_wp2_with (at_builtin; refine wpList_append_own _ rfl (.tmp 93) (.tmp 95) 25 rfl r 56 iF (.agg #[.string ⟨#[]⟩, .slice none 0 0, .slice none 0 0, .int .i64 0, .int .i64 0]) 5 80 Tryz.underlying25 hiF hzF0 hzF1 hzF2 rfl (by decide) _ _ _ rfl HP17.out.of ⟨w16.heap.size, 0, none⟩ 1 1 (funCells (⟨ns, K, labelledS c, 0, 0⟩, .slice pa K.length pc, .slice la (labelledS c).length lc2)) rfl rfl (many_new _ _ _) ?fa1 ?fa2 ?fa3 ?fa4 ?_)
                      case fa1 => intro u hu; simp [funCells] at hu; rcases hu with rfl | rfl | rfl | rfl | rfl <;> rfl
                      case fa2 => have := HFL.out; unfold maxLen; omega
                      case fa3 => have := HFL.out; omega
                      case fa4 => exact Nat.le_trans HP17.out.hb0 HP17.out.below.size
                      · intro v' w18 hown' hgrow _
                        obtain ⟨xa, xc, rfl, _⟩ := own_read hown'
                        have hbx3 := (Trn.of_grown (S := fun b => fv.ownBlock = some b) hgrow (fun b e => e)).heap HP17.out.box (not_own HP17.out.of HP17.out.box (by decide))
                        have HP19 := Lib.hid (HP17.out.func hgrow hown' HRF.out)
                        have c3 := row_of hbx3 3 fv rfl
                        have f3 := frozen_of_row w18 pb 3 _ _ hbx3
                        clear hown' hgrow hbx3 p3 p30 p31 p32 p33 p34
                        go_wp2_with fail
                        clear c3 f3
                        go_roundw
                        case rel => exact ⟨j + 1, _, F ++ [(⟨ns, K, labelledS c, 0, 0⟩, .slice pa K.length pc, .slice la (labelledS c).length lc2)], lq, by omega, by go_num, by simp [HFL.out], (by
                          show _ = _
                          rw [HFN.out, show v5 - j = (v5 - (j + 1)) + 1 by omega, funcs_step HX7.out HX8.out (E := E) (by rw [← HED.out, List.map_map, show K.length = np by rw [HKE.out]; simp]; rfl) HCD.out, List.map_append, List.length_map, HFL.out, HNS.out, ← HKE.out]
                          rfl), (fun q hq => by
                          rcases List.mem_append.1 hq with hq | hq
                          · exact HFP.out q hq
                          · rw [List.mem_singleton] at hq; subst hq; show K.length ≤ 100; omega), (by have h := HP19.out; simpa [HFL.out] using h)⟩
                        case measure => simp [intOf]; omega
              --]]
            · have hlt1 : ¬ (j : Int) < (v5 : Int) := by omega
              obtain rfl : j = v5 := by omega
              have HFE : Hid (funcsS A.length C.length j [] l5 = (F.map Prod.fst, lf)) := by show _ = _; rw [HFN.out, Nat.sub_self]; rfl
              clear HFN
              obtain ⟨fa, fc, rfl, -⟩ := own_read HP8.out.of
              have hsw8 : r + 1 < w8.heap.size := HP8.out.src.lt
              have hpw8 : pb < w8.heap.size := (Array.getElem?_eq_some_iff.1 HP8.out.box).1
              have hal := (Below.refl w8.heap.size w8).alloc (Nat.le_refl _) (.cells #[.pointer (some ⟨r + 1, 0, none⟩), .pointer (some ⟨pb, 0, none⟩), .int .i64 0, .int .i64 (F.length : Nat), .bool true, .slice none 0 0, .slice none 0 0, .int .u8 0, .int .u8 0, .string ⟨#[]⟩, .string ⟨#[]⟩, .slice none 0 0, .int .i64 0, .int .i64 0, .int .i64 0] 88)
              have HM12 : Hid (MkAt (w8.alloc (.cells #[.pointer (some ⟨r + 1, 0, none⟩), .pointer (some ⟨pb, 0, none⟩), .int .i64 0, .int .i64 (F.length : Nat), .bool true, .slice none 0 0, .slice none 0 0, .int .u8 0, .int .u8 0, .string ⟨#[]⟩, .string ⟨#[]⟩, .slice none 0 0, .int .i64 0, .int .i64 0, .int .i64 0] 88)) w8.heap.size (r + 1) pb 0 F.length true (.slice none 0 0) (.slice none 0 0) 0 0 ⟨#[]⟩ ⟨#[]⟩ (.slice none 0 0) 0) := heap_alloc_new w8 _
              obtain ⟨E, hEd⟩ : ∃ E : EnvS, (⟨A.length, C.length, 0, F.map fun q => q.1.params.length, true⟩ : EnvS) = E := ⟨_, rfl⟩
              have HEP : Hid (E.par = 0) := by show _ = _; rw [← hEd]
              have HEF : Hid (E.calls.length = F.length) := by show _ = _; rw [← hEd]; simp
              have HEM : Hid (E.main = true) := by show _ = _; rw [← hEd]
              have hcl2 : C.length ≤ 100 := by have := HCL.out; omega
              have hcl1 : 1 ≤ C.length := by have := HCL.out; omega
              have hfl2 : F.length ≤ 100 := by have := HFL.out; omega
              have HEO : Hid (EnvOk E) := by
                show EnvOk E
                rw [← hEd]
                exact ⟨by show A.length ≤ 100; omega, hcl2, by show 0 ≤ 100; omega, by simpa using hfl2, fun n hn => by
                  obtain ⟨q, hq, rfl⟩ := List.mem_map.1 hn
                  exact HFP.out q hq⟩
              have he12 := HP8.out.env (z := w8.alloc (.cells #[.pointer (some ⟨r + 1, 0, none⟩), .pointer (some ⟨pb, 0, none⟩), .int .i64 0, .int .i64 (F.length : Nat), .bool true, .slice none 0 0, .slice none 0 0, .int .u8 0, .int .u8 0, .string ⟨#[]⟩, .string ⟨#[]⟩, .slice none 0 0, .int .i64 0, .int .i64 0, .int .i64 0] 88)) (par := 0) (mn := true) hal (Nat.le_refl _) (Nat.lt_succ_self _) hcl1 hcl2 (by omega) hfl2 HFP.out
              rw [hEd] at he12
              have HE12 := Lib.hid he12
              have HS12 : Hid (SrcAt (w8.alloc (.cells #[.pointer (some ⟨r + 1, 0, none⟩), .pointer (some ⟨pb, 0, none⟩), .int .i64 0, .int .i64 (F.length : Nat), .bool true, .slice none 0 0, .slice none 0 0, .int .u8 0, .int .u8 0, .string ⟨#[]⟩, .string ⟨#[]⟩, .slice none 0 0, .int .i64 0, .int .i64 0, .int .i64 0] 88)) (r + 1) lf) := (hal.block _ hsw8).trans HP8.out.src
              have hsz12 : w8.heap.size + 1 ≤ (w8.alloc (.cells #[.pointer (some ⟨r + 1, 0, none⟩), .pointer (some ⟨pb, 0, none⟩), .int .i64 0, .int .i64 (F.length : Nat), .bool true, .slice none 0 0, .slice none 0 0, .int .u8 0, .int .u8 0, .string ⟨#[]⟩, .string ⟨#[]⟩, .slice none 0 0, .int .i64 0, .int .i64 0, .int .i64 0] 88)).heap.size := by simp
              have HB12 := Lib.hid hal
              have HED := Lib.hid hEd
              have hq3 := row_of HP8.out.box 3 (.slice fa F.length fc) rfl
              clear hal he12 hEd
              go_upto_region 31 with fail
              clear hq3
              generalize w8.alloc (.cells #[.pointer (some ⟨r + 1, 0, none⟩), .pointer (some ⟨pb, 0, none⟩), .int .i64 0, .int .i64 (F.length : Nat), .bool true, .slice none 0 0, .slice none 0 0, .int .u8 0, .int .u8 0, .string ⟨#[]⟩, .string ⟨#[]⟩, .slice none 0 0, .int .i64 0, .int .i64 0, .int .i64 0] 88) = w12 at *
              obtain ⟨m, hmd⟩ : ∃ x, w8.heap.size = x := ⟨_, rfl⟩
              rw [hmd] at HM12 HE12 hsz12 hsw8 hpw8
              try rw [hmd]
              have HMD := Lib.hid hmd
              clear hmd
              go_loopg [] 20 (fun gk wr => ∃ (c : List (InstrD × Int)) (tv cv : Value) (k0 o0 : Int) (d0 n0 : ByteArray) (av0 : Value) (t0 : Int) (lq : List UInt8), gk + c.length = 20 ∧ (∀ x ∈ c, GoodI x) ∧ Hid (mainS E 20 [] lf = mainS E gk c lq) ∧ MkAt wr m (r + 1) pb 0 F.length true tv cv k0 o0 d0 n0 av0 t0 ∧ CodeAt wr (m + 1) cv tv c ∧ SrcAt wr (r + 1) lq ∧ Trn (mS m (r + 1) (m + 1)) w12 wr)
              case atStart => exact ⟨[], _, _, _, _, _, _, _, _, lf, rfl, (fun x hx => by simp at hx), rfl, HM12.out, code_nil _ _, HS12.out, Trn.refl _ _⟩
              case round =>
                obtain ⟨c, tv, cv2, k0, o0, d0, n0, av0, t0, lq, hgk, hgood, HCI, hmk, hco, hsr, htr⟩ := hrel
                obtain ⟨w14, rfl⟩ : ∃ x : World, x = wr := ⟨_, rfl⟩
                obtain ⟨ia, ic, rfl, -⟩ := own_read (Exists.choose_spec hco).2.1
                have HMK := Lib.hid hmk
                have HCO := Lib.hid hco
                have HSR := Lib.hid hsr
                have HTR := Lib.hid htr
                have HGO := Lib.hid hgood
                have HGK := Lib.hid hgk
                have hc20 : c.length ≤ 20 := by omega
                have hsz14 : m + 1 ≤ w14.heap.size := Nat.le_trans hsz12 htr.size
                have m0 := row_of hmk 6 (.slice ia c.length ic) rfl
                clear hmk hco hsr htr hgood hgk
                by_cases hgo : lq ≠ [] ∧ c.length < 20
                · have hlt4 : (c.length : Int) < 20 := by have := hgo.2; omega
                  --[[ mainone
                  obtain ⟨s, hs⟩ : ∃ s : ByteArray, (⟨lq.toArray⟩ : ByteArray) = s := ⟨_, rfl⟩
                  have hne : s.toList.isEmpty = false := by
                    rw [Lib.toList_data, ← hs]
                    have h := hgo.1
                    cases lq with
                    | nil => exact absurd rfl h
                    | cons b q => rfl
                  have s0 : w14.cell? ⟨r + 1, 0, none⟩ = some (.string s) := by rw [← hs]; exact row_of HSR.out 0 _ rfl
                  have HGS : Hid (lq ≠ []) := hgo.1
                  clear hs hgo
                  have HONE := Lib.hid (one_any m (r + 1) pb 0 F.length true tv _ (m + 1) k0 o0 d0 n0 av0 t0 c lq E w14 HMK.out HCO.out (by omega) HSR.out (by omega) (by omega) (by omega) hsz14 (by omega) HEP.out HEF.out HEM.out (HE12.out.trn HTR.out))
                  go_wp2_with (go_at_call 33; refine HONE.out.mono ?_; rintro e w15 ⟨rfl, tv5, cv5, k5, o5, d5, n5, av5, t5, hm5, hc5, hs5, ht5⟩; have HM5 := Lib.hid hm5; have HC5 := Lib.hid hc5; have HS5 := Lib.hid hs5; have HT5 := Lib.hid (HTR.out.trans ht5); clear hm5 hc5 hs5 ht5)
                  go_roundg (gk - 1)
                  case rel => exact ⟨c ++ [(instrS E c.length lq).1], tv5, cv5, k5, o5, d5, n5, av5, t5, _, (by have := HGK.out; simp; omega), (fun x hx => by
                    rcases List.mem_append.1 hx with hx | hx
                    · exact HGO.out x hx
                    · rw [List.mem_singleton] at hx; subst hx; exact good_instr HEO.out c.length (by omega) lq), (by
                    show _ = _
                    have h20 := HGK.out
                    have hgs := HGS.out
                    rw [HCI.out, show gk = (gk - 1) + 1 by omega]
                    conv => lhs; unfold mainS
                    rw [if_neg hgs]
                    rfl), HM5.out, HC5.out, HS5.out, HT5.out⟩
                  case measure => have := HGK.out; omega
                  --]]
                · obtain ⟨s, hs⟩ : ∃ s : ByteArray, (⟨lq.toArray⟩ : ByteArray) = s := ⟨_, rfl⟩
                  have hse : s.toList.isEmpty = true ∨ (s.toList.isEmpty = false ∧ ¬ (c.length : Int) < 20) := by
                    rw [Lib.toList_data, ← hs]
                    by_cases hq : lq = []
                    · left; rw [hq]; rfl
                    · right
                      have h20 : ¬ c.length < 20 := fun h => hgo ⟨hq, h⟩
                      refine ⟨?_, by omega⟩
                      cases lq with
                      | nil => exact absurd rfl hq
                      | cons b q => rfl
                  have HMS : Hid (mainS E 20 [] lf = (c, lq)) := by
                    show _ = _
                    rw [HCI.out]
                    by_cases hq : lq = []
                    · subst hq; exact main_nil _ _ _
                    · have h20 : ¬ c.length < 20 := fun h => hgo ⟨hq, h⟩
                      have h0 := HGK.out
                      obtain rfl : gk = 0 := by omega
                      rfl
                  have s0 : w14.cell? ⟨r + 1, 0, none⟩ = some (.string s) := by rw [← hs]; exact row_of HSR.out 0 _ rfl
                  have HTW : Hid (Trn (fun x => x = r + 1) w8 w14) := (Trn.of_below HB12.out).step HTR.out (fun i hi e => by have h := HMD.out; unfold mS at e; show i = r + 1; omega)
                  have HLAB := Lib.hid (labelled_any m (r + 1) pb 0 F.length true tv _ (m + 1) k0 o0 d0 n0 av0 t0 c w14 HMK.out HCO.out (by omega) (by omega) hsz14 HGO.out)
                  clear hs hgo HCI
                  have HPE : Hid (progS l = ⟨1 + (v1 : Int), C, A, F.map Prod.fst, labelledS c⟩) := by
                    show _ = _
                    have hh := head_eq (l := l) (l1 := l1) (v1 := v1) (G := F.map Prod.fst) (lf := lf) (Prod.ext HV1.out HL1.out) HX2.out HX3.out HA.out HX5.out (by have h := HFE.out; rw [HCL.out] at h; exact h)
                    refine (prog_eq hh (c := c) (lq := lq) ?_).trans (by rw [← HC.out])
                    have h := HMS.out
                    rw [← HED.out] at h
                    unfold mainE
                    rw [← HC.out, List.map_map]
                    exact h
                  clear HMS
                  rcases hse with hse | ⟨hse, hc4⟩
                  all_goals
                    go_upto_region 34 with (go_at_call 34; refine HLAB.out.mono ?_; rintro e w15 ⟨lv, rfl, hli, htl⟩; obtain ⟨la, lc2, rfl, -⟩ := id hli; have HP15 := Lib.hid (HP8.out.bytes (by omega) (HTW.out.step htl (fun i hi e => by have h := HMD.out; omega)) (htl.heap HSR.out (by show ¬ m + 1 ≤ r + 1; omega))); have c4 := row_of HP15.out.box 4 (.slice none 0 0) rfl; have f4 := frozen_of_row w15 pb 4 _ _ HP15.out.box; have HLI := Lib.hid hli; clear hli htl)
                    clear c4 f4 HLAB
                    have hpr := HP15.out.hp
                    have hb16 := heap_setCell_same w15 pb 4 _ _ (.slice la (labelledS c).length lc2) HP15.out.box
                    simp only [List.setIfInBounds_toArray, List.set_cons_succ, List.set_cons_zero] at hb16
                    have HB16 := Lib.hid hb16
                    have HR16 := Lib.hid ((heap_setCell_other w15 ⟨pb, 4, none⟩ r (.slice la (labelledS c).length lc2) (by show ¬ r = pb; omega)).trans HP15.out.res)
                    have HT16 := Lib.hid ((setCell_trn w15 ⟨pb, 4, none⟩ (.slice la (labelledS c).length lc2)).mono (T := fun x => x = pb ∨ x = r) (fun i e => .inl e))
                    obtain ⟨ca, cc, rfl, -⟩ := own_read HP15.out.oc
                    obtain ⟨aa, ac, rfl, -⟩ := own_read HP15.out.oa
                    generalize w15.setCell ⟨pb, 4, none⟩ (.slice la (labelledS c).length lc2) = w16 at *
                    have p160 := row_of HB16.out 0 _ rfl
                    have p161 := row_of HB16.out 1 _ rfl
                    have p162 := row_of HB16.out 2 _ rfl
                    have p163 := row_of HB16.out 3 _ rfl
                    have p164 := row_of HB16.out 4 _ rfl
                    clear hb16
                    go_wp2_with (refine wpList_store_row rfl 28 (.tmp 2) (.tmp 123) rfl r #[.int .i64 (1 + (v1 : Int)), .slice ca C.length cc, .slice aa A.length ac, .slice fa F.length fc, .slice la (labelledS c).length lc2] rfl rfl 28 #[.int .i64 0, .slice none 0 0, .slice none 0 0, .slice none 0 0, .slice none 0 0] HR16.out (by as_aux_lemma => kernel_rfl) (by as_aux_lemma => kernel_rfl) (by as_aux_lemma => kernel_rfl) ?_)
                    have hM16 : RdInstrs (some (upFrom r)) w15 (.slice la (labelledS c).length lc2) (labelledS c) := RdInstrs.same HLI.out (fun b hb _ => rfl) (fun b _ hb => by have e : m + 1 ≤ b := hb; show r ≤ b; omega)
                    obtain ⟨hrd, hbl⟩ := HP15.out.done (w' := w16.setRow r #[.int .i64 (1 + (v1 : Int)), .slice ca C.length cc, .slice aa A.length ac, .slice fa F.length fc, .slice la (labelledS c).length lc2]) (HT16.out.trans ((setRow_trn HR16.out).mono fun i e => .inr e)) hM16 ⟨by omega, by omega⟩ (by have := HCL.out; omega) (fun s hs => by
                      rw [HC.out] at hs
                      obtain ⟨y, hy, rfl⟩ := List.mem_map.1 hs
                      have hy2 : y < 1 + v2 := by simpa using hy
                      have h := nm_ok 99 (n := y) (by omega)
                      unfold NmOk at h
                      unfold maxLen
                      omega) (by omega) (fun s hs => by
                      have h := times_arr i 0 [] l3 (by omega) (fun s hs => by simp at hs) s (by rw [HA.out]; exact hs)
                      obtain ⟨⟨h1, h2⟩, h3⟩ := h
                      unfold NmOk at h3
                      refine ⟨?_, by unfold maxLen; omega⟩
                      unfold InI64
                      omega) (by have := HFL.out; omega)
                    try simp only [Act.put]
                    refine bodyPost_ret (v := .agg #[.int .i64 (1 + (v1 : Int)), .slice ca C.length cc, .slice aa A.length ac, .slice fa F.length fc, .slice la (labelledS c).length lc2]) (results_cell_row (P := Tryz.prog) (fn := Tryz.f12) rfl _ _ r 28 _ (0,0) _ rfl (setRow_heap _ _ _ _ _ _ HR16.out) Tryz.underlying28 rfl (by kernel_rfl)) rfl ⟨.slice ca C.length cc, .slice aa A.length ac, .slice fa F.length fc, .slice la (labelledS c).length lc2, by rw [HPE.out], by rw [HPE.out, hr]; exact hrd, by rw [hr]; exact hbl⟩
end Go.Proofs.YtfdinncgncbmfaaGreatDoor
