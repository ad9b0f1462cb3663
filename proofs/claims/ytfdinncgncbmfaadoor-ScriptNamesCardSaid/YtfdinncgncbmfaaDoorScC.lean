/- Contract of the maker's call. Conditions: as for the other methods. -/
import Derived.Test.YtfdinncgncbmfaaDoorScM
set_option linter.unusedVariables false
set_option linter.unusedSimpArgs false
set_option linter.unnecessarySimpa false
namespace Go.Proofs.YtfdinncgncbmfaaDoor
open Go.ChangeShapes Go.WideShapes Go.ChangeAt Go.RowKit
set_option maxRecDepth 100000 in
set_option maxHeartbeats 3200000 in
theorem call_any (m s p par fn : Nat) (mn : Bool) (tv cv : Value) (base : Nat) (l : List UInt8) (E : EnvS) (w : World) (hE : E.par = par) (hfn : E.calls.length = fn) (hEnv : EnvAt w m s p base E) (h : MS w m s p par fn mn tv cv base 0 0 .empty .empty [] (-1) l) :
    Calls Tryd.prog 36 #[.pointer (some ⟨m, 0, none⟩)] w (Made1 m s p par fn mn tv cv base (callS E l).1 (callS E l).2 w) := by
  have H := Lib.hid h
  have HFN := Lib.hid hfn
  clear hfn
  have HT0 : Hid (Trn (mS m s base) w w) := Trn.refl _ _
  have HE := Lib.hid hEnv
  clear hEnv
  have HPAR := Lib.hid hE
  clear h hE
  go_enter Tryd.func36, Tryd.ntmps36
  obtain ⟨av, hbx, -⟩ := H.out.box
  have q3 := row_of hbx 3 (.int .i64 (fn : Nat)) rfl
  have hf2 := HE.out.hf2
  clear hbx
  by_cases g : E.calls = []
  · have g0 : fn = 0 := by rw [← HFN.out, g]; rfl
    have g1 : (fn : Int) = 0 := by omega
    have g2 : ((fn : Int) == 0) = true := by simp [g1]
    have hc := copied_any m s p par fn mn tv cv base l E w HPAR.out H.out
    have HC := Lib.hid hc
    clear hc g0
    go_wp2_with (go_at_call 32; refine HC.out.mono ?_; rintro e z ⟨rfl, hz, tz⟩)
    go_end0
    unfold Made1
    rw [show callS E l = copiedS E l from by unfold callS; rw [if_pos g]]
    exact ⟨rfl, hz, tz⟩
  have g0 : 1 ≤ fn := by
    have : E.calls.length ≠ 0 := fun e => g (List.length_eq_zero_iff.1 e)
    have := HFN.out
    omega
  have g3 : fn ≤ 100 := by have := HFN.out; omega
  have g1 : ¬ (fn : Int) = 0 := by omega
  have g2 : ((fn : Int) == 0) = false := by simp; omega
  go_upto_region 2 with fail
  clear q3 g1 g2 hf2
  obtain ⟨av, hbx, -⟩ := H.out.box
  have c7 := row_of hbx 7 (.int .u8 0) rfl
  have f7 := frozen_of_row w m 7 _ _ hbx
  clear hbx
  go_upto_region 3 with fail
  clear c7 f7
  have H1 := Lib.hid (H.out.kind 4)
  have T1 := Lib.hid (HT0.out.trans (put_trn w m s base 7 (.int .u8 4)))
  generalize w.setCell ⟨m, 7, none⟩ (.int .u8 4) = w1 at *
  have hd2 := dst_st H1.out
  obtain ⟨d2, hdd2⟩ : ∃ x, (dstS l).1 = x := ⟨_, rfl⟩
  obtain ⟨l2, hdl2⟩ : ∃ x, (dstS l).2 = x := ⟨_, rfl⟩
  rw [hdd2, hdl2] at hd2
  have HD2 := Lib.hid hd2
  have HX2 : Hid (dstS l = (d2, l2)) := (by show _ = _; rw [← hdd2, ← hdl2])
  clear hd2 hdd2 hdl2
  go_upto_region 4 with (go_at_call 49; refine HD2.out.mono ?_; rintro e w2 ⟨rfl, hn, tn⟩; have H2 := Lib.hid hn; have T2 := Lib.hid (T1.out.trans tn); clear hn tn)
  clear HD2
  obtain ⟨v3, hv⟩ : ∃ x, (takeS fn l2).1 = x := ⟨_, rfl⟩
  obtain ⟨l3, hr⟩ : ∃ x, (takeS fn l2).2 = x := ⟨_, rfl⟩
  have hvl3 : v3 < fn := by rw [← hv]; exact take_small fn l2 (by omega)
  have HX3 : Hid (takeS fn l2 = (v3, l3)) := (by show _ = _; rw [← hv, ← hr])
  obtain ⟨n3, hns⟩ : ∃ x, nmS 102 v3 = x := ⟨_, rfl⟩
  have HNS3 := Lib.hid hns
  obtain ⟨av, hbx, -⟩ := H2.out.box
  have l0 := keepS_cell (S := [m]) (by simp) (row_of hbx 0 (.pointer (some ⟨s, 0, none⟩)) rfl)
  have l3c := keepS_cell (S := [m]) (by simp) (row_of hbx 3 (.int .i64 (fn : Nat)) rfl)
  refine wp_region_mixS [m] (.one [0, 1, 2, 3, 4, 5, 6, 7] 8 (.fin [9])) (fun _ => false) (by kernel_rfl) (by kernel_rfl) rfl (by kernel_rfl) (fun _ d _ _ _ h => by cases d <;> exact h) ?_
  have HBd : Hid (Below w2.heap.size w2 w2.drew) := (Below.refl _ _).drew
  generalize w2.drew = wn at *
  have hmx := (Array.getElem?_eq_some_iff.1 hbx).1
  have HKn : Hid (∀ b ∈ [m], wn.heap[b]? = w2.heap[b]?) := fun b hb => by
    simp only [List.mem_cons, List.not_mem_nil, or_false] at hb
    subst hb
    exact HBd.out.block _ hmx
  have HZ0 := Lib.hid (H2.out.below HBd.out)
  clear hbx
  refine mix_one (by simp only [opsOf, List.filterMap_cons, List.filterMap_nil, List.getElem?_toArray, List.getElem?_cons_succ, List.getElem?_cons_zero]; rfl) ⟨_, keepS_of HKn.out⟩ ?_
  change wpQuiet _ _ _ _ [_, _, _, _, _, _, _, _] _
  (repeat (go_big_quiet_step (fail)))
  clear l0 l3c
  refine wpQuiet_nil ?_
  refine mix_step rfl ?_
  have ht := take_any s l2 fn wn HZ0.out.src (by omega) (by omega)
  rw [hv, hr] at ht
  have HD := Lib.hid ht
  clear hv hr ht
  go_wp2_with (go_at_call 15; refine HD.out.mono ?_; rintro e z1 ⟨rfl, hs1, ht1⟩)
  have HZ1 := Lib.hid (HZ0.out.bytes ht1 hs1)
  have TZ1 := Lib.hid ((T2.out.trans (Trn.of_below HBd.out)).trans (src_trn ht1))
  have HK1 : Hid (∀ b ∈ [m], z1.heap[b]? = w2.heap[b]?) := fun b hb => (by
    have hb' := hb
    simp only [List.mem_cons, List.not_mem_nil, or_false] at hb
    subst hb
    exact (ht1.block _ (by have := HBd.out.size; omega) H2.out.hne).trans (HKn.out _ hb'))
  clear hs1 ht1 HD
  (first | refine ⟨fun _ => ⟨_, keepS_of HK1.out⟩, ?_⟩ | refine ⟨⟨_, keepS_of HK1.out⟩, ?_⟩)
  refine mix_fin (by simp only [opsOf, List.filterMap_cons, List.filterMap_nil, List.getElem?_toArray, List.getElem?_cons_succ, List.getElem?_cons_zero]; rfl) ⟨_, keepS_of HK1.out⟩ ?_
  change wpQuiet _ _ _ _ [_] _
  (repeat (go_big_quiet_step (fail)))
  refine wpQuiet_nil ?_
  have hal := (Below.refl z1.heap.size z1).alloc (Nat.le_refl _) (.cells #[.int .i64 (v3 : Nat)] 3)
  have HN := name_any 102 v3 (by omega) z1.heap.size _ (heap_alloc_new z1 (.cells #[.int .i64 (v3 : Nat)] 3))
  rw [hns] at HN
  have HN := Lib.hid HN
  have HZ2 := Lib.hid (HZ1.out.below hal)
  have TZ2 := Lib.hid (TZ1.out.trans (Trn.of_below hal))
  obtain ⟨av2, hbx2, -⟩ := HZ2.out.box
  have c10 := row_of hbx2 10 (.string .empty) rfl
  have f10 := frozen_of_row _ m 10 _ _ hbx2
  clear hbx2 hal hns
  go_upto_region 6 with (go_at_call 16; refine HN.out.mono ?_; rintro e z ⟨rfl, rfl⟩)
  clear c10 f10 HN
  have H3 := Lib.hid (HZ2.out.name n3)
  have T3 := Lib.hid (TZ2.out.trans (put_trn _ m s base 10 (.string n3)))
  clear HZ0 HZ1 TZ1 HZ2 TZ2 HK1 HKn HBd
  generalize (z1.alloc (.cells #[.int .i64 (v3 : Nat)] 3)).setCell ⟨m, 10, none⟩ (.string n3) = w3 at *
  have HEN := Lib.hid (HE.out.trn T3.out)
  obtain ⟨nn, hnn⟩ : ∃ x, E.calls[v3]? = some x := ⟨_, List.getElem?_eq_getElem (by have := HFN.out; omega)⟩
  have HGD : Hid (E.calls.getD v3 0 = nn) := by show _ = _; rw [List.getD_eq_getElem?_getD, hnn]; rfl
  have hnl : nn ≤ 100 := HE.out.ho nn (List.mem_of_getElem? hnn)
  obtain ⟨wd, ca, cc, aa, ac, fa, fc, mv, hpx, hfx⟩ := HEN.out.box
  obtain ⟨fb, fq, pa, pc, rfl, hpc, -⟩ := hfx v3 nn hnn
  obtain ⟨av, hbx, -⟩ := H3.out.box
  have c1 := row_of hbx 1 (.pointer (some ⟨p, 0, none⟩)) rfl
  have hpx3 := row_of hpx 3 (.slice (some ⟨fb, fq, none⟩) E.calls.length fc) rfl
  rw [HFN.out] at hpx3
  have hvi : (v3 : Int) < (fn : Nat) := by omega
  clear hbx hpx hfx hnn HEN
  go_upto_region 7 with fail
  clear c1 hpx3 hpc hvi
  go_loopw [44] (fun v wr => ∃ (i : Nat) (gs : List ArgD) (l' : List UInt8), i ≤ nn ∧ v = .int .i64 i ∧ gs.length = i ∧ Hid (opdsS par nn l3 = (gs ++ (opdsS par (nn - i) l').1, (opdsS par (nn - i) l').2)) ∧ MS wr m s p par fn mn tv cv base 4 0 d2 n3 gs (-1) l' ∧ Trn (mS m s base) w wr) (fun v _ => nn - (intOf v).toNat)
  case atStart => exact ⟨0, [], l3, Nat.zero_le _, rfl, rfl, (show _ = _ by simp), H3.out, T3.out⟩
  case round =>
    obtain ⟨i, gs, l', hi, rfl, hal, HIN, hms, htr⟩ := hrel
    obtain ⟨w5, rfl⟩ : ∃ x : World, x = wr := ⟨_, rfl⟩
    have H5 := Lib.hid hms
    have T5 := Lib.hid htr
    clear hms htr
    by_cases hlt : i < nn
    · have hlt1 : (i : Int) < (nn : Int) := by omega
      have hd := opd_st H5.out (by omega)
      obtain ⟨a6, ha6⟩ : ∃ x, (opdS par l').1 = x := ⟨_, rfl⟩
      obtain ⟨l6, hl6⟩ : ∃ x, (opdS par l').2 = x := ⟨_, rfl⟩
      rw [ha6, hl6] at hd
      have HIN2 : Hid (opdsS par nn l3 = ((gs ++ [a6]) ++ (opdsS par (nn - (i + 1)) l6).1, (opdsS par (nn - (i + 1)) l6).2)) := by
        show _ = _
        rw [HIN.out, show nn - i = (nn - (i + 1)) + 1 from by omega]
        unfold opdsS bindS
        simp only [ha6, hl6, pureS, List.append_assoc, List.singleton_append, bindS]
        try (cases hk : nn - (i + 1) <;> simp [opdsS, pureS, bindS])
      have HD := Lib.hid hd
      clear hd ha6 hl6 HIN
      go_wp2_with (go_at_call 50; refine HD.out.mono ?_; rintro e w6 ⟨rfl, h6, t6⟩; have H6 := Lib.hid h6; have T6 := Lib.hid (T5.out.trans t6); clear h6 t6)
      go_roundw
      case rel => exact ⟨i + 1, gs ++ [a6], l6, by omega, by go_num, by simp [hal], HIN2.out, H6.out, T6.out⟩
      case measure => simp [intOf]; omega
    · obtain rfl : i = nn := by omega
      have hlt1 : ¬ ((i : Nat) : Int) < (i : Int) := by omega
      have HOS : Hid (opdsS par i l3 = (gs, l')) := by
        show _ = _
        rw [HIN.out, Nat.sub_self]
        simp [opdsS, pureS]
      clear HIN
      go_wp2_with fail
      go_end0
      have hx : callS E l = (mkI 4 0 d2 n3 gs, l') := by
        unfold callS
        rw [if_neg g]
        simp only [bindS, HX2.out, HFN.out, HX3.out, HGD.out, HPAR.out, HOS.out, HNS3.out, pureS]
      unfold Made1
      rw [hx]
      exact ⟨rfl, H5.out, T5.out⟩
end Go.Proofs.YtfdinncgncbmfaaDoor
