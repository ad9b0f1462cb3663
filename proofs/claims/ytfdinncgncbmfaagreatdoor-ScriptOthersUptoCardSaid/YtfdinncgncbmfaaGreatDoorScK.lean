/- Contract of the maker's call. Conditions: as for the other methods. Maps keyed by ints, as lists; and the contract of the maker's makers: a map of its methods. No condition. -/
import Derived.Test.YtfdinncgncbmfaaGreatDoorScM
import Derived.Test.YtfdinncgncbmfaaGreatDoorMap
set_option linter.unusedVariables false
set_option linter.unusedSimpArgs false
set_option linter.unnecessarySimpa false
namespace Go.Proofs.YtfdinncgncbmfaaGreatDoor
open Go.ChangeShapes Go.WideShapes Go.ChangeAt Go.RowKit
set_option maxRecDepth 100000 in
set_option maxHeartbeats 3200000 in
theorem call_any (m s p par fn : Nat) (mn : Bool) (tv cv : Value) (base : Nat) (l : List UInt8) (E : EnvS) (w : World) (hE : E.par = par) (hfn : E.calls.length = fn) (hEnv : EnvAt w m s p base E) (h : MS w m s p par fn mn tv cv base 0 0 .empty .empty [] (-1) l) :
    Calls Tryz.prog 72 #[.pointer (some ⟨m, 0, none⟩)] w (Made1 m s p par fn mn tv cv base (callS E l).1 (callS E l).2 w) := by
  have H := Lib.hid h
  have HFN := Lib.hid hfn
  clear hfn
  have HT0 : Hid (Trn (mS m s base) w w) := Trn.refl _ _
  have HE := Lib.hid hEnv
  clear hEnv
  have HPAR := Lib.hid hE
  clear h hE
  go_enter Tryz.func72, Tryz.ntmps72
  obtain ⟨av, hbx, -⟩ := H.out.box
  have q3 := row_of hbx 3 (.int .i64 (fn : Nat)) rfl
  have hf2 := HE.out.hf2
  clear hbx
  by_cases g : E.calls = []
  · have g0 : fn = 0 := by rw [← HFN.out, g]; rfl
    have g1 : (fn : Int) = 0 := by omega
    have g2 : ((fn : Int) == 0) = true := by simp [g1]
    have hc := copied_any m s p par fn mn tv cv base l E w HPAR.out H.out
    have HC := Lib.hid hc
    clear hc g0
    go_wp2_with (go_at_call 68; refine HC.out.mono ?_; rintro e z ⟨rfl, hz, tz⟩)
    go_end0
    unfold Made1
    rw [show callS E l = copiedS E l from by unfold callS; rw [if_pos g]]
    exact ⟨rfl, hz, tz⟩
  have g0 : 1 ≤ fn := by
    have : E.calls.length ≠ 0 := fun e => g (List.length_eq_zero_iff.1 e)
    have := HFN.out
    omega
  have g3 : fn ≤ 100 := by have := HFN.out; omega
  have g1 : ¬ (fn : Int) = 0 := by omega
  have g2 : ((fn : Int) == 0) = false := by simp; omega
  go_upto_region 2 with fail
  clear q3 g1 g2 hf2
  obtain ⟨av, hbx, -⟩ := H.out.box
  have c7 := row_of hbx 7 (.int .u8 0) rfl
  have f7 := frozen_of_row w m 7 _ _ hbx
  clear hbx
  go_upto_region 3 with fail
  clear c7 f7
  have H1 := Lib.hid (H.out.kind 4)
  have T1 := Lib.hid (HT0.out.trans (put_trn w m s base 7 (.int .u8 4)))
  generalize w.setCell ⟨m, 7, none⟩ (.int .u8 4) = w1 at *
  have hd2 := dst_st H1.out
  obtain ⟨d2, hdd2⟩ : ∃ x, (dstS l).1 = x := ⟨_, rfl⟩
  obtain ⟨l2, hdl2⟩ : ∃ x, (dstS l).2 = x := ⟨_, rfl⟩
  rw [hdd2, hdl2] at hd2
  have HD2 := Lib.hid hd2
  have HX2 : Hid (dstS l = (d2, l2)) := (by show _ = _; rw [← hdd2, ← hdl2])
  clear hd2 hdd2 hdl2
  go_upto_region 4 with (go_at_call 89; refine HD2.out.mono ?_; rintro e w2 ⟨rfl, hn, tn⟩; have H2 := Lib.hid hn; have T2 := Lib.hid (T1.out.trans tn); clear hn tn)
  clear HD2
  obtain ⟨v3, hv⟩ : ∃ x, (takeS fn l2).1 = x := ⟨_, rfl⟩
  obtain ⟨l3, hr⟩ : ∃ x, (takeS fn l2).2 = x := ⟨_, rfl⟩
  have hvl3 : v3 < fn := by rw [← hv]; exact take_small fn l2 (by omega)
  have HX3 : Hid (takeS fn l2 = (v3, l3)) := (by show _ = _; rw [← hv, ← hr])
  obtain ⟨n3, hns⟩ : ∃ x, nmS 102 v3 = x := ⟨_, rfl⟩
  have HNS3 := Lib.hid hns
  obtain ⟨av, hbx, -⟩ := H2.out.box
  have l0 := keepS_cell (S := [m]) (by simp) (row_of hbx 0 (.pointer (some ⟨s, 0, none⟩)) rfl)
  have l3c := keepS_cell (S := [m]) (by simp) (row_of hbx 3 (.int .i64 (fn : Nat)) rfl)
  refine wp_region_mixS [m] (.one [0, 1, 2, 3, 4, 5, 6, 7] 8 (.fin [9])) (fun _ => false) (by kernel_rfl) (by kernel_rfl) rfl (by kernel_rfl) (fun _ d _ _ _ h => by cases d <;> exact h) ?_
  have HBd : Hid (Below w2.heap.size w2 w2.drew) := (Below.refl _ _).drew
  generalize w2.drew = wn at *
  have hmx := (Array.getElem?_eq_some_iff.1 hbx).1
  have HKn : Hid (∀ b ∈ [m], wn.heap[b]? = w2.heap[b]?) := fun b hb => by
    simp only [List.mem_cons, List.not_mem_nil, or_false] at hb
    subst hb
    exact HBd.out.block _ hmx
  have HZ0 := Lib.hid (H2.out.below HBd.out)
  clear hbx
  refine mix_one (by simp only [opsOf, List.filterMap_cons, List.filterMap_nil, List.getElem?_toArray, List.getElem?_cons_succ, List.getElem?_cons_zero]; rfl) ⟨_, keepS_of HKn.out⟩ ?_
  change wpQuiet _ _ _ _ [_, _, _, _, _, _, _, _] _
  (repeat (go_big_quiet_step (fail)))
  clear l0 l3c
  refine wpQuiet_nil ?_
  refine mix_step rfl ?_
  have ht := take_any s l2 fn wn HZ0.out.src (by omega) (by omega)
  rw [hv, hr] at ht
  have HD := Lib.hid ht
  clear hv hr ht
  go_wp2_with (go_at_call 21; refine HD.out.mono ?_; rintro e z1 ⟨rfl, hs1, ht1⟩)
  have HZ1 := Lib.hid (HZ0.out.bytes ht1 hs1)
  have TZ1 := Lib.hid ((T2.out.trans (Trn.of_below HBd.out)).trans (src_trn ht1))
  have HK1 : Hid (∀ b ∈ [m], z1.heap[b]? = w2.heap[b]?) := fun b hb => (by
    have hb' := hb
    simp only [List.mem_cons, List.not_mem_nil, or_false] at hb
    subst hb
    exact (ht1.block _ (by have := HBd.out.size; omega) H2.out.hne).trans (HKn.out _ hb'))
  clear hs1 ht1 HD
  (first | refine ⟨fun _ => ⟨_, keepS_of HK1.out⟩, ?_⟩ | refine ⟨⟨_, keepS_of HK1.out⟩, ?_⟩)
  refine mix_fin (by simp only [opsOf, List.filterMap_cons, List.filterMap_nil, List.getElem?_toArray, List.getElem?_cons_succ, List.getElem?_cons_zero]; rfl) ⟨_, keepS_of HK1.out⟩ ?_
  change wpQuiet _ _ _ _ [_] _
  (repeat (go_big_quiet_step (fail)))
  refine wpQuiet_nil ?_
  have hal := (Below.refl z1.heap.size z1).alloc (Nat.le_refl _) (.cells #[.int .i64 (v3 : Nat)] 3)
  have HN := name_any 102 v3 (by omega) z1.heap.size _ (heap_alloc_new z1 (.cells #[.int .i64 (v3 : Nat)] 3))
  rw [hns] at HN
  have HN := Lib.hid HN
  have HZ2 := Lib.hid (HZ1.out.below hal)
  have TZ2 := Lib.hid (TZ1.out.trans (Trn.of_below hal))
  obtain ⟨av2, hbx2, -⟩ := HZ2.out.box
  have c10 := row_of hbx2 10 (.string .empty) rfl
  have f10 := frozen_of_row _ m 10 _ _ hbx2
  clear hbx2 hal hns
  go_upto_region 6 with (go_at_call 22; refine HN.out.mono ?_; rintro e z ⟨rfl, rfl⟩)
  clear c10 f10 HN
  have H3 := Lib.hid (HZ2.out.name n3)
  have T3 := Lib.hid (TZ2.out.trans (put_trn _ m s base 10 (.string n3)))
  clear HZ0 HZ1 TZ1 HZ2 TZ2 HK1 HKn HBd
  generalize (z1.alloc (.cells #[.int .i64 (v3 : Nat)] 3)).setCell ⟨m, 10, none⟩ (.string n3) = w3 at *
  have HEN := Lib.hid (HE.out.trn T3.out)
  obtain ⟨nn, hnn⟩ : ∃ x, E.calls[v3]? = some x := ⟨_, List.getElem?_eq_getElem (by have := HFN.out; omega)⟩
  have HGD : Hid (E.calls.getD v3 0 = nn) := by show _ = _; rw [List.getD_eq_getElem?_getD, hnn]; rfl
  have hnl : nn ≤ 100 := HE.out.ho nn (List.mem_of_getElem? hnn)
  obtain ⟨wd, ca, cc, aa, ac, fa, fc, mv, hpx, hfx⟩ := HEN.out.box
  obtain ⟨fb, fq, pa, pc, rfl, hpc, -⟩ := hfx v3 nn hnn
  obtain ⟨av, hbx, -⟩ := H3.out.box
  have c1 := row_of hbx 1 (.pointer (some ⟨p, 0, none⟩)) rfl
  have hpx3 := row_of hpx 3 (.slice (some ⟨fb, fq, none⟩) E.calls.length fc) rfl
  rw [HFN.out] at hpx3
  have hvi : (v3 : Int) < (fn : Nat) := by omega
  clear hbx hpx hfx hnn HEN
  go_upto_region 7 with fail
  clear c1 hpx3 hpc hvi
  go_loopw [44] (fun v wr => ∃ (i : Nat) (gs : List ArgD) (l' : List UInt8), i ≤ nn ∧ v = .int .i64 i ∧ gs.length = i ∧ Hid (opdsS par nn l3 = (gs ++ (opdsS par (nn - i) l').1, (opdsS par (nn - i) l').2)) ∧ MS wr m s p par fn mn tv cv base 4 0 d2 n3 gs (-1) l' ∧ Trn (mS m s base) w wr) (fun v _ => nn - (intOf v).toNat)
  case atStart => exact ⟨0, [], l3, Nat.zero_le _, rfl, rfl, (show _ = _ by simp), H3.out, T3.out⟩
  case round =>
    obtain ⟨i, gs, l', hi, rfl, hal, HIN, hms, htr⟩ := hrel
    obtain ⟨w5, rfl⟩ : ∃ x : World, x = wr := ⟨_, rfl⟩
    have H5 := Lib.hid hms
    have T5 := Lib.hid htr
    clear hms htr
    by_cases hlt : i < nn
    · have hlt1 : (i : Int) < (nn : Int) := by omega
      have hd := opd_st H5.out (by omega)
      obtain ⟨a6, ha6⟩ : ∃ x, (opdS par l').1 = x := ⟨_, rfl⟩
      obtain ⟨l6, hl6⟩ : ∃ x, (opdS par l').2 = x := ⟨_, rfl⟩
      rw [ha6, hl6] at hd
      have HIN2 : Hid (opdsS par nn l3 = ((gs ++ [a6]) ++ (opdsS par (nn - (i + 1)) l6).1, (opdsS par (nn - (i + 1)) l6).2)) := by
        show _ = _
        rw [HIN.out, show nn - i = (nn - (i + 1)) + 1 from by omega]
        unfold opdsS bindS
        simp only [ha6, hl6, pureS, List.append_assoc, List.singleton_append, bindS]
        try (cases hk : nn - (i + 1) <;> simp [opdsS, pureS, bindS])
      have HD := Lib.hid hd
      clear hd ha6 hl6 HIN
      go_wp2_with (go_at_call 90; refine HD.out.mono ?_; rintro e w6 ⟨rfl, h6, t6⟩; have H6 := Lib.hid h6; have T6 := Lib.hid (T5.out.trans t6); clear h6 t6)
      go_roundw
      case rel => exact ⟨i + 1, gs ++ [a6], l6, by omega, by go_num, by simp [hal], HIN2.out, H6.out, T6.out⟩
      case measure => simp [intOf]; omega
    · obtain rfl : i = nn := by omega
      have hlt1 : ¬ ((i : Nat) : Int) < (i : Int) := by omega
      have HOS : Hid (opdsS par i l3 = (gs, l')) := by
        show _ = _
        rw [HIN.out, Nat.sub_self]
        simp [opdsS, pureS]
      clear HIN
      go_wp2_with fail
      go_end0
      have hx : callS E l = (mkI 4 0 d2 n3 gs, l') := by
        unfold callS
        rw [if_neg g]
        simp only [bindS, HX2.out, HFN.out, HX3.out, HGD.out, HPAR.out, HOS.out, HNS3.out, pureS]
      unfold Made1
      rw [hx]
      exact ⟨rfl, H5.out, T5.out⟩
open Go.Maps (Keyed int_keyed)
open Go.WideShapes Go.ChangeMaps Go.MapKept Go.WideMaps Go.ChangeAt Go.RowKit Go.ChangeShapes
/-- Block b is a map whose entries are those of L, in that order. -/
def ZIs (w : World) (b : Nat) (L : List (Int × Value)) : Prop :=
  ∃ es clock, w.heap[b]? = some (.map es clock) ∧ es.toList.map (fun e => (e.key, e.val)) = L.map (fun p => (Value.int .i64 p.1, p.2)) ∧ ∀ p ∈ L, (Lit.int .i64 p.1).wf = true
section
variable {P : Program} {k : TypeId} {w : World} {b : Nat} {L : List (Int × Value)}
theorem ZIs.lt (h : ZIs w b L) : b < w.heap.size := by
  obtain ⟨es, clock, hb, _⟩ := h
  exact (Array.getElem?_eq_some_iff.1 hb).1
theorem ZIs.at (h : ZIs w b L) {w' : World} (e : w'.heap[b]? = w.heap[b]?) : ZIs w' b L := by
  obtain ⟨es, clock, hb, r⟩ := h
  exact ⟨es, clock, e.trans hb, r⟩
theorem ZIs.keep (h : ZIs w b L) {w' : World} (k : Below w.heap.size w w') : ZIs w' b L := h.at (k.block b h.lt)
theorem ZIs.made (w : World) : ZIs (w.alloc (.map #[] 0)) w.heap.size [] :=
  ⟨#[], 0, (MapKept.heap_alloc w _).1, rfl, fun _ h => nomatch h⟩
theorem ZIs.find (hk : P.underlying k = some (.int .i64)) (h : ZIs w b L) (s : Int) (hs : (Lit.int .i64 s).wf = true) :
    ∃ es clock, w.heap[b]? = some (.map es clock) ∧ es.size = L.length ∧ es.toList.map (fun e => (e.key, e.val)) = L.map (fun p => (Value.int .i64 p.1, p.2)) ∧
      (((Instr.findKey k (.int .i64 s) es.toList).run P w = .ok none w ∧ ∀ p ∈ L, p.1 ≠ s) ∨
        ∃ j v, (Instr.findKey k (.int .i64 s) es.toList).run P w = .ok (some (j, v)) w ∧ L[j]? = some (s, v) ∧ ∃ e, es[j]? = some e ∧ e.key = .int .i64 s ∧ e.val = v) := by
  obtain ⟨es, clock, hb, hm, hz⟩ := h
  have hlen : es.size = L.length := by have := congrArg List.length hm; simpa using this
  refine ⟨es, clock, hb, hlen, hm, ?_⟩
  have K := Go.Maps.int_keyed hk
  have hkeys : ∀ e ∈ es.toList, ∃ l, keyOf P k e.key = some l := by
    intro e he
    have h1 : (e.key, e.val) ∈ L.map (fun p => (Value.int .i64 p.1, p.2)) := by rw [← hm]; exact List.mem_map.2 ⟨e, he, rfl⟩
    obtain ⟨p, hp, he2⟩ := List.mem_map.1 h1
    have h2 : Value.int .i64 p.1 = e.key := congrArg Prod.fst he2
    exact ⟨_, by rw [← h2]; exact Go.Maps.keyOf_int_mk hk (hz p hp)⟩
  rcases K.find w (Go.Maps.keyOf_int_mk hk hs) es.toList hkeys with ⟨h1, h2⟩ | ⟨j, e, h1, h2, h3⟩
  · refine .inl ⟨h1, fun p hp hps => ?_⟩
    have h4 : (Value.int .i64 p.1, p.2) ∈ es.toList.map (fun e => (e.key, e.val)) := by rw [hm]; exact List.mem_map.2 ⟨p, hp, rfl⟩
    obtain ⟨e, he, h5⟩ := List.mem_map.1 h4
    exact h2 e he (by rw [← hps]; exact congrArg Prod.fst h5)
  · refine .inr ⟨j, e.val, h1, ?_, e, by simpa using h2, h3, rfl⟩
    have h4 : (es.toList.map (fun e => (e.key, e.val)))[j]? = some (e.key, e.val) := by rw [List.getElem?_map, h2]; rfl
    rw [hm, List.getElem?_map] at h4
    cases hj : L[j]? with
    | none => rw [hj] at h4; cases h4
    | some p =>
      rw [hj] at h4
      simp only [Option.map_some, Option.some.injEq, Prod.mk.injEq] at h4
      obtain ⟨h5, h6⟩ := h4
      rw [h3] at h5
      cases h5
      rw [← h6]
/-- 'm[s]', 'v, ok := m[s]': what comes back. -/
theorem ZIs.lookup {t e : TypeId} (hk : P.underlying k = some (.int .i64)) (ht : P.underlying t = some (.map k e)) {z : Value} (hz : (zeroValue e).run P w = .ok z w) (h : ZIs w b L) (s : Int) (hs : (Lit.int .i64 s).wf = true) (c : Bool) :
    ((Instr.lookup t (.map (some b)) (.int .i64 s) c).run P w = .ok (if c then .tuple #[z, .bool false] else z) w ∧ ∀ p ∈ L, p.1 ≠ s) ∨
      ∃ v, (Instr.lookup t (.map (some b)) (.int .i64 s) c).run P w = .ok (if c then .tuple #[v, .bool true] else v) w ∧ (s, v) ∈ L := by
  obtain ⟨es, clock, hb, _, _, hf⟩ := h.find hk s hs
  have K := Go.Maps.int_keyed hk
  rcases hf with ⟨h1, h2⟩ | ⟨j, v, h1, h2, _⟩
  · exact .inl ⟨by simp [Instr.lookup, run_underlying ht, MapKept.run_getObj_map hb, K.check w _ (Go.Maps.keyOf_int_mk hk hs), h1, hz, Result.andThen], h2⟩
  · exact .inr ⟨v, by simp [Instr.lookup, run_underlying ht, MapKept.run_getObj_map hb, K.check w _ (Go.Maps.keyOf_int_mk hk hs), h1, Result.andThen], List.mem_of_getElem? h2⟩
/-- 'm[s] = v'. -/
theorem ZIs.store {t e : TypeId} (hk : P.underlying k = some (.int .i64)) (ht : P.underlying t = some (.map k e)) (h : ZIs w b L) (s : Int) (hs : (Lit.int .i64 s).wf = true) (v : Value) :
    ∃ w' L', (Instr.mapUpdate t (.map (some b)) (.int .i64 s) v).run P w = .ok () w' ∧ ZIs w' b L' ∧ w.grownBy w' (some b) ∧ w'.heap.size = w.heap.size ∧
      (((∀ p ∈ L, p.1 ≠ s) ∧ L' = L ++ [(s, v)]) ∨ ∃ j u, L[j]? = some (s, u) ∧ L' = L.set j (s, v)) := by
  have h0 := h
  obtain ⟨es, clock, hb, hlen, hm, hf⟩ := h.find hk s hs
  obtain ⟨_, _, hb', _, hz⟩ := h0
  have K := Go.Maps.int_keyed hk
  have hg : ∀ o : Obj, w.grownBy (setBlock w b o) (some b) := fun o => ⟨rfl, rfl, rfl, by simp [setBlock], fun i _ hi => heap_setBlock_other hb o (fun e => hi (by rw [e]))⟩
  rcases hf with ⟨h1, h2⟩ | ⟨j, u, h1, h2, e0, he0, hke, hve⟩
  · refine ⟨setBlock w b (.map (es.push ⟨.int .i64 s, v, clock⟩) (clock + 1)), _, by simp [Instr.mapUpdate, run_underlying ht, MapKept.run_getObj_map hb, K.check w false (Go.Maps.keyOf_int_mk hk hs), h1, MapKept.run_setObj_map _ hb, Result.andThen, setBlock], ⟨_, _, heap_setBlock_same hb _, ?_, ?_⟩, hg _, by simp [setBlock], .inl ⟨h2, rfl⟩⟩
    · rw [Array.toList_push, List.map_append, hm, List.map_append]; rfl
    · intro p hp
      rcases List.mem_append.1 hp with hp | hp
      · exact hz p hp
      · rw [List.mem_singleton] at hp; subst hp; exact hs
  · refine ⟨setBlock w b (.map (es.modify j (fun e' => { e' with key := .int .i64 s, val := v })) clock), _, ?_, ⟨_, _, heap_setBlock_same hb _, ?_, ?_⟩, hg _, by simp [setBlock], .inr ⟨j, u, h2, rfl⟩⟩
    · simp [Instr.mapUpdate, run_underlying ht, MapKept.run_getObj_map hb, K.check w false (Go.Maps.keyOf_int_mk hk hs), h1, he0, hke, K.stays w (Go.Maps.keyOf_int_mk hk hs), MapKept.run_setObj_map _ hb, Result.andThen, setBlock]
    · apply List.ext_getElem?
      intro i
      have hmi := congrArg (fun l => l[i]?) hm
      simp only [List.getElem?_map] at hmi ⊢
      rw [Array.getElem?_toList] at hmi ⊢
      rw [Array.getElem?_modify, List.getElem?_set]
      by_cases hij : j = i
      · subst hij
        simp [he0, (List.getElem?_eq_some_iff.1 h2).1]
      · simp [hij, hmi]
    · intro p hp
      rcases List.mem_or_eq_of_mem_set hp with hp | hp
      · exact hz p hp
      · subst hp; exact hs
end
/-- The maker's methods, by number. -/
def methods (m : Nat) : List (Int × Value) := [(0, .func (.func 68) #[.pointer (some ⟨m, 0, none⟩)] #[]), (1, .func (.func 69) #[.pointer (some ⟨m, 0, none⟩)] #[]), (2, .func (.func 69) #[.pointer (some ⟨m, 0, none⟩)] #[]), (3, .func (.func 69) #[.pointer (some ⟨m, 0, none⟩)] #[]), (4, .func (.func 69) #[.pointer (some ⟨m, 0, none⟩)] #[]), (5, .func (.func 70) #[.pointer (some ⟨m, 0, none⟩)] #[]), (6, .func (.func 71) #[.pointer (some ⟨m, 0, none⟩)] #[]), (7, .func (.func 72) #[.pointer (some ⟨m, 0, none⟩)] #[]), (8, .func (.func 73) #[.pointer (some ⟨m, 0, none⟩)] #[]), (9, .func (.func 73) #[.pointer (some ⟨m, 0, none⟩)] #[]), (10, .func (.func 74) #[.pointer (some ⟨m, 0, none⟩)] #[]), (11, .func (.func 74) #[.pointer (some ⟨m, 0, none⟩)] #[]), (12, .func (.func 75) #[.pointer (some ⟨m, 0, none⟩)] #[]), (13, .func (.func 76) #[.pointer (some ⟨m, 0, none⟩)] #[]), (14, .func (.func 77) #[.pointer (some ⟨m, 0, none⟩)] #[]), (15, .func (.func 78) #[.pointer (some ⟨m, 0, none⟩)] #[])]
theorem ZIs.push {P : Program} {k t e : TypeId} {w : World} {b : Nat} {L : List (Int × Value)} (hk : P.underlying k = some (.int .i64)) (ht : P.underlying t = some (.map k e)) (h : ZIs w b L) (s : Int) (hs : (Lit.int .i64 s).wf = true) (v : Value) (hn : ∀ p ∈ L, p.1 ≠ s) :
    ∃ w', (Instr.mapUpdate t (.map (some b)) (.int .i64 s) v).run P w = .ok () w' ∧ ZIs w' b (L ++ [(s, v)]) ∧ w.grownBy w' (some b) := by
  obtain ⟨w', L', h1, h2, h3, -, h4⟩ := h.store hk ht s hs v
  rcases h4 with ⟨-, rfl⟩ | ⟨j, u, hj, -⟩
  · exact ⟨w', h1, h2, h3⟩
  · exact absurd rfl (hn _ (List.mem_of_getElem? hj))
theorem Trn.own {w w' : World} {b : Nat} (h : w.grownBy w' (some b)) : Trn (fun x => x = b) w w' := Trn.of_grown h fun c e => (Option.some.inj e).symm
set_option maxRecDepth 100000 in
set_option maxHeartbeats 1600000 in
theorem makers_any (m : Nat) (w : World) :
    Calls Tryz.prog 54 #[.pointer (some ⟨m, 0, none⟩)] w fun e w' => e = .returned (.map (some w.heap.size)) ∧ ZIs w' w.heap.size (methods m) ∧ Below w.heap.size w w' := by
  have hmm := @run_makeMap Tryz.prog
  have hmf : ∀ (fn : Fn) (first cap : Array Value) (w : World), (Instr.makeFunc fn first cap).run Tryz.prog w = .ok (.func fn first cap) w := fun _ _ _ _ => rfl
  have z0 := Lib.hid (ZIs.made w)
  have t0 : Trn (fun x => w.heap.size ≤ x) w (w.alloc (.map #[] 0)) := Trn.of_below ((Below.refl _ _).alloc (Nat.le_refl _) _)
  obtain ⟨w1, e0, y0, g0⟩ := z0.out.push (t := 113) Tryz.underlying3 Tryz.underlying113 0 (by decide) (.func (.func 68) #[.pointer (some ⟨m, 0, none⟩)] #[]) (by simp)
  have z1 := Lib.hid y0
  have t1 := t0.step (Trn.own g0) fun i _ h => by have h' : i = w.heap.size := h; show w.heap.size ≤ i; omega
  clear y0 g0
  obtain ⟨w2, e1, y1, g1⟩ := z1.out.push (t := 113) Tryz.underlying3 Tryz.underlying113 1 (by decide) (.func (.func 69) #[.pointer (some ⟨m, 0, none⟩)] #[]) (by simp)
  have z2 := Lib.hid y1
  have t2 := t1.step (Trn.own g1) fun i _ h => by have h' : i = w.heap.size := h; show w.heap.size ≤ i; omega
  clear y1 g1
  obtain ⟨w3, e2, y2, g2⟩ := z2.out.push (t := 113) Tryz.underlying3 Tryz.underlying113 2 (by decide) (.func (.func 69) #[.pointer (some ⟨m, 0, none⟩)] #[]) (by simp)
  have z3 := Lib.hid y2
  have t3 := t2.step (Trn.own g2) fun i _ h => by have h' : i = w.heap.size := h; show w.heap.size ≤ i; omega
  clear y2 g2
  obtain ⟨w4, e3, y3, g3⟩ := z3.out.push (t := 113) Tryz.underlying3 Tryz.underlying113 3 (by decide) (.func (.func 69) #[.pointer (some ⟨m, 0, none⟩)] #[]) (by simp)
  have z4 := Lib.hid y3
  have t4 := t3.step (Trn.own g3) fun i _ h => by have h' : i = w.heap.size := h; show w.heap.size ≤ i; omega
  clear y3 g3
  obtain ⟨w5, e4, y4, g4⟩ := z4.out.push (t := 113) Tryz.underlying3 Tryz.underlying113 4 (by decide) (.func (.func 69) #[.pointer (some ⟨m, 0, none⟩)] #[]) (by simp)
  have z5 := Lib.hid y4
  have t5 := t4.step (Trn.own g4) fun i _ h => by have h' : i = w.heap.size := h; show w.heap.size ≤ i; omega
  clear y4 g4
  obtain ⟨w6, e5, y5, g5⟩ := z5.out.push (t := 113) Tryz.underlying3 Tryz.underlying113 5 (by decide) (.func (.func 70) #[.pointer (some ⟨m, 0, none⟩)] #[]) (by simp)
  have z6 := Lib.hid y5
  have t6 := t5.step (Trn.own g5) fun i _ h => by have h' : i = w.heap.size := h; show w.heap.size ≤ i; omega
  clear y5 g5
  obtain ⟨w7, e6, y6, g6⟩ := z6.out.push (t := 113) Tryz.underlying3 Tryz.underlying113 6 (by decide) (.func (.func 71) #[.pointer (some ⟨m, 0, none⟩)] #[]) (by simp)
  have z7 := Lib.hid y6
  have t7 := t6.step (Trn.own g6) fun i _ h => by have h' : i = w.heap.size := h; show w.heap.size ≤ i; omega
  clear y6 g6
  obtain ⟨w8, e7, y7, g7⟩ := z7.out.push (t := 113) Tryz.underlying3 Tryz.underlying113 7 (by decide) (.func (.func 72) #[.pointer (some ⟨m, 0, none⟩)] #[]) (by simp)
  have z8 := Lib.hid y7
  have t8 := t7.step (Trn.own g7) fun i _ h => by have h' : i = w.heap.size := h; show w.heap.size ≤ i; omega
  clear y7 g7
  obtain ⟨w9, e8, y8, g8⟩ := z8.out.push (t := 113) Tryz.underlying3 Tryz.underlying113 8 (by decide) (.func (.func 73) #[.pointer (some ⟨m, 0, none⟩)] #[]) (by simp)
  have z9 := Lib.hid y8
  have t9 := t8.step (Trn.own g8) fun i _ h => by have h' : i = w.heap.size := h; show w.heap.size ≤ i; omega
  clear y8 g8
  obtain ⟨w10, e9, y9, g9⟩ := z9.out.push (t := 113) Tryz.underlying3 Tryz.underlying113 9 (by decide) (.func (.func 73) #[.pointer (some ⟨m, 0, none⟩)] #[]) (by simp)
  have z10 := Lib.hid y9
  have t10 := t9.step (Trn.own g9) fun i _ h => by have h' : i = w.heap.size := h; show w.heap.size ≤ i; omega
  clear y9 g9
  obtain ⟨w11, e10, y10, g10⟩ := z10.out.push (t := 113) Tryz.underlying3 Tryz.underlying113 10 (by decide) (.func (.func 74) #[.pointer (some ⟨m, 0, none⟩)] #[]) (by simp)
  have z11 := Lib.hid y10
  have t11 := t10.step (Trn.own g10) fun i _ h => by have h' : i = w.heap.size := h; show w.heap.size ≤ i; omega
  clear y10 g10
  obtain ⟨w12, e11, y11, g11⟩ := z11.out.push (t := 113) Tryz.underlying3 Tryz.underlying113 11 (by decide) (.func (.func 74) #[.pointer (some ⟨m, 0, none⟩)] #[]) (by simp)
  have z12 := Lib.hid y11
  have t12 := t11.step (Trn.own g11) fun i _ h => by have h' : i = w.heap.size := h; show w.heap.size ≤ i; omega
  clear y11 g11
  obtain ⟨w13, e12, y12, g12⟩ := z12.out.push (t := 113) Tryz.underlying3 Tryz.underlying113 12 (by decide) (.func (.func 75) #[.pointer (some ⟨m, 0, none⟩)] #[]) (by simp)
  have z13 := Lib.hid y12
  have t13 := t12.step (Trn.own g12) fun i _ h => by have h' : i = w.heap.size := h; show w.heap.size ≤ i; omega
  clear y12 g12
  obtain ⟨w14, e13, y13, g13⟩ := z13.out.push (t := 113) Tryz.underlying3 Tryz.underlying113 13 (by decide) (.func (.func 76) #[.pointer (some ⟨m, 0, none⟩)] #[]) (by simp)
  have z14 := Lib.hid y13
  have t14 := t13.step (Trn.own g13) fun i _ h => by have h' : i = w.heap.size := h; show w.heap.size ≤ i; omega
  clear y13 g13
  obtain ⟨w15, e14, y14, g14⟩ := z14.out.push (t := 113) Tryz.underlying3 Tryz.underlying113 14 (by decide) (.func (.func 77) #[.pointer (some ⟨m, 0, none⟩)] #[]) (by simp)
  have z15 := Lib.hid y14
  have t15 := t14.step (Trn.own g14) fun i _ h => by have h' : i = w.heap.size := h; show w.heap.size ≤ i; omega
  clear y14 g14
  obtain ⟨w16, e15, y15, g15⟩ := z15.out.push (t := 113) Tryz.underlying3 Tryz.underlying113 15 (by decide) (.func (.func 78) #[.pointer (some ⟨m, 0, none⟩)] #[]) (by simp)
  have z16 := Lib.hid y15
  have t16 := t15.step (Trn.own g15) fun i _ h => by have h' : i = w.heap.size := h; show w.heap.size ≤ i; omega
  clear y15 g15
  have HT := Lib.hid t16
  clear t0 t1 t2 t3 t4 t5 t6 t7 t8 t9 t10 t11 t12 t13 t14 t15 t16 z0 z1 z2 z3 z4 z5 z6 z7 z8 z9 z10 z11 z12 z13 z14 z15
  go_enter Tryz.func54, Tryz.ntmps54
  go_wp2_with fail
  go_ret
  exact ⟨rfl, z16.out, HT.out.below _ (Nat.le_refl _) fun i hi h => by omega⟩
end Go.Proofs.YtfdinncgncbmfaaGreatDoor
