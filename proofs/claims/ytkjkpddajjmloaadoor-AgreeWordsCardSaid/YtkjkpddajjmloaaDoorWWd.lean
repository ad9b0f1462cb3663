/- The walk of AgreeWords. Condition: what comes in reads as the plain data; the tables hold what they are laid with. -/
import Derived.Test.YtkjkpddajjmloaaDoorAgT
import Derived.Test.YtkjkpddajjmloaaDoorBmp
import Derived.Test.YtkjkpddajjmloaaDoorZro
set_option linter.unnecessarySimpa false
set_option linter.unusedVariables false
set_option linter.unusedSimpArgs false
namespace Go.Proofs.YtkjkpddajjmloaaDoor
open Go.ChangeShapes Go.WideShapes Go.ChangeAt Go.RowKit
theorem FlatC.width {w : World} {f : FlatD} {c : Array Value} (h : FlatC w f c) : c[0]? = some (.int .i64 f.width) := by obtain ⟨a, b, d, e, rfl, _⟩ := h; rfl
theorem zeros_num (m : Nat) : (Builtin.zeroCells (Value.int .u64 0).cells m).toList = (List.replicate m (0 : Int)).flatMap cellsNum := by
  have h : ∀ m : Nat, (List.replicate m (0 : Int)).flatMap cellsNum = List.replicate m (.int .u64 0) := fun m => by
    induction m with
    | zero => rfl
    | succ m ih => rw [List.replicate_succ, List.flatMap_cons, ih]; rfl
  rw [h]
  refine List.ext_getElem? fun i => ?_
  have e : (Builtin.zeroCells (Value.int .u64 0).cells m).toList = (List.range m).map fun _ => Value.int .u64 0 := by
    show ((Array.range (m * 1)).map fun i => (#[Value.int .u64 0] : Array Value)[i % 1]!).toList = _
    rw [Nat.mul_one]
    simp [Nat.mod_one]
  rw [e, List.getElem?_map, List.getElem?_replicate]
  by_cases hi : i < m
  · rw [List.getElem?_eq_getElem (by simpa using hi), if_pos hi]; rfl
  · rw [List.getElem?_eq_none (by simpa using hi), if_neg hi]; rfl
theorem zeros_one (m : Nat) : ∀ u ∈ (Builtin.zeroCells (Value.int .u64 0).cells m).toList, u.oneCell' = true := by
  intro u hu
  rw [zeros_num] at hu
  obtain ⟨x, hx, hu⟩ := List.mem_flatMap.1 hu
  simp [cellsNum] at hu
  subst hu; rfl
set_option maxRecDepth 100000 in
set_option maxHeartbeats 3200000 in
theorem words_walk (f : FlatD) (cF : Array Value) (q : PolD) (cP : Array Value) (level : Int) (av : Value) (A : List (List Int)) (bv : Value) (B : List (List Int)) (times zeros : Int) (w : World) (hF : FlatC w f cF) (hP : PolC w q cP) (hlv : InI64 level) (ha : RdLists none w av A) (hb : RdLists none w bv B) (ht8 : InU8 times) (hz8 : InU8 zeros) (hL : Laid w) (hT : BitsAt w) :
    Calls Tryd.prog 6 #[.agg cF, .agg cP, .int .i64 level, av, bv, .int .u8 times, .int .u8 zeros] w fun e w' => e = .returned (.bool true) ∧ Below w.heap.size w w' := by
  obtain ⟨zz, rfl⟩ : ∃ zz : Nat, zeros = zz := ⟨zeros.toNat, by have := hz8.1; omega⟩
  have hzb : zz ≤ 255 := by have := hz8.2; omega
  have ht0 := ht8.1
  have ht1 := ht8.2
  clear ht8 hz8
  obtain ⟨aa, ac, rfl⟩ := ha.is
  obtain ⟨ba, bc, rfl⟩ := hb.is
  have HFI := Lib.hid hF.info
  have HPI := Lib.hid hP.info
  have HF := Lib.hid hF
  have HP := Lib.hid hP
  have HA := Lib.hid ha
  have HBB := Lib.hid hb
  have HL := Lib.hid hL
  have HT := Lib.hid hT
  have HLV := Lib.hid hlv
  clear hF hP ha hb hL hT hlv
  have hal := ((Below.refl w.heap.size w).alloc (Nat.le_refl _) (.cells cF 43)).alloc (by simp) (.cells cP 46)
  have hx := heap2_of (w := w) (A := .cells cF 43 (0, 0)) (B := .cells cP 46 (0, 0)) (Below.refl _ _)
  have B0 := Lib.hid hal
  have HGF0 := Lib.hid hx.1
  have HGP0 := Lib.hid hx.2.1
  clear hal hx
  go_enter Tryd.func6, Tryd.ntmps6
  go_upto_region 1 with fail
  generalize (w.alloc (.cells cF 43)).alloc (.cells cP 46) = W at *
  have hsz : w.heap.size + 1 < W.heap.size := (Array.getElem?_eq_some_iff.1 HGP0.out).1
  have hal2 := (Below.refl W.heap.size W).alloc (Nat.le_refl _) (.cells #[.slice aa A.length ac, .slice ba B.length bc] 47)
  have hb2 := bcomp B0.out hal2
  have HFN := Lib.hid (fine_any f q cF cP _ [A, B] _ (HF.out.keep hb2) (HP.out.keep hb2) (runs_two (heap_alloc_new W (.cells #[.slice aa A.length ac, .slice ba B.length bc] 47)) (HA.out.keep hb2) (HBB.out.keep hb2)) (by simp))
  have BX := Lib.hid hal2
  have B00 := Lib.hid hb2
  clear hal2 hb2
  by_cases hfi : fineB f q [A, B] = true
  case neg =>
    rw [Bool.eq_false_iff.2 hfi] at HFN
    go_wp2_with (first | (refine wpList_load_row rfl 43 (.tmp 7) rfl w.heap.size rfl 43 cF (0, 0) _ ?l1 Tryd.underlying43 rfl ?i1 ?_; exact HGF0.out; exact HFI.out) | (refine wpList_load_row rfl 46 (.tmp 8) rfl (w.heap.size + 1) rfl 46 cP (0, 0) _ ?l2 Tryd.underlying46 rfl ?i2 ?_; exact HGP0.out; exact HPI.out) | (go_at_call 21; refine HFN.out.mono ?_; rintro e z1 ⟨rfl, hz⟩; have B1 := Lib.hid (bcomp B00.out hz); have HAW := Lib.hid (awake_any z1 (HL.out.keep B1.out) (HT.out.keep B1.out)); clear hz) | (go_at_call 16; refine HAW.out.mono ?_; rintro e z2 ⟨rfl, hz⟩; have B2 := Lib.hid (bcomp B1.out hz); clear hz))
    go_ret
    exact ⟨rfl, B2.out⟩
  rw [hfi] at HFN
  have hsA := short_fits (fine_short hfi (A := A) (by simp))
  have hsB := short_fits (fine_short hfi (A := B) (by simp))
  have hlA : A.length ≤ 1000000 := by have := (fine_short hfi (A := A) (by simp)).1; omega
  have hlB : B.length ≤ 1000000 := by have := (fine_short hfi (A := B) (by simp)).1; omega
  have hsm := fine_small hfi
  have hs20 : ∀ l ∈ A, l.length ≤ 20 := (fine_short hfi (A := A) (by simp)).2
  have HS20 := Lib.hid hs20
  have HSM := Lib.hid hsm
  clear hs20 hsm
  have HSA := Lib.hid hsA
  have HSB := Lib.hid hsB
  have HLA := Lib.hid hlA
  have HLB := Lib.hid hlB
  have HA40 : Hid (A.length ≤ 40) := (fine_short hfi (A := A) (by simp)).1
  clear hfi hsA hsB hlA hlB
  go_upto_region 3 with (first | (refine wpList_load_row rfl 43 (.tmp 7) rfl w.heap.size rfl 43 cF (0, 0) _ ?l3 Tryd.underlying43 rfl ?i3 ?_; exact HGF0.out; exact HFI.out) | (refine wpList_load_row rfl 46 (.tmp 8) rfl (w.heap.size + 1) rfl 46 cP (0, 0) _ ?l4 Tryd.underlying46 rfl ?i4 ?_; exact HGP0.out; exact HPI.out) | (go_at_call 21; refine HFN.out.mono ?_; rintro e z1 ⟨rfl, hz⟩; have BZ0 := Lib.hid (bcomp BX.out hz); clear hz))
  have B1 := Lib.hid (bcomp B0.out BZ0.out)
  have HGF1 := Lib.hid ((BZ0.out.block _ (Array.getElem?_eq_some_iff.1 HGF0.out).1).trans HGF0.out)
  have HGP1 := Lib.hid ((BZ0.out.block _ (Array.getElem?_eq_some_iff.1 HGP0.out).1).trans HGP0.out)
  clear HFN BX B00 BZ0 HGF0 HGP0
  have hok : flatOk f = true := by have h := HSM.out.1; unfold flatE at h; split at h; assumption; cases h
  have hw1 : 1 ≤ f.width := (headP hok).w1
  have hw3 : f.width ≤ 3 := HSM.out.2.1
  obtain ⟨m, hm⟩ : ∃ m : Nat, zz % 5 = m := ⟨_, rfl⟩
  have hm5 : m < 5 := by omega
  have HZM : Hid ((zz : Int) % 5 = (m : Int)) := by show _ = _; omega
  have HOK := Lib.hid hok
  have HC := Lib.hid (copyListsOwn _ A z1 (HA.out.keep B1.out))
  obtain ⟨i1, hj, hy0, hy1, hy2⟩ := info_parts infoNum
  clear hm hok
  go_upto_region 4 with (go_at_call 23; refine HC.out.mono ?_; rintro e z2 ⟨ov, vs, rfl, ho, hz⟩; obtain ⟨la, lc, rfl, -⟩ := own_read ho.own; have HO := Lib.hid ho; have BZ1 := Lib.hid hz; clear ho hz)
  have HVL : Hid (vs.length = A.length) := HO.out.len
  have hlt0 : w.heap.size < z1.heap.size := (Array.getElem?_eq_some_iff.1 HGF1.out).1
  have hA40 : A.length ≤ 40 := HA40.out
  have HAL := Lib.hid (bumpA_len times f.width m A)
  have HK : Hid (∀ w', Below z1.heap.size z1 w' → w'.cell? ⟨w.heap.size, 0, none⟩ = some (.int .i64 f.width)) := fun w' hb => row_of ((hb.block _ hlt0).trans HGF1.out) 0 _ HF.out.width
  clear HC
  go_wp2_with fail
  go_loopw [16, 17] (fun i _ wr => ∃ n : Nat, n ≤ A.length ∧ i = .int .i64 n ∧ (∃ vs' : List Value, vs'.length = vs.length ∧ OwnL z1.heap.size wr (.slice la vs.length lc) vs' (midI (bumpA times f.width m A) A n)) ∧ Below z1.heap.size z1 wr) (fun i _ _ => A.length - (intOf i).toNat)
  case atStart => exact ⟨0, Nat.zero_le _, rfl, ⟨vs, rfl, by simpa [midI] using HO.out⟩, BZ1.out⟩
  case round =>
    obtain ⟨n, hn, rfl, ⟨vs2, hv2, ho⟩, hb⟩ := hrel
    obtain ⟨w9, rfl⟩ : ∃ x : World, x = wr := ⟨_, rfl⟩
    have HV2 := Lib.hid hv2
    have HB9 := Lib.hid hb
    have HO9 := Lib.hid ho
    clear hv2 hb
    by_cases hlt : n < A.length
    · obtain ⟨l0, hl0⟩ : ∃ l0, A[n]? = some l0 := ⟨_, List.getElem?_eq_getElem hlt⟩
      have hl20 : l0.length ≤ 20 := HS20.out l0 (List.mem_of_getElem? hl0)
      have hln : (midI (bumpA times f.width m A) A n)[n]? = some l0 := by rw [midI_at HAL.out hlt]; exact hl0
      have hn1 : (n : Int) < (vs.length : Int) := by have := HVL.out; omega
      have hn40 : n ≤ 40 := by omega
      have HAN := Lib.hid (bumpA_at (T := times) (W := f.width) (z := m) hl0)
      have HLN := Lib.hid hln
      have HML := Lib.hid (bumpM_len times f.width l0)
      clear hln hl0
      obtain ⟨g, gc, u, e1, hu, hcu, hfu, hur, hgn, hgl, hug⟩ := ho.at HLN.out
      rw [HV2.out] at e1
      simp only [Value.slice.injEq, true_and] at e1
      obtain ⟨rfl, rfl⟩ := e1
      obtain ⟨ua, uc, rfl, -⟩ := own_read hur
      have HU := Lib.hid hu
      have HSET0 : Hid ((midI (bumpA times f.width m A) A n).set n l0 = midI (bumpA times f.width m A) A n) := set_same HLN.out
      clear ho hcu hfu hur hug hu
      go_wp2_with fail
      go_loopw [17] (fun kv wr => ∃ k : Nat, k ≤ l0.length ∧ kv = .int .i64 k ∧ OwnL z1.heap.size wr (.slice (some ⟨g, 0, none⟩) vs.length lc) vs2 ((midI (bumpA times f.width m A) A n).set n (midL (bumpM times f.width l0) l0 k)) ∧ Below z1.heap.size z1 wr) (fun kv _ => l0.length - (intOf kv).toNat)
      case atStart => exact ⟨0, Nat.zero_le _, rfl, by rw [midL_zero, HSET0.out]; exact HO9.out, HB9.out⟩
      case round =>
        obtain ⟨k, hk, rfl, ho, hb⟩ := hrel
        obtain ⟨w10, rfl⟩ : ∃ x : World, x = wr := ⟨_, rfl⟩
        have HLK := Lib.hid (midL_len HML.out hk)
        have hat : ((midI (bumpA times f.width m A) A n).set n (midL (bumpM times f.width l0) l0 k))[n]? = some (midL (bumpM times f.width l0) l0 k) := List.getElem?_set_self (by rw [midI_len HAL.out hn]; exact hlt)
        obtain ⟨g', gc', u', e1, hu', hcu, hfu, hur, hgn', hgl', hug⟩ := ho.at hat
        rw [HV2.out] at e1
        simp only [Value.slice.injEq, Option.some.injEq, Addr.mk.injEq, and_true, true_and] at e1
        obtain ⟨rfl, rfl⟩ := e1
        rw [HU.out] at hu'
        cases hu'
        have y0 := HK.out w10 hb
        have HO10 := Lib.hid ho
        have HB10 := Lib.hid hb
        have HUR := Lib.hid hur
        have HAT := Lib.hid hat
        clear ho hb hur hat hfu
        by_cases hk0 : k < l0.length
        · have hk1 : (k : Int) < (l0.length : Int) := by omega
          obtain ⟨x0, hx0⟩ : ∃ x0, l0[k]? = some x0 := ⟨_, List.getElem?_eq_getElem hk0⟩
          have hmk : (midL (bumpM times f.width l0) l0 k)[k]? = some x0 := by rw [midL_at HML.out hk0]; exact hx0
          have HMS := Lib.hid (midL_set HML.out (bumpM_at (T := times) (W := f.width) hx0))
          have HADD : Hid (bumpN times f.width x0 = IntKind.u64.wrap (x0 + IntKind.u64.wrap (times * 2 ^ f.width.toNat))) := rfl
          obtain ⟨ub, uc2, cur, e2, hcur, hub, hcl, hfr⟩ := own_in HUR.out (by rw [kNum_len, HLK.out]; omega)
          rw [HLK.out] at e2
          simp only [Value.slice.injEq, true_and] at e2
          obtain ⟨rfl, rfl⟩ := e2
          have hcur' := Lib.hid hcur
          have HCL := Lib.hid (hcl k _ (kNum_at hmk))
          have hx0in : InU64 x0 := HO10.out.ok _ (List.mem_of_getElem? HAT.out) x0 (List.mem_of_getElem? hmk)
          have hx00 := hx0in.1
          have hx01 := hx0in.2
          have hu64 : IntKind.u64.wrap times = times := by rw [IntKind.wrap_u64]; omega
          clear hmk hx0 hcl hfr hcur hug hgl' hgn' hx0in
          go_upto_region 10 with fail
          have i1c := ext_cell hcu
          have i2c := ext_cell y0
          have i4c := ext_cell HCL.out
          clear hcu y0
          (refine wp_region_calm_tail 15 (by kernel_rfl) (by kernel_rfl) ?_; simp only [List.take_succ_cons, List.take_zero, List.drop_succ_cons, List.drop_zero]; (repeat (go_big_quiet_step (fail))); refine wpQuiet_nil ?_; intro wc hwc)
          have hcw := (hwc.block ub (Array.getElem?_eq_some_iff.1 hcur'.out).1).trans hcur'.out
          have c1 := cell_keep hwc HCL.out
          have f1 := frozen_of_row wc ub k _ _ hcw
          have hse := (HO10.out.keep hwc).setElem HU.out HAT.out k (bumpN times f.width x0) (wrap_in _)
          rw [set_twice, HMS.out, HADD.out] at hse
          have HSE := Lib.hid hse
          have HBE : Hid (Below z1.heap.size z1 (wc.setCell ⟨ub, k, none⟩ (.int .u64 (IntKind.u64.wrap (x0 + IntKind.u64.wrap (times * 2 ^ f.width.toNat)))))) := (HB10.out.trans (hwc.mono (by have := HB10.out.size; omega))).setCell hub _
          clear hse hcw i1c i2c i4c
          go_wp2_with fail
          go_roundw
          case rel => exact ⟨k + 1, by omega, by go_num, HSE.out, HBE.out⟩
          case measure => simp [intOf]; omega
        · have hk1 : ¬ (k : Int) < (l0.length : Int) := by omega
          obtain rfl : k = l0.length := by omega
          have hend : midL (bumpM times f.width l0) l0 l0.length = bumpM times f.width l0 := midL_end HML.out
          have hur2 := HUR.out
          have HAT2 := HAT
          have HO11 := HO10
          rw [hend] at hur2 HAT2 HO11
          have hur3 : w10.ownsRow z1.heap.size 55 1 (.slice ua l0.length uc) l0.length ((bumpM times f.width l0).flatMap cellsNum) := by have h := hur2; rw [HML.out] at h; exact h
          have HU3 := Lib.hid hur3
          have hsz : z1.heap.size ≤ w10.heap.size := by have := HB10.out.size; omega
          have hz5 := HZM.out
          have HGC : Hid (w10.cell? ⟨g, n, none⟩ = some (.slice ua l0.length uc)) := hcu
          have HUG := Lib.hid hug
          have HGL := Lib.hid hgl'
          have HGN := Lib.hid hgn'
          clear HO10 HUR HAT hend hur2 hk hur3 hug hgl' hgn'
          go_wp2_with (at_builtin; refine wpList_append_zeros_own rfl (.tmp 67) (.tmp 70) 54 3 rfl z1.heap.size 55 i1 (.int .u64 0) 1 8 .i64 .i64 Tryd.underlying54 Tryd.underlying3 hj hy0 hy1 hy2 rfl (by decide) _ _ _ rfl HU3.out m rfl (zeros_one m) ?c3 ?c4 hsz ?_)
          case c3 => unfold maxLen; omega
          case c4 => omega
          · intro v' w4 hown' hgrow hblk
            rw [show (Builtin.zeroCells #[Value.int .u64 0] m).toList = _ from zeros_num m, ← List.flatMap_append] at hown'
            have hkk : ∀ b, b < w10.heap.size → (Value.slice ua l0.length uc).ownBlock ≠ some b → w4.heap[b]? = w10.heap[b]? := fun b hbl hne => hgrow.block b hbl (fun e => hne e.symm)
            have hown2 : w4.ownsRow z1.heap.size 55 1 v' (bumpM times f.width l0 ++ List.replicate m 0).length ((bumpM times f.width l0 ++ List.replicate m 0).flatMap cellsNum) := by rw [List.length_append, HML.out, List.length_replicate]; exact hown'
            have hokl : ∀ y ∈ bumpM times f.width l0, InU64 y := HO11.out.ok _ (List.mem_of_getElem? HAT2.out)
            have HOc0 := (HV2.out ▸ HO11.out : OwnL z1.heap.size w10 (.slice (some ⟨g, 0, none⟩) vs2.length lc) vs2 ((midI (bumpA times f.width m A) A n).set n (bumpM times f.width l0)))
            have hN := HOc0.put (i := n) HU.out hkk hown2 (fun b hb => by rcases hblk with e | e; exact .inl (e ▸ hb); right; rw [hb] at e; simp at e; omega) (fun y hy => by rcases List.mem_append.1 hy with h | h; exact hokl y h; rw [(List.mem_replicate.1 h).2]; exact ⟨by decide, by decide⟩)
            rw [set_twice, midI_set HAL.out HAN.out] at hN
            have hN2 : OwnL z1.heap.size (w4.setCell ⟨g, n, none⟩ v') (.slice (some ⟨g, 0, none⟩) vs.length lc) (vs2.set n v') (midI (bumpA times f.width m A) A (n + 1)) := by rw [← HV2.out]; exact hN
            have HN := Lib.hid hN2
            have HBN : Hid (Below z1.heap.size z1 (w4.setCell ⟨g, n, none⟩ v')) := (HB10.out.grown hgrow hsz (own_row_le HU3.out)).setCell HGN.out _
            have hc4 : w4.cell? ⟨g, n, none⟩ = some (.slice ua l0.length uc) := by rw [World.cell?_of_block (hkk g HGL.out HUG.out)]; exact HGC.out
            obtain ⟨cur, hcur⟩ : ∃ cur, w4.heap[g]? = some (.cells cur 54 (0, 0)) := by
              obtain ⟨cs, hr⟩ := own_row HO11.out.own (b := g) rfl; exact ⟨cs, (hkk g HGL.out HUG.out).trans hr⟩
            have hf4 := frozen_of_row w4 g n _ _ hcur
            obtain ⟨ub2, uc2, rfl, -⟩ := own_read hown'
            clear hown' hgrow hN hN2 hown2 hkk hblk hcur HOc0 hokl
            go_wp2_with fail
            go_roundw
            case rel => exact ⟨n + 1, by omega, by go_num, ⟨_, by simpa using HV2.out, HN.out⟩, HBN.out⟩
            case measure => simp [intOf]; omega
    · obtain rfl : n = A.length := by omega
      have hn1 : ¬ ((A.length : Nat) : Int) < (vs.length : Int) := by have := HVL.out; omega
      have hoe : OwnL z1.heap.size w9 (.slice la vs.length lc) vs2 (bumpA times f.width m A) := by have h := ho; rw [midI_end HAL.out] at h; exact h
      have hA1 : (bumpA times f.width m A).length ≤ 1000000 := by rw [HAL.out]; omega
      have hzA1 : ∀ l ∈ (bumpA times f.width m A), l.length ≤ 1000000 := by
        intro l hl
        unfold bumpA at hl
        obtain ⟨l1, h1, rfl⟩ := List.mem_map.1 hl
        have := HS20.out l1 h1
        unfold bumpL
        rw [List.length_append, bumpM_len, List.length_replicate]; omega
      have HRO := Lib.hid (hoe.rd hA1 hzA1).forget
      have HSA1 := Lib.hid hzA1
      clear hoe ho hA1 hzA1 HO HK HV2 hlt hn
      have B2 := Lib.hid (bcomp B1.out HB9.out)
      have HGF2 := Lib.hid ((HB9.out.block _ (Array.getElem?_eq_some_iff.1 HGF1.out).1).trans HGF1.out)
      have HGP2 := Lib.hid ((HB9.out.block _ (Array.getElem?_eq_some_iff.1 HGP1.out).1).trans HGP1.out)
      clear HGF1 HGP1
      obtain ⟨V, hV⟩ : ∃ V, leaksB f q level A B = V := ⟨_, rfl⟩
      obtain ⟨E, hE⟩ : ∃ E, leaksErr f q level A B = E := ⟨_, rfl⟩
      have h1 := leaks_any f q cF cP level _ _ A B w9 (HF.out.keep B2.out) (HP.out.keep B2.out) (HL.out.keep B2.out) (HT.out.keep B2.out) HLV.out (HA.out.keep B2.out) (HBB.out.keep B2.out) HSA.out HSB.out
      rw [hV, hE] at h1
      have HK1 := Lib.hid h1
      obtain ⟨bl1, bl2⟩ := bump_leaks (f := f) (q := q) (lv := level) (A := A) (B := B) HOK.out times m
      have HV2 : Hid (leaksB f q level (bumpA times f.width m A) B = V) := by show _ = _; rw [← bl1]; exact hV
      have HE2 : Hid (leaksErr f q level (bumpA times f.width m A) B = E) := by show _ = _; rw [← bl2]; exact hE
      clear h1 hV hE bl1 bl2
      go_upto_region 13 with (first | (refine wpList_load_row rfl 43 (.tmp 7) rfl w.heap.size rfl 43 cF (0, 0) _ ?l5 Tryd.underlying43 rfl ?i5 ?_; exact HGF2.out; exact HFI.out) | (refine wpList_load_row rfl 46 (.tmp 8) rfl (w.heap.size + 1) rfl 46 cP (0, 0) _ ?l6 Tryd.underlying46 rfl ?i6 ?_; exact HGP2.out; exact HPI.out) | (go_at_call 22; refine HK1.out.mono ?_; rintro e z3 ⟨rfl, hz⟩; have BZ2 := Lib.hid hz; clear hz))
      have B3 := Lib.hid (bcomp B2.out BZ2.out)
      have HGF3 := Lib.hid ((BZ2.out.block _ (Array.getElem?_eq_some_iff.1 HGF2.out).1).trans HGF2.out)
      have HGP3 := Lib.hid ((BZ2.out.block _ (Array.getElem?_eq_some_iff.1 HGP2.out).1).trans HGP2.out)
      have h2 := leaks_any f q cF cP level _ _ (bumpA times f.width m A) B z3 (HF.out.keep B3.out) (HP.out.keep B3.out) (HL.out.keep B3.out) (HT.out.keep B3.out) HLV.out (HRO.out.keep BZ2.out) (HBB.out.keep B3.out) HSA1.out HSB.out
      rw [HV2.out, HE2.out] at h2
      have HK2 := Lib.hid h2
      clear h2 HV2 HE2 HK1 BZ2 HGF2 HGP2 HRO
      go_upto_region 14 with (first | (refine wpList_load_row rfl 43 (.tmp 7) rfl w.heap.size rfl 43 cF (0, 0) _ ?l7 Tryd.underlying43 rfl ?i7 ?_; exact HGF3.out; exact HFI.out) | (refine wpList_load_row rfl 46 (.tmp 8) rfl (w.heap.size + 1) rfl 46 cP (0, 0) _ ?l8 Tryd.underlying46 rfl ?i8 ?_; exact HGP3.out; exact HPI.out) | (go_at_call 22; refine HK2.out.mono ?_; rintro e z4 ⟨rfl, hz⟩; have BZ3 := Lib.hid hz; clear hz))
      have B4 := Lib.hid (bcomp B3.out BZ3.out)
      have HAW := Lib.hid (awake_any z4 (HL.out.keep B4.out) (HT.out.keep B4.out))
      have hEE : (E == E) = true := by simp
      clear HK2 BZ3 HGF3 HGP3 HF HP HA HBB HL HT
      cases V <;> (go_wp2_with (go_at_call 16; refine HAW.out.mono ?_; rintro e z5 ⟨rfl, hz⟩; have B5 := Lib.hid (bcomp B4.out hz); clear hz)
                   go_ret
                   exact ⟨rfl, B5.out⟩)
end Go.Proofs.YtkjkpddajjmloaaDoor
