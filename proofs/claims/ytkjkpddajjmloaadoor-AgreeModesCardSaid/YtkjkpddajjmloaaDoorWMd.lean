/- The walk of AgreeModes. Condition: what comes in reads as the plain data; the tables hold what they are laid with. -/
import Derived.Test.YtkjkpddajjmloaaDoorWHd
set_option linter.unnecessarySimpa false
set_option linter.unusedVariables false
set_option linter.unusedSimpArgs false
namespace Go.Proofs.YtkjkpddajjmloaaDoor
open Go.ChangeShapes Go.WideShapes Go.ChangeAt Go.RowKit
theorem runs_one {w : World} {g : Nat} {u : Value} {A : List (List Int)} (h : w.heap[g]? = some (.cells #[u] 47 (0, 0))) (ha : RdLists none w u A) : RdRuns w (.slice (some ⟨g, 0, none⟩) 1 1) [A] := by
  refine ⟨_, 1, rfl, fun i X hX => ?_⟩
  match i, hX with
  | 0, hX => simp only [List.getElem?_cons_zero, Option.some.injEq] at hX; subst hX; exact ⟨_, row_of h 0 _ rfl, ha⟩
  | i + 1, hX => simp at hX
/-- Without Fuel both modes say the same. -/
theorem modes_law {f : FlatD} {q : PolD} {lv : Int} {A B : List (List Int)} (h1 : holdsErr f { q with sens := true } [A] = 0) (h2 : holdsErr f { q with sens := true } [B] = 0) (g1 : holdsB f { q with sens := true } [A] = true) (g2 : holdsB f { q with sens := true } [B] = true) :
    leaksB f { q with sens := true } lv A B = leaksB f { q with sens := false } lv A B := by
  rw [holdsB_one h1] at g1
  rw [holdsB_one h2] at g2
  refine leaksB_modes (q := q) (fun h => ?_) (fun h => ?_)
  · have e : (runT f A q.steps).status = 2 := h
    simp [e] at g1
  · have e : (runT f B q.steps).status = 2 := h
    simp [e] at g2
set_option maxRecDepth 100000 in
set_option maxHeartbeats 3200000 in
theorem modes_walk (f : FlatD) (cF : Array Value) (q : PolD) (cP : Array Value) (level : Int) (av : Value) (A : List (List Int)) (bv : Value) (B : List (List Int)) (w : World) (hF : FlatC w f cF) (hP : PolC w q cP) (hlv : InI64 level) (ha : RdLists none w av A) (hb : RdLists none w bv B) (hL : Laid w) (hT : BitsAt w) :
    Calls Tryd.prog 8 #[.agg cF, .agg cP, .int .i64 level, av, bv] w fun e w' => e = .returned (.bool true) ∧ Below w.heap.size w w' := by
  obtain ⟨aa, ac, rfl⟩ := ha.is
  obtain ⟨plv, pov, pcv, psv, rfl, hp⟩ := hP
  obtain ⟨la, lc, rfl⟩ := hp.1.is
  obtain ⟨oa, oc, rfl⟩ := hp.2.1.is
  obtain ⟨ca, cc, rfl⟩ := hp.2.2.1.is
  obtain ⟨sa, sc, rfl⟩ := hp.2.2.2.1.is
  have HPQ := Lib.hid hp
  have hP : PolC w q #[.slice la q.levels.length lc, .slice oa q.order.length oc, .slice ca q.chans.length cc, .slice sa q.sites.length sc, .bool q.sens, .int .i64 q.steps, .int .i64 q.paths, .int .i64 q.nodes, .int .i64 q.confs] := ⟨_, _, _, _, rfl, hp⟩
  clear hp
  obtain ⟨ba, bc, rfl⟩ := hb.is
  have HFI := Lib.hid hF.info
  have HPI := Lib.hid hP.info
  have HF := Lib.hid hF
  have HP := Lib.hid hP
  have HA := Lib.hid ha
  have HBB := Lib.hid hb
  have HL := Lib.hid hL
  have HT := Lib.hid hT
  have HLV := Lib.hid hlv
  clear hF hP ha hb hL hT hlv
  have hal := ((Below.refl w.heap.size w).alloc (Nat.le_refl _) (.cells cF 43)).alloc (by simp) (.cells #[.slice la q.levels.length lc, .slice oa q.order.length oc, .slice ca q.chans.length cc, .slice sa q.sites.length sc, .bool q.sens, .int .i64 q.steps, .int .i64 q.paths, .int .i64 q.nodes, .int .i64 q.confs] 46)
  have hx := heap2_of (w := w) (A := .cells cF 43 (0, 0)) (B := .cells #[.slice la q.levels.length lc, .slice oa q.order.length oc, .slice ca q.chans.length cc, .slice sa q.sites.length sc, .bool q.sens, .int .i64 q.steps, .int .i64 q.paths, .int .i64 q.nodes, .int .i64 q.confs] 46 (0, 0)) (Below.refl _ _)
  have B0 := Lib.hid hal
  have HGF0 := Lib.hid hx.1
  have HGP0 := Lib.hid hx.2.1
  clear hal hx
  go_enter Tryd.func8, Tryd.ntmps8
  go_upto_region 1 with fail
  generalize (w.alloc (.cells cF 43)).alloc (.cells #[.slice la q.levels.length lc, .slice oa q.order.length oc, .slice ca q.chans.length cc, .slice sa q.sites.length sc, .bool q.sens, .int .i64 q.steps, .int .i64 q.paths, .int .i64 q.nodes, .int .i64 q.confs] 46) = W at *
  have hsz : w.heap.size + 1 < W.heap.size := (Array.getElem?_eq_some_iff.1 HGP0.out).1
  have hal2 := (Below.refl W.heap.size W).alloc (Nat.le_refl _) (.cells #[.slice aa A.length ac, .slice ba B.length bc] 47)
  have hb2 := bcomp B0.out hal2
  have HFN := Lib.hid (fine_any f q cF #[.slice la q.levels.length lc, .slice oa q.order.length oc, .slice ca q.chans.length cc, .slice sa q.sites.length sc, .bool q.sens, .int .i64 q.steps, .int .i64 q.paths, .int .i64 q.nodes, .int .i64 q.confs] _ [A, B] _ (HF.out.keep hb2) (HP.out.keep hb2) (runs_two (heap_alloc_new W (.cells #[.slice aa A.length ac, .slice ba B.length bc] 47)) (HA.out.keep hb2) (HBB.out.keep hb2)) (by simp))
  have BX := Lib.hid hal2
  have B00 := Lib.hid hb2
  clear hal2 hb2
  by_cases hfi : fineB f q [A, B] = true
  case neg =>
    rw [Bool.eq_false_iff.2 hfi] at HFN
    go_wp2_with (first | (refine wpList_load_row rfl 43 (.tmp 5) rfl w.heap.size rfl 43 cF (0, 0) _ ?l1 Tryd.underlying43 rfl ?i1 ?_; exact HGF0.out; exact HFI.out) | (refine wpList_load_row rfl 46 (.tmp 6) rfl (w.heap.size + 1) rfl 46 #[.slice la q.levels.length lc, .slice oa q.order.length oc, .slice ca q.chans.length cc, .slice sa q.sites.length sc, .bool q.sens, .int .i64 q.steps, .int .i64 q.paths, .int .i64 q.nodes, .int .i64 q.confs] (0, 0) _ ?l2 Tryd.underlying46 rfl ?i2 ?_; exact HGP0.out; exact HPI.out) | (go_at_call 21; refine HFN.out.mono ?_; rintro e z1 ⟨rfl, hz⟩; have B1 := Lib.hid (bcomp B00.out hz); have HAW := Lib.hid (awake_any z1 (HL.out.keep B1.out) (HT.out.keep B1.out)); clear hz) | (go_at_call 16; refine HAW.out.mono ?_; rintro e z2 ⟨rfl, hz⟩; have B2 := Lib.hid (bcomp B1.out hz); clear hz))
    go_ret
    exact ⟨rfl, B2.out⟩
  rw [hfi] at HFN
  have hsA := short_fits (fine_short hfi (A := A) (by simp))
  have hsB := short_fits (fine_short hfi (A := B) (by simp))
  have hlA : A.length ≤ 1000000 := by have := (fine_short hfi (A := A) (by simp)).1; omega
  have hlB : B.length ≤ 1000000 := by have := (fine_short hfi (A := B) (by simp)).1; omega
  have HSA := Lib.hid hsA
  have HSB := Lib.hid hsB
  have HLA := Lib.hid hlA
  have HLB := Lib.hid hlB
  clear hfi hsA hsB hlA hlB
  go_upto_region 3 with (first | (refine wpList_load_row rfl 43 (.tmp 5) rfl w.heap.size rfl 43 cF (0, 0) _ ?l3 Tryd.underlying43 rfl ?i3 ?_; exact HGF0.out; exact HFI.out) | (refine wpList_load_row rfl 46 (.tmp 6) rfl (w.heap.size + 1) rfl 46 #[.slice la q.levels.length lc, .slice oa q.order.length oc, .slice ca q.chans.length cc, .slice sa q.sites.length sc, .bool q.sens, .int .i64 q.steps, .int .i64 q.paths, .int .i64 q.nodes, .int .i64 q.confs] (0, 0) _ ?l4 Tryd.underlying46 rfl ?i4 ?_; exact HGP0.out; exact HPI.out) | (go_at_call 21; refine HFN.out.mono ?_; rintro e z1 ⟨rfl, hz⟩; have BZ0 := Lib.hid (bcomp BX.out hz); clear hz))
  have B1 := Lib.hid (bcomp B0.out BZ0.out)
  have HGF1 := Lib.hid ((BZ0.out.block _ (Array.getElem?_eq_some_iff.1 HGF0.out).1).trans HGF0.out)
  have HGP1 := Lib.hid ((BZ0.out.block _ (Array.getElem?_eq_some_iff.1 HGP0.out).1).trans HGP0.out)
  clear HFN BX B00 BZ0 HGF0 HGP0
  have hsz1 : w.heap.size + 1 < z1.heap.size := (Array.getElem?_eq_some_iff.1 HGP1.out).1
  have HSL : Hid (∀ b ∈ [w.heap.size + 1], b < z1.heap.size) := by
    intro b hb
    simp only [List.mem_cons, List.not_mem_nil, or_false] at hb
    subst hb; exact hsz1
  go_cut [11, 12] from 29 to 31 (fun c11 c12 wx => ∃ g1 g2 : Nat, c11 = .pointer (some ⟨g1, 0, none⟩) ∧ c12 = .pointer (some ⟨g2, 0, none⟩) ∧ g1 ≠ g2 ∧ z1.heap.size ≤ g1 ∧ z1.heap.size ≤ g2 ∧ wx.heap[g1]? = some (.cells #[.slice la q.levels.length lc, .slice oa q.order.length oc, .slice ca q.chans.length cc, .slice sa q.sites.length sc, .bool q.sens, .int .i64 q.steps, .int .i64 q.paths, .int .i64 q.nodes, .int .i64 q.confs] 46 (0, 0)) ∧ wx.heap[g2]? = some (.cells #[.slice la q.levels.length lc, .slice oa q.order.length oc, .slice ca q.chans.length cc, .slice sa q.sites.length sc, .bool q.sens, .int .i64 q.steps, .int .i64 q.paths, .int .i64 q.nodes, .int .i64 q.confs] 46 (0, 0)) ∧ Below z1.heap.size z1 wx)
  case first =>
    have HDR : Hid (∀ b : Nat, z1.drew.heap[b]? = z1.heap[b]?) := fun _ => rfl
    have HD00 : Hid (Below z1.heap.size z1 z1.drew) := (Below.refl _ _).drew
    refine wp_region_mixS [w.heap.size + 1] (.two [0, 1] 2 3 (.one [] 3 (.one [] 4 (.one [] 5 (.fin [])))) (.one [] 2 (.one [] 4 (.one [] 5 (.fin []))))) (fun _ => false) (by kernel_rfl) (by kernel_rfl) rfl (by kernel_rfl) (fun _ d _ _ _ h => by cases d <;> exact h) ?_
    generalize z1.drew = W0 at *
    have HD0 : Hid (Below z1.heap.size z1 W0) := HD00.out
    have HK0 : Hid (∀ b ∈ [w.heap.size + 1], W0.heap[b]? = z1.heap[b]?) := fun b _ => HDR.out b
    refine mix_two (by simp only [opsOf, List.filterMap_cons, List.filterMap_nil, List.getElem?_toArray, List.getElem?_cons_succ, List.getElem?_cons_zero]; rfl) ⟨_, keepS_of HK0.out⟩ ?_
    change wpQuiet _ _ _ _ [_, _] _
    go_big_quiet_want
    refine quiet_load_row 46 (.tmp 6) rfl (w.heap.size + 1) rfl 46 #[.slice la q.levels.length lc, .slice oa q.order.length oc, .slice ca q.chans.length cc, .slice sa q.sites.length sc, .bool q.sens, .int .i64 q.steps, .int .i64 q.paths, .int .i64 q.nodes, .int .i64 q.confs] (0, 0) _ (keepS_row (by simp) HGP1.out) Tryd.underlying46 rfl HPI.out ?_
    simp only [Act.put, List.setIfInBounds_toArray, List.set_cons_succ, List.set_cons_zero, List.getElem_toArray, List.getElem_cons_succ, List.getElem_cons_zero]
    go_big_quiet_on
    go_big_quiet_want
    refine quiet_load_row 46 (.tmp 6) rfl (w.heap.size + 1) rfl 46 #[.slice la q.levels.length lc, .slice oa q.order.length oc, .slice ca q.chans.length cc, .slice sa q.sites.length sc, .bool q.sens, .int .i64 q.steps, .int .i64 q.paths, .int .i64 q.nodes, .int .i64 q.confs] (0, 0) _ (keepS_row (by simp) HGP1.out) Tryd.underlying46 rfl HPI.out ?_
    simp only [Act.put, List.setIfInBounds_toArray, List.set_cons_succ, List.set_cons_zero, List.getElem_toArray, List.getElem_cons_succ, List.getElem_cons_zero]
    go_big_quiet_on
    refine wpQuiet_nil ?_
    refine ⟨?_, ?_⟩
    · refine mix_step rfl ?_
      go_wp2_with fail
      have hz : Below W0.heap.size W0 (W0.alloc (.cells #[.slice none 0 0, .slice none 0 0, .slice none 0 0, .slice none 0 0, .bool false, .int .i64 0, .int .i64 0, .int .i64 0, .int .i64 0] 46)) := (Below.refl _ _).alloc (Nat.le_refl _) _
      have BZ1 := Lib.hid hz
      have HZ1 := Lib.hid (heap_alloc_new W0 (.cells #[.slice none 0 0, .slice none 0 0, .slice none 0 0, .slice none 0 0, .bool false, .int .i64 0, .int .i64 0, .int .i64 0, .int .i64 0] 46))
      have hz1 : z1.heap.size ≤ W0.heap.size := HD0.out.size
      clear hz
      obtain ⟨g1, hg1⟩ : ∃ g, W0.heap.size = g := ⟨_, rfl⟩
      rw [hg1] at HZ1 hz1
      try rw [hg1]
      clear hg1
      generalize W0.alloc (.cells #[.slice none 0 0, .slice none 0 0, .slice none 0 0, .slice none 0 0, .bool false, .int .i64 0, .int .i64 0, .int .i64 0, .int .i64 0] 46) = W1 at *
      have HD1 := Lib.hid (bcomp HD0.out BZ1.out)
      have HK1 : Hid (∀ b ∈ [w.heap.size + 1], W1.heap[b]? = z1.heap[b]?) := fun b hb => (BZ1.out.block b (by have := HSL.out b hb; have := HD0.out.size; omega)).trans (HK0.out b hb)
      refine ⟨by first | exact ⟨_, keepS_of HK1.out⟩ | exact fun _ => ⟨_, keepS_of HK1.out⟩, ?_⟩
      refine mix_now ?_
      refine mix_step rfl ?_
      go_wp2_with fail
      have hz : Below W1.heap.size W1 (W1.alloc (.cells #[.slice none 0 0, .slice none 0 0, .slice none 0 0, .slice none 0 0, .bool false, .int .i64 0, .int .i64 0, .int .i64 0, .int .i64 0] 46)) := (Below.refl _ _).alloc (Nat.le_refl _) _
      have BZ2 := Lib.hid hz
      have HZ2 := Lib.hid (heap_alloc_new W1 (.cells #[.slice none 0 0, .slice none 0 0, .slice none 0 0, .slice none 0 0, .bool false, .int .i64 0, .int .i64 0, .int .i64 0, .int .i64 0] 46))
      have hz2 : z1.heap.size ≤ W1.heap.size := HD1.out.size
      have hlt1 : g1 < W1.heap.size := (Array.getElem?_eq_some_iff.1 HZ1.out).1
      clear hz
      obtain ⟨g2, hg2⟩ : ∃ g, W1.heap.size = g := ⟨_, rfl⟩
      rw [hg2] at HZ2 hz2 hlt1
      try rw [hg2]
      have HZ1' := Lib.hid ((BZ2.out.block _ (by omega)).trans HZ1.out)
      clear hg2
      generalize W1.alloc (.cells #[.slice none 0 0, .slice none 0 0, .slice none 0 0, .slice none 0 0, .bool false, .int .i64 0, .int .i64 0, .int .i64 0, .int .i64 0] 46) = W2 at *
      have HD2 := Lib.hid (bcomp HD1.out BZ2.out)
      have HK2 : Hid (∀ b ∈ [w.heap.size + 1], W2.heap[b]? = z1.heap[b]?) := fun b hb => (BZ2.out.block b (by have := HSL.out b hb; have := HD1.out.size; omega)).trans (HK1.out b hb)
      refine ⟨by first | exact ⟨_, keepS_of HK2.out⟩ | exact fun _ => ⟨_, keepS_of HK2.out⟩, ?_⟩
      have hne : g1 ≠ g2 := by omega
      refine mix_now ?_
      refine mix_step rfl ?_
      simp only [Act.put, List.setIfInBounds_toArray, List.set_cons_succ, List.set_cons_zero, List.getElem_toArray, List.getElem_cons_succ, List.getElem_cons_zero]
      go_wp2_with (refine wpList_store_row rfl 46 (.tmp 11) (.tmp 29) rfl g1 #[.slice la q.levels.length lc, .slice oa q.order.length oc, .slice ca q.chans.length cc, .slice sa q.sites.length sc, .bool q.sens, .int .i64 q.steps, .int .i64 q.paths, .int .i64 q.nodes, .int .i64 q.confs] rfl rfl 46 #[.slice none 0 0, .slice none 0 0, .slice none 0 0, .slice none 0 0, .bool false, .int .i64 0, .int .i64 0, .int .i64 0, .int .i64 0] ?h5 (by as_aux_lemma => kernel_rfl) (by as_aux_lemma => kernel_rfl) (by as_aux_lemma => kernel_rfl) ?_; exact HZ1'.out)
      try simp only [Act.put]
      have hx2 := (setRow_other W2 g1 g2 #[.slice la q.levels.length lc, .slice oa q.order.length oc, .slice ca q.chans.length cc, .slice sa q.sites.length sc, .bool q.sens, .int .i64 q.steps, .int .i64 q.paths, .int .i64 q.nodes, .int .i64 q.confs] (fun e => hne e.symm)).trans HZ2.out
      have hx1 : (W2.setRow g1 #[.slice la q.levels.length lc, .slice oa q.order.length oc, .slice ca q.chans.length cc, .slice sa q.sites.length sc, .bool q.sens, .int .i64 q.steps, .int .i64 q.paths, .int .i64 q.nodes, .int .i64 q.confs]).heap[g1]? = some (.cells #[.slice la q.levels.length lc, .slice oa q.order.length oc, .slice ca q.chans.length cc, .slice sa q.sites.length sc, .bool q.sens, .int .i64 q.steps, .int .i64 q.paths, .int .i64 q.nodes, .int .i64 q.confs] 46 (0, 0)) := setRow_heap _ _ _ _ _ _ HZ1'.out
      have hks : ∀ b ∈ [w.heap.size + 1], (W2.setRow g1 #[.slice la q.levels.length lc, .slice oa q.order.length oc, .slice ca q.chans.length cc, .slice sa q.sites.length sc, .bool q.sens, .int .i64 q.steps, .int .i64 q.paths, .int .i64 q.nodes, .int .i64 q.confs]).heap[b]? = z1.heap[b]? := fun b hb => (setRow_other _ _ _ _ (by have := HSL.out b hb; omega)).trans (HK2.out b hb)
      have HD3 : Hid (Below z1.heap.size z1 (W2.setRow g1 #[.slice la q.levels.length lc, .slice oa q.order.length oc, .slice ca q.chans.length cc, .slice sa q.sites.length sc, .bool q.sens, .int .i64 q.steps, .int .i64 q.paths, .int .i64 q.nodes, .int .i64 q.confs])) := below_row HD2.out hz1 _
      have HX1 := Lib.hid hx1
      have HX2 := Lib.hid hx2
      have HKS := Lib.hid hks
      clear hx1 hx2 hks
      generalize W2.setRow g1 #[.slice la q.levels.length lc, .slice oa q.order.length oc, .slice ca q.chans.length cc, .slice sa q.sites.length sc, .bool q.sens, .int .i64 q.steps, .int .i64 q.paths, .int .i64 q.nodes, .int .i64 q.confs] = W3 at *
      refine ⟨by first | exact ⟨_, keepS_of HKS.out⟩ | exact fun _ => ⟨_, keepS_of HKS.out⟩, ?_⟩
      refine mix_now ?_
      refine mix_step rfl ?_
      try (simp only [Act.put, List.setIfInBounds_toArray, List.set_cons_succ, List.set_cons_zero, List.getElem_toArray, List.getElem_cons_succ, List.getElem_cons_zero])
      go_wp2_with (refine wpList_store_row rfl 46 (.tmp 12) (.tmp 30) rfl g2 #[.slice la q.levels.length lc, .slice oa q.order.length oc, .slice ca q.chans.length cc, .slice sa q.sites.length sc, .bool q.sens, .int .i64 q.steps, .int .i64 q.paths, .int .i64 q.nodes, .int .i64 q.confs] rfl rfl 46 #[.slice none 0 0, .slice none 0 0, .slice none 0 0, .slice none 0 0, .bool false, .int .i64 0, .int .i64 0, .int .i64 0, .int .i64 0] ?h6 (by as_aux_lemma => kernel_rfl) (by as_aux_lemma => kernel_rfl) (by as_aux_lemma => kernel_rfl) ?_; exact HX2.out)
      try simp only [Act.put]
      have hy1 := (setRow_other W3 g2 g1 #[.slice la q.levels.length lc, .slice oa q.order.length oc, .slice ca q.chans.length cc, .slice sa q.sites.length sc, .bool q.sens, .int .i64 q.steps, .int .i64 q.paths, .int .i64 q.nodes, .int .i64 q.confs] hne).trans HX1.out
      have hy2 : (W3.setRow g2 #[.slice la q.levels.length lc, .slice oa q.order.length oc, .slice ca q.chans.length cc, .slice sa q.sites.length sc, .bool q.sens, .int .i64 q.steps, .int .i64 q.paths, .int .i64 q.nodes, .int .i64 q.confs]).heap[g2]? = some (.cells #[.slice la q.levels.length lc, .slice oa q.order.length oc, .slice ca q.chans.length cc, .slice sa q.sites.length sc, .bool q.sens, .int .i64 q.steps, .int .i64 q.paths, .int .i64 q.nodes, .int .i64 q.confs] 46 (0, 0)) := setRow_heap _ _ _ _ _ _ HX2.out
      have hks : ∀ b ∈ [w.heap.size + 1], (W3.setRow g2 #[.slice la q.levels.length lc, .slice oa q.order.length oc, .slice ca q.chans.length cc, .slice sa q.sites.length sc, .bool q.sens, .int .i64 q.steps, .int .i64 q.paths, .int .i64 q.nodes, .int .i64 q.confs]).heap[b]? = z1.heap[b]? := fun b hb => (setRow_other _ _ _ _ (by have := HSL.out b hb; omega)).trans (HKS.out b hb)
      have hd4 : Below z1.heap.size z1 (W3.setRow g2 #[.slice la q.levels.length lc, .slice oa q.order.length oc, .slice ca q.chans.length cc, .slice sa q.sites.length sc, .bool q.sens, .int .i64 q.steps, .int .i64 q.paths, .int .i64 q.nodes, .int .i64 q.confs]) := below_row HD3.out hz2 _
      refine ⟨by first | exact ⟨_, keepS_of hks⟩ | exact fun _ => ⟨_, keepS_of hks⟩, ?_⟩
      refine mix_endH ?_
      go_wp2_with fail
      go_meet
      exact ⟨g1, g2, rfl, rfl, hne, hz1, hz2, hy1, hy2, hd4⟩
    · refine mix_step rfl ?_
      go_wp2_with fail
      have hz : Below W0.heap.size W0 (W0.alloc (.cells #[.slice none 0 0, .slice none 0 0, .slice none 0 0, .slice none 0 0, .bool false, .int .i64 0, .int .i64 0, .int .i64 0, .int .i64 0] 46)) := (Below.refl _ _).alloc (Nat.le_refl _) _
      have BZ1 := Lib.hid hz
      have HZ2 := Lib.hid (heap_alloc_new W0 (.cells #[.slice none 0 0, .slice none 0 0, .slice none 0 0, .slice none 0 0, .bool false, .int .i64 0, .int .i64 0, .int .i64 0, .int .i64 0] 46))
      have hz2 : z1.heap.size ≤ W0.heap.size := HD0.out.size
      clear hz
      obtain ⟨g2, hg2⟩ : ∃ g, W0.heap.size = g := ⟨_, rfl⟩
      rw [hg2] at HZ2 hz2
      try rw [hg2]
      clear hg2
      generalize W0.alloc (.cells #[.slice none 0 0, .slice none 0 0, .slice none 0 0, .slice none 0 0, .bool false, .int .i64 0, .int .i64 0, .int .i64 0, .int .i64 0] 46) = W1 at *
      have HD1 := Lib.hid (bcomp HD0.out BZ1.out)
      have HK1 : Hid (∀ b ∈ [w.heap.size + 1], W1.heap[b]? = z1.heap[b]?) := fun b hb => (BZ1.out.block b (by have := HSL.out b hb; have := HD0.out.size; omega)).trans (HK0.out b hb)
      refine ⟨by first | exact ⟨_, keepS_of HK1.out⟩ | exact fun _ => ⟨_, keepS_of HK1.out⟩, ?_⟩
      refine mix_now ?_
      refine mix_step rfl ?_
      go_wp2_with fail
      have hz : Below W1.heap.size W1 (W1.alloc (.cells #[.slice none 0 0, .slice none 0 0, .slice none 0 0, .slice none 0 0, .bool false, .int .i64 0, .int .i64 0, .int .i64 0, .int .i64 0] 46)) := (Below.refl _ _).alloc (Nat.le_refl _) _
      have BZ2 := Lib.hid hz
      have HZ1 := Lib.hid (heap_alloc_new W1 (.cells #[.slice none 0 0, .slice none 0 0, .slice none 0 0, .slice none 0 0, .bool false, .int .i64 0, .int .i64 0, .int .i64 0, .int .i64 0] 46))
      have hz1 : z1.heap.size ≤ W1.heap.size := HD1.out.size
      have hlt2 : g2 < W1.heap.size := (Array.getElem?_eq_some_iff.1 HZ2.out).1
      clear hz
      obtain ⟨g1, hg1⟩ : ∃ g, W1.heap.size = g := ⟨_, rfl⟩
      rw [hg1] at HZ1 hz1 hlt2
      try rw [hg1]
      have HZ2' := Lib.hid ((BZ2.out.block _ (by omega)).trans HZ2.out)
      clear hg1
      generalize W1.alloc (.cells #[.slice none 0 0, .slice none 0 0, .slice none 0 0, .slice none 0 0, .bool false, .int .i64 0, .int .i64 0, .int .i64 0, .int .i64 0] 46) = W2 at *
      have HD2 := Lib.hid (bcomp HD1.out BZ2.out)
      have HK2 : Hid (∀ b ∈ [w.heap.size + 1], W2.heap[b]? = z1.heap[b]?) := fun b hb => (BZ2.out.block b (by have := HSL.out b hb; have := HD1.out.size; omega)).trans (HK1.out b hb)
      refine ⟨by first | exact ⟨_, keepS_of HK2.out⟩ | exact fun _ => ⟨_, keepS_of HK2.out⟩, ?_⟩
      have hne : g1 ≠ g2 := by omega
      refine mix_now ?_
      refine mix_step rfl ?_
      simp only [Act.put, List.setIfInBounds_toArray, List.set_cons_succ, List.set_cons_zero, List.getElem_toArray, List.getElem_cons_succ, List.getElem_cons_zero]
      go_wp2_with (refine wpList_store_row rfl 46 (.tmp 11) (.tmp 29) rfl g1 #[.slice la q.levels.length lc, .slice oa q.order.length oc, .slice ca q.chans.length cc, .slice sa q.sites.length sc, .bool q.sens, .int .i64 q.steps, .int .i64 q.paths, .int .i64 q.nodes, .int .i64 q.confs] rfl rfl 46 #[.slice none 0 0, .slice none 0 0, .slice none 0 0, .slice none 0 0, .bool false, .int .i64 0, .int .i64 0, .int .i64 0, .int .i64 0] ?h7 (by as_aux_lemma => kernel_rfl) (by as_aux_lemma => kernel_rfl) (by as_aux_lemma => kernel_rfl) ?_; exact HZ1.out)
      try simp only [Act.put]
      have hx2 := (setRow_other W2 g1 g2 #[.slice la q.levels.length lc, .slice oa q.order.length oc, .slice ca q.chans.length cc, .slice sa q.sites.length sc, .bool q.sens, .int .i64 q.steps, .int .i64 q.paths, .int .i64 q.nodes, .int .i64 q.confs] (fun e => hne e.symm)).trans HZ2'.out
      have hx1 : (W2.setRow g1 #[.slice la q.levels.length lc, .slice oa q.order.length oc, .slice ca q.chans.length cc, .slice sa q.sites.length sc, .bool q.sens, .int .i64 q.steps, .int .i64 q.paths, .int .i64 q.nodes, .int .i64 q.confs]).heap[g1]? = some (.cells #[.slice la q.levels.length lc, .slice oa q.order.length oc, .slice ca q.chans.length cc, .slice sa q.sites.length sc, .bool q.sens, .int .i64 q.steps, .int .i64 q.paths, .int .i64 q.nodes, .int .i64 q.confs] 46 (0, 0)) := setRow_heap _ _ _ _ _ _ HZ1.out
      have hks : ∀ b ∈ [w.heap.size + 1], (W2.setRow g1 #[.slice la q.levels.length lc, .slice oa q.order.length oc, .slice ca q.chans.length cc, .slice sa q.sites.length sc, .bool q.sens, .int .i64 q.steps, .int .i64 q.paths, .int .i64 q.nodes, .int .i64 q.confs]).heap[b]? = z1.heap[b]? := fun b hb => (setRow_other _ _ _ _ (by have := HSL.out b hb; omega)).trans (HK2.out b hb)
      have HD3 : Hid (Below z1.heap.size z1 (W2.setRow g1 #[.slice la q.levels.length lc, .slice oa q.order.length oc, .slice ca q.chans.length cc, .slice sa q.sites.length sc, .bool q.sens, .int .i64 q.steps, .int .i64 q.paths, .int .i64 q.nodes, .int .i64 q.confs])) := below_row HD2.out hz1 _
      have HX1 := Lib.hid hx1
      have HX2 := Lib.hid hx2
      have HKS := Lib.hid hks
      clear hx1 hx2 hks
      generalize W2.setRow g1 #[.slice la q.levels.length lc, .slice oa q.order.length oc, .slice ca q.chans.length cc, .slice sa q.sites.length sc, .bool q.sens, .int .i64 q.steps, .int .i64 q.paths, .int .i64 q.nodes, .int .i64 q.confs] = W3 at *
      refine ⟨by first | exact ⟨_, keepS_of HKS.out⟩ | exact fun _ => ⟨_, keepS_of HKS.out⟩, ?_⟩
      refine mix_now ?_
      refine mix_step rfl ?_
      try (simp only [Act.put, List.setIfInBounds_toArray, List.set_cons_succ, List.set_cons_zero, List.getElem_toArray, List.getElem_cons_succ, List.getElem_cons_zero])
      go_wp2_with (refine wpList_store_row rfl 46 (.tmp 12) (.tmp 30) rfl g2 #[.slice la q.levels.length lc, .slice oa q.order.length oc, .slice ca q.chans.length cc, .slice sa q.sites.length sc, .bool q.sens, .int .i64 q.steps, .int .i64 q.paths, .int .i64 q.nodes, .int .i64 q.confs] rfl rfl 46 #[.slice none 0 0, .slice none 0 0, .slice none 0 0, .slice none 0 0, .bool false, .int .i64 0, .int .i64 0, .int .i64 0, .int .i64 0] ?h8 (by as_aux_lemma => kernel_rfl) (by as_aux_lemma => kernel_rfl) (by as_aux_lemma => kernel_rfl) ?_; exact HX2.out)
      try simp only [Act.put]
      have hy1 := (setRow_other W3 g2 g1 #[.slice la q.levels.length lc, .slice oa q.order.length oc, .slice ca q.chans.length cc, .slice sa q.sites.length sc, .bool q.sens, .int .i64 q.steps, .int .i64 q.paths, .int .i64 q.nodes, .int .i64 q.confs] hne).trans HX1.out
      have hy2 : (W3.setRow g2 #[.slice la q.levels.length lc, .slice oa q.order.length oc, .slice ca q.chans.length cc, .slice sa q.sites.length sc, .bool q.sens, .int .i64 q.steps, .int .i64 q.paths, .int .i64 q.nodes, .int .i64 q.confs]).heap[g2]? = some (.cells #[.slice la q.levels.length lc, .slice oa q.order.length oc, .slice ca q.chans.length cc, .slice sa q.sites.length sc, .bool q.sens, .int .i64 q.steps, .int .i64 q.paths, .int .i64 q.nodes, .int .i64 q.confs] 46 (0, 0)) := setRow_heap _ _ _ _ _ _ HX2.out
      have hks : ∀ b ∈ [w.heap.size + 1], (W3.setRow g2 #[.slice la q.levels.length lc, .slice oa q.order.length oc, .slice ca q.chans.length cc, .slice sa q.sites.length sc, .bool q.sens, .int .i64 q.steps, .int .i64 q.paths, .int .i64 q.nodes, .int .i64 q.confs]).heap[b]? = z1.heap[b]? := fun b hb => (setRow_other _ _ _ _ (by have := HSL.out b hb; omega)).trans (HKS.out b hb)
      have hd4 : Below z1.heap.size z1 (W3.setRow g2 #[.slice la q.levels.length lc, .slice oa q.order.length oc, .slice ca q.chans.length cc, .slice sa q.sites.length sc, .bool q.sens, .int .i64 q.steps, .int .i64 q.paths, .int .i64 q.nodes, .int .i64 q.confs]) := below_row HD3.out hz2 _
      refine ⟨by first | exact ⟨_, keepS_of hks⟩ | exact fun _ => ⟨_, keepS_of hks⟩, ?_⟩
      refine mix_endH ?_
      go_wp2_with fail
      go_meet
      exact ⟨g1, g2, rfl, rfl, hne, hz1, hz2, hy1, hy2, hd4⟩
  case rest =>
    obtain ⟨g1, g2, rfl, rfl, hne, hz1, hz2, hc1, hc2, hbv⟩ := hcut
    obtain ⟨W4, rfl⟩ : ∃ x : World, x = wc := ⟨_, rfl⟩
    have x1 := row_of hc1 4 (.bool q.sens) rfl
    have x2 := row_of hc2 4 (.bool q.sens) rfl
    have f1 := frozen_of_row W4 g1 4 _ _ hc1
    have f2 := frozen_of_row W4 g2 4 _ _ hc2
    have hn2 : g2 ≠ g1 := fun e => hne e.symm
    have HG1 : Hid (((W4.setCell ⟨g1, 4, none⟩ (.bool true)).setCell ⟨g2, 4, none⟩ (.bool false)).heap[g1]? = some (.cells #[.slice la q.levels.length lc, .slice oa q.order.length oc, .slice ca q.chans.length cc, .slice sa q.sites.length sc, .bool true, .int .i64 q.steps, .int .i64 q.paths, .int .i64 q.nodes, .int .i64 q.confs] 46 (0, 0))) := by
      show _ = _
      rw [heap_setCell_other _ _ _ _ (by simpa using hne), heap_setCell_same _ _ _ _ _ _ hc1]
      rfl
    have HG2 : Hid (((W4.setCell ⟨g1, 4, none⟩ (.bool true)).setCell ⟨g2, 4, none⟩ (.bool false)).heap[g2]? = some (.cells #[.slice la q.levels.length lc, .slice oa q.order.length oc, .slice ca q.chans.length cc, .slice sa q.sites.length sc, .bool false, .int .i64 q.steps, .int .i64 q.paths, .int .i64 q.nodes, .int .i64 q.confs] 46 (0, 0))) := by
      show _ = _
      rw [heap_setCell_same _ _ _ _ _ _ ((heap_setCell_other _ _ _ _ (by simpa using hn2)).trans hc2)]
      rfl
    have hbc : Below z1.heap.size z1 ((W4.setCell ⟨g1, 4, none⟩ (.bool true)).setCell ⟨g2, 4, none⟩ (.bool false)) := (hbv.setCell hz1 _).setCell hz2 _
    have B2 := Lib.hid (bcomp B1.out hbc)
    have HGF2 := Lib.hid ((hbc.block _ (Array.getElem?_eq_some_iff.1 HGF1.out).1).trans HGF1.out)
    have HGP2 := Lib.hid ((hbc.block _ (Array.getElem?_eq_some_iff.1 HGP1.out).1).trans HGP1.out)
    clear hc1 hc2 hbv HGF1 HGP1
    go_upto_region 5 with fail
    clear x1 x2 f1 f2
    generalize ((W4.setCell ⟨g1, 4, none⟩ (.bool true)).setCell ⟨g2, 4, none⟩ (.bool false)) = W5 at *
    have HP1 : Hid (PolC W5 { q with sens := true } #[.slice la q.levels.length lc, .slice oa q.order.length oc, .slice ca q.chans.length cc, .slice sa q.sites.length sc, .bool true, .int .i64 q.steps, .int .i64 q.paths, .int .i64 q.nodes, .int .i64 q.confs]) := ⟨_, _, _, _, rfl, HPQ.out.keep B2.out⟩
    have HP2 : Hid (PolC W5 { q with sens := false } #[.slice la q.levels.length lc, .slice oa q.order.length oc, .slice ca q.chans.length cc, .slice sa q.sites.length sc, .bool false, .int .i64 q.steps, .int .i64 q.paths, .int .i64 q.nodes, .int .i64 q.confs]) := ⟨_, _, _, _, rfl, HPQ.out.keep B2.out⟩
    have HI1 := Lib.hid HP1.out.info
    have HI2 := Lib.hid HP2.out.info
    have HF5 := Lib.hid (HF.out.keep B2.out)
    have HL5 := Lib.hid (HL.out.keep B2.out)
    have HT5 := Lib.hid (HT.out.keep B2.out)
    have HA5 := Lib.hid (HA.out.keep B2.out)
    have HB5 := Lib.hid (HBB.out.keep B2.out)
    obtain ⟨E, hE⟩ : ∃ E, leaksErr f q level A B = E := ⟨_, rfl⟩
    obtain ⟨X, hX⟩ : ∃ X, leaksB f { q with sens := true } level A B = X := ⟨_, rfl⟩
    obtain ⟨Y, hY⟩ : ∃ Y, leaksB f { q with sens := false } level A B = Y := ⟨_, rfl⟩
    obtain ⟨H, hH⟩ : ∃ H, holdsErr f { q with sens := true } [A] = H := ⟨_, rfl⟩
    obtain ⟨H2, hH2⟩ : ∃ H, holdsErr f { q with sens := true } [B] = H := ⟨_, rfl⟩
    obtain ⟨V, hV⟩ : ∃ H, holdsB f { q with sens := true } [A] = H := ⟨_, rfl⟩
    obtain ⟨V2, hV2⟩ : ∃ H, holdsB f { q with sens := true } [B] = H := ⟨_, rfl⟩
    have HLAW : Hid (H = 0 → H2 = 0 → V = true → V2 = true → X = Y) := by
      intro a b c d
      rw [← hX, ← hY]
      exact modes_law (hH.trans a) (hH2.trans b) (hV.trans c) (hV2.trans d)
    have HK1 := Lib.hid (fun (z : World) (hz : Below W5.heap.size W5 z) => by have h := leaks_any f { q with sens := true } cF #[.slice la q.levels.length lc, .slice oa q.order.length oc, .slice ca q.chans.length cc, .slice sa q.sites.length sc, .bool true, .int .i64 q.steps, .int .i64 q.paths, .int .i64 q.nodes, .int .i64 q.confs] level _ _ A B z (HF5.out.keep hz) (HP1.out.keep hz) (HL5.out.keep hz) (HT5.out.keep hz) HLV.out (HA5.out.keep hz) (HB5.out.keep hz) HSA.out HSB.out; rw [hX, leaksErr_sens, hE] at h; exact h)
    have HK2 := Lib.hid (fun (z : World) (hz : Below W5.heap.size W5 z) => by have h := leaks_any f { q with sens := false } cF #[.slice la q.levels.length lc, .slice oa q.order.length oc, .slice ca q.chans.length cc, .slice sa q.sites.length sc, .bool false, .int .i64 q.steps, .int .i64 q.paths, .int .i64 q.nodes, .int .i64 q.confs] level _ _ A B z (HF5.out.keep hz) (HP2.out.keep hz) (HL5.out.keep hz) (HT5.out.keep hz) HLV.out (HA5.out.keep hz) (HB5.out.keep hz) HSA.out HSB.out; rw [hY, leaksErr_sens, hE] at h; exact h)
    have HK3 := Lib.hid (fun (z : World) (hz : Below W5.heap.size W5 z) => by
      have hal := (Below.refl z.heap.size z).alloc (Nat.le_refl _) (.cells #[.slice aa A.length ac] 47)
      have hzz := bcomp hz hal
      have h := holds_any f { q with sens := true } cF #[.slice la q.levels.length lc, .slice oa q.order.length oc, .slice ca q.chans.length cc, .slice sa q.sites.length sc, .bool true, .int .i64 q.steps, .int .i64 q.paths, .int .i64 q.nodes, .int .i64 q.confs] _ [A] _ (HF5.out.keep hzz) (HP1.out.keep hzz) (HL5.out.keep hzz) (HT5.out.keep hzz) (runs_one (heap_alloc_new z (.cells #[.slice aa A.length ac] 47)) (HA5.out.keep hzz)) (by simp) (fun A' hA' => by simp at hA'; subst hA'; exact HSA.out)
      rw [hV, hH] at h
      exact h)
    have HK4 := Lib.hid (fun (z : World) (hz : Below W5.heap.size W5 z) => by
      have hal := (Below.refl z.heap.size z).alloc (Nat.le_refl _) (.cells #[.slice ba B.length bc] 47)
      have hzz := bcomp hz hal
      have h := holds_any f { q with sens := true } cF #[.slice la q.levels.length lc, .slice oa q.order.length oc, .slice ca q.chans.length cc, .slice sa q.sites.length sc, .bool true, .int .i64 q.steps, .int .i64 q.paths, .int .i64 q.nodes, .int .i64 q.confs] _ [B] _ (HF5.out.keep hzz) (HP1.out.keep hzz) (HL5.out.keep hzz) (HT5.out.keep hzz) (runs_one (heap_alloc_new z (.cells #[.slice ba B.length bc] 47)) (HB5.out.keep hzz)) (by simp) (fun A' hA' => by simp at hA'; subst hA'; exact HSB.out)
      rw [hV2, hH2] at h
      exact h)
    have HAW := Lib.hid (fun (z : World) (hz : Below W5.heap.size W5 z) => awake_any z (HL5.out.keep hz) (HT5.out.keep hz))
    have HKF := Lib.hid (fun (z : World) (hz : Below W5.heap.size W5 z) => (hz.block _ (Array.getElem?_eq_some_iff.1 HGF2.out).1).trans HGF2.out)
    have HKG1 := Lib.hid (fun (z : World) (hz : Below W5.heap.size W5 z) => (hz.block _ (Array.getElem?_eq_some_iff.1 HG1.out).1).trans HG1.out)
    have HKG2 := Lib.hid (fun (z : World) (hz : Below W5.heap.size W5 z) => (hz.block _ (Array.getElem?_eq_some_iff.1 HG2.out).1).trans HG2.out)
    clear hE hX hY hH hH2 hV hV2
    have hEE : (E != E) = false := by simp
    have B50 := Lib.hid (Below.refl W5.heap.size W5)
    go_upto_region 9 with (first | (refine wpList_load_row rfl 43 (.tmp 5) rfl w.heap.size rfl 43 cF (0, 0) _ ?l9 Tryd.underlying43 rfl ?i9 ?_; exact (HKF.out _ B50.out); exact HFI.out) | (refine wpList_load_row rfl 46 (.tmp 11) rfl g1 rfl 46 #[.slice la q.levels.length lc, .slice oa q.order.length oc, .slice ca q.chans.length cc, .slice sa q.sites.length sc, .bool true, .int .i64 q.steps, .int .i64 q.paths, .int .i64 q.nodes, .int .i64 q.confs] (0, 0) _ ?l10 Tryd.underlying46 rfl ?i10 ?_; exact (HKG1.out _ B50.out); exact HI1.out) | (go_at_call 22; with_reducible refine (HK1.out _ B50.out).mono ?_; rintro e z6 ⟨rfl, hz⟩; have B56 := Lib.hid (bcomp B50.out hz); clear hz) | (refine wpList_load_row rfl 43 (.tmp 5) rfl w.heap.size rfl 43 cF (0, 0) _ ?l11 Tryd.underlying43 rfl ?i11 ?_; exact (HKF.out _ B56.out); exact HFI.out) | (refine wpList_load_row rfl 46 (.tmp 12) rfl g2 rfl 46 #[.slice la q.levels.length lc, .slice oa q.order.length oc, .slice ca q.chans.length cc, .slice sa q.sites.length sc, .bool false, .int .i64 q.steps, .int .i64 q.paths, .int .i64 q.nodes, .int .i64 q.confs] (0, 0) _ ?l12 Tryd.underlying46 rfl ?i12 ?_; exact (HKG2.out _ B56.out); exact HI2.out) | (go_at_call 22; with_reducible refine (HK2.out _ B56.out).mono ?_; rintro e z7 ⟨rfl, hz⟩; have B57 := Lib.hid (bcomp B56.out hz); clear hz))
    go_upto_region 10 with (first | (refine wpList_load_row rfl 43 (.tmp 5) rfl w.heap.size rfl 43 cF (0, 0) _ ?l13 Tryd.underlying43 rfl ?i13 ?_; exact (HKF.out _ B57.out); exact HFI.out) | (refine wpList_load_row rfl 46 (.tmp 11) rfl g1 rfl 46 #[.slice la q.levels.length lc, .slice oa q.order.length oc, .slice ca q.chans.length cc, .slice sa q.sites.length sc, .bool true, .int .i64 q.steps, .int .i64 q.paths, .int .i64 q.nodes, .int .i64 q.confs] (0, 0) _ ?l14 Tryd.underlying46 rfl ?i14 ?_; exact (HKG1.out _ B57.out); exact HI1.out) | (go_at_call 30; refine (HK3.out _ B57.out).mono ?_; rintro e z8 ⟨rfl, hz⟩; have B58 := Lib.hid (bcomp B57.out (bcomp ((Below.refl z7.heap.size z7).alloc (Nat.le_refl _) (.cells #[.slice aa A.length ac] 47)) hz)); clear hz))
    go_upto_region 11 with (first | (refine wpList_load_row rfl 43 (.tmp 5) rfl w.heap.size rfl 43 cF (0, 0) _ ?l15 Tryd.underlying43 rfl ?i15 ?_; exact (HKF.out _ B58.out); exact HFI.out) | (refine wpList_load_row rfl 46 (.tmp 11) rfl g1 rfl 46 #[.slice la q.levels.length lc, .slice oa q.order.length oc, .slice ca q.chans.length cc, .slice sa q.sites.length sc, .bool true, .int .i64 q.steps, .int .i64 q.paths, .int .i64 q.nodes, .int .i64 q.confs] (0, 0) _ ?l16 Tryd.underlying46 rfl ?i16 ?_; exact (HKG1.out _ B58.out); exact HI1.out) | (go_at_call 30; refine (HK4.out _ B58.out).mono ?_; rintro e z9 ⟨rfl, hz⟩; have B59 := Lib.hid (bcomp B58.out (bcomp ((Below.refl z8.heap.size z8).alloc (Nat.le_refl _) (.cells #[.slice ba B.length bc] 47)) hz)); clear hz))
    have HAF := Lib.hid (HAW.out _ B59.out)
    have B29 := Lib.hid (bcomp B2.out B59.out)
    clear HK1 HK2 HK3 HK4 HKF HKG1 HKG2 HAW B50 B56 B57 B58 B59 HF HP HL HT HA HBB HF5 HL5 HT5 HA5 HB5 HP1 HP2
    go_cut [87] from 70 to 88 (fun c wx => wx = z9 ∧ ∃ b : Bool, c = .bool b ∧ (b = false → E = 0 ∧ H = 0 ∧ H2 = 0 ∧ V = true ∧ V2 = true))
    case first =>
      by_cases e0 : E = 0
      · have e1 : (E != 0) = false := by simpa using e0
        by_cases h0 : H = 0
        · have h1 : (H != 0) = false := by simpa using h0
          by_cases i0 : H2 = 0
          · have i1 : (H2 != 0) = false := by simpa using i0
            cases V
            · clear e0 h0 i0
              go_wp2_with fail
              go_meet
              exact ⟨rfl, true, rfl, by simp⟩
            · have HE := Lib.hid (And.intro e0 (And.intro h0 i0))
              clear e0 h0 i0
              cases V2
              · go_wp2_with fail
                go_meet
                exact ⟨rfl, true, rfl, by simp⟩
              · go_wp2_with fail
                go_meet
                exact ⟨rfl, false, rfl, fun _ => ⟨HE.out.1, HE.out.2.1, HE.out.2.2, by first | trivial | rfl, by first | trivial | rfl⟩⟩
          · have i1 : (H2 != 0) = true := by simpa using i0
            clear e0 h0 i0
            go_wp2_with fail
            go_meet
            exact ⟨rfl, true, rfl, by simp⟩
        · have h1 : (H != 0) = true := by simpa using h0
          clear e0 h0
          go_wp2_with fail
          go_meet
          exact ⟨rfl, true, rfl, by simp⟩
      · have e1 : (E != 0) = true := by simpa using e0
        clear e0
        go_wp2_with fail
        go_meet
        exact ⟨rfl, true, rfl, by simp⟩
    case rest =>
      obtain ⟨rfl, bb, rfl, himp⟩ := hcut
      obtain ⟨W9, rfl⟩ : ∃ x : World, x = wc := ⟨_, rfl⟩
      cases bb
      · have hxy : X = Y := by obtain ⟨a, b, c, d, e⟩ := himp rfl; exact HLAW.out b c d e
        subst hxy
        clear himp
        cases X <;> (go_wp2_with (go_at_call 16; refine HAF.out.mono ?_; rintro e zz ⟨rfl, hz⟩; have BF := Lib.hid (bcomp B29.out hz); clear hz)
                     go_ret
                     exact ⟨rfl, BF.out⟩)
      · clear himp
        go_wp2_with (go_at_call 16; refine HAF.out.mono ?_; rintro e zz ⟨rfl, hz⟩; have BF := Lib.hid (bcomp B29.out hz); clear hz)
        go_ret
        exact ⟨rfl, BF.out⟩
end Go.Proofs.YtkjkpddajjmloaaDoor
