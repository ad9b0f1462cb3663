/- The walk of AgreeOpen. Condition: what comes in reads as the plain data; the tables hold what they are laid with. -/
import Derived.Test.YtkjkpddajjmloaaDoorWTn
import Derived.Test.YtkjkpddajjmloaaDoorMixK
set_option linter.unnecessarySimpa false
set_option linter.unusedVariables false
set_option linter.unusedSimpArgs false
namespace Go.Proofs.YtkjkpddajjmloaaDoor
open Go.ChangeShapes Go.WideShapes Go.ChangeAt Go.RowKit
def lowB (b : BindD) : BindD := ⟨b.name, 0⟩
structure LoopI (ws wr : World) (G : Nat) (cs : Value → Array Value) (v : Value) (k : Nat) (l : List BindD) : Prop where
  box : wr.heap[G]? = some (.cells (cs v) 46 (0, 0))
  own : wr.ownsRow ws.heap.size 52 2 v k (((l.take k).map lowB).flatMap cellsBind)
  old : ∀ b, b ≠ G → b < ws.heap.size → wr.heap[b]? = ws.heap[b]?
  size : ws.heap.size ≤ wr.heap.size
/-- The policy with one level. -/
def openQ (q : PolD) : PolD := { q with levels := [⟨#[97, 108, 108]⟩], order := [], chans := q.chans.map lowB, sites := q.sites.map lowB }
set_option maxRecDepth 100000 in
set_option maxHeartbeats 3200000 in
theorem open_walk (f : FlatD) (cF : Array Value) (q : PolD) (cP : Array Value) (level : Int) (av : Value) (A : List (List Int)) (bv : Value) (B : List (List Int)) (w : World) (hF : FlatC w f cF) (hP : PolC w q cP) (hlv : InI64 level) (ha : RdLists none w av A) (hb : RdLists none w bv B) (hL : Laid w) (hT : BitsAt w) :
    Calls Tryd.prog 5 #[.agg cF, .agg cP, .int .i64 level, av, bv] w fun e w' => e = .returned (.bool true) ∧ Below w.heap.size w w' := by
  obtain ⟨aa, ac, rfl⟩ := ha.is
  obtain ⟨ba, bc, rfl⟩ := hb.is
  have HPC := Lib.hid hP
  obtain ⟨lv, ov, cv, sv, rfl, hP⟩ := hP
  obtain ⟨la, lc, rfl⟩ := hP.1.is
  obtain ⟨oa, oc, rfl⟩ := hP.2.1.is
  obtain ⟨ca, cc, rfl⟩ := hP.2.2.1.is
  obtain ⟨sa, sc, rfl⟩ := hP.2.2.2.1.is
  have HFI := Lib.hid hF.info
  have HPI := Lib.hid HPC.out.info
  have HCI := Lib.hid hF.codes
  have HF := Lib.hid hF
  have HP := Lib.hid hP
  have HA := Lib.hid ha
  have HBB := Lib.hid hb
  have HL := Lib.hid hL
  have HT := Lib.hid hT
  have HLV := Lib.hid hlv
  clear hF hP ha hb hL hT hlv
  have hal := ((Below.refl w.heap.size w).alloc (Nat.le_refl _) (.cells cF 43)).alloc (by simp) (.cells #[.slice la q.levels.length lc, .slice oa q.order.length oc, .slice ca q.chans.length cc, .slice sa q.sites.length sc, .bool q.sens, .int .i64 q.steps, .int .i64 q.paths, .int .i64 q.nodes, .int .i64 q.confs] 46)
  have hx := heap2_of (w := w) (A := .cells cF 43 (0, 0)) (B := .cells #[.slice la q.levels.length lc, .slice oa q.order.length oc, .slice ca q.chans.length cc, .slice sa q.sites.length sc, .bool q.sens, .int .i64 q.steps, .int .i64 q.paths, .int .i64 q.nodes, .int .i64 q.confs] 46 (0, 0)) (Below.refl _ _)
  have B0 := Lib.hid hal
  have HGF0 := Lib.hid hx.1
  have HGP0 := Lib.hid hx.2.1
  clear hal hx
  go_enter Tryd.func5, Tryd.ntmps5
  go_upto_region 1 with fail
  generalize (w.alloc (.cells cF 43)).alloc (.cells #[.slice la q.levels.length lc, .slice oa q.order.length oc, .slice ca q.chans.length cc, .slice sa q.sites.length sc, .bool q.sens, .int .i64 q.steps, .int .i64 q.paths, .int .i64 q.nodes, .int .i64 q.confs] 46) = W at *
  have hsz : w.heap.size + 1 < W.heap.size := (Array.getElem?_eq_some_iff.1 HGP0.out).1
  have hal2 := (Below.refl W.heap.size W).alloc (Nat.le_refl _) (.cells #[.slice aa A.length ac, .slice ba B.length bc] 47)
  have hb2 := bcomp B0.out hal2
  have HFN := Lib.hid (fine_any f q cF #[.slice la q.levels.length lc, .slice oa q.order.length oc, .slice ca q.chans.length cc, .slice sa q.sites.length sc, .bool q.sens, .int .i64 q.steps, .int .i64 q.paths, .int .i64 q.nodes, .int .i64 q.confs] _ [A, B] _ (HF.out.keep hb2) (HPC.out.keep hb2) (runs_two (heap_alloc_new W (.cells #[.slice aa A.length ac, .slice ba B.length bc] 47)) (HA.out.keep hb2) (HBB.out.keep hb2)) (by simp))
  have BX := Lib.hid hal2
  have B00 := Lib.hid hb2
  clear hal2 hb2
  by_cases hfi : fineB f q [A, B] = true
  case neg =>
    rw [Bool.eq_false_iff.2 hfi] at HFN
    go_wp2_with (first | (refine wpList_load_row rfl 43 (.tmp 5) rfl w.heap.size rfl 43 cF (0, 0) _ ?l1 Tryd.underlying43 rfl ?i1 ?_; exact HGF0.out; exact HFI.out) | (refine wpList_load_row rfl 46 (.tmp 6) rfl (w.heap.size + 1) rfl 46 #[.slice la q.levels.length lc, .slice oa q.order.length oc, .slice ca q.chans.length cc, .slice sa q.sites.length sc, .bool q.sens, .int .i64 q.steps, .int .i64 q.paths, .int .i64 q.nodes, .int .i64 q.confs] (0, 0) _ ?l2 Tryd.underlying46 rfl ?i2 ?_; exact HGP0.out; exact HPI.out) | (go_at_call 21; refine HFN.out.mono ?_; rintro e z1 ⟨rfl, hz⟩; have B1 := Lib.hid (bcomp B00.out hz); have HAW := Lib.hid (awake_any z1 (HL.out.keep B1.out) (HT.out.keep B1.out)); clear hz) | (go_at_call 16; refine HAW.out.mono ?_; rintro e z2 ⟨rfl, hz⟩; have B2 := Lib.hid (bcomp B1.out hz); clear hz))
    go_ret
    exact ⟨rfl, B2.out⟩
  rw [hfi] at HFN
  have hsA := short_fits (fine_short hfi (A := A) (by simp))
  have hsB := short_fits (fine_short hfi (A := B) (by simp))
  have hbr := fine_brief hfi
  have hn2 : q.chans.length ≤ 40 := hbr.2.2.1
  have hn3 : q.sites.length ≤ 40 := hbr.2.2.2.1
  have HSA := Lib.hid hsA
  have HSB := Lib.hid hsB
  clear hfi hsA hsB hbr
  go_upto_region 3 with (first | (refine wpList_load_row rfl 43 (.tmp 5) rfl w.heap.size rfl 43 cF (0, 0) _ ?l3 Tryd.underlying43 rfl ?i3 ?_; exact HGF0.out; exact HFI.out) | (refine wpList_load_row rfl 46 (.tmp 6) rfl (w.heap.size + 1) rfl 46 #[.slice la q.levels.length lc, .slice oa q.order.length oc, .slice ca q.chans.length cc, .slice sa q.sites.length sc, .bool q.sens, .int .i64 q.steps, .int .i64 q.paths, .int .i64 q.nodes, .int .i64 q.confs] (0, 0) _ ?l4 Tryd.underlying46 rfl ?i4 ?_; exact HGP0.out; exact HPI.out) | (go_at_call 21; refine HFN.out.mono ?_; rintro e z1 ⟨rfl, hz⟩; have BZ0 := Lib.hid (bcomp BX.out hz); clear hz))
  have B1 := Lib.hid (bcomp B0.out BZ0.out)
  have HGF1 := Lib.hid ((BZ0.out.block _ (Array.getElem?_eq_some_iff.1 HGF0.out).1).trans HGF0.out)
  have HGP1 := Lib.hid ((BZ0.out.block _ (Array.getElem?_eq_some_iff.1 HGP0.out).1).trans HGP0.out)
  clear HFN BX B00 BZ0 HGF0 HGP0 B0 hsz
  have hzs : w.heap.size + 1 < z1.heap.size := (Array.getElem?_eq_some_iff.1 HGP1.out).1
  go_upto_region 6 with (refine wpList_load_row rfl 46 (.tmp 6) rfl (w.heap.size + 1) rfl 46 #[.slice la q.levels.length lc, .slice oa q.order.length oc, .slice ca q.chans.length cc, .slice sa q.sites.length sc, .bool q.sens, .int .i64 q.steps, .int .i64 q.paths, .int .i64 q.nodes, .int .i64 q.confs] (0, 0) _ ?l7 Tryd.underlying46 rfl ?i7 ?_; exact HGP1.out; exact HPI.out)
  have hx2 := heap2_of (w := z1) (A := .cells #[.slice (some ⟨z1.heap.size + 1, 0, none⟩) 1 1, .slice none 0 0, .slice none 0 0, .slice none 0 0, .bool q.sens, .int .i64 q.steps, .int .i64 q.paths, .int .i64 q.nodes, .int .i64 q.confs] 46 (0, 0)) (B := .cells #[.string ⟨#[97, 108, 108]⟩] 9 (0, 0)) (Below.refl _ _)
  have HB2 := Lib.hid (((Below.refl z1.heap.size z1).alloc (Nat.le_refl _) (.cells #[.slice (some ⟨z1.heap.size + 1, 0, none⟩) 1 1, .slice none 0 0, .slice none 0 0, .slice none 0 0, .bool q.sens, .int .i64 q.steps, .int .i64 q.paths, .int .i64 q.nodes, .int .i64 q.confs] 46)).alloc (by simp) (.cells #[.string ⟨#[97, 108, 108]⟩] 9))
  have HG2 := Lib.hid hx2.1
  have HS2 := Lib.hid hx2.2.1
  clear hx2
  generalize (z1.alloc (.cells #[.slice (some ⟨z1.heap.size + 1, 0, none⟩) 1 1, .slice none 0 0, .slice none 0 0, .slice none 0 0, .bool q.sens, .int .i64 q.steps, .int .i64 q.paths, .int .i64 q.nodes, .int .i64 q.confs] 46)).alloc (.cells #[.string ⟨#[97, 108, 108]⟩] 9) = W2 at *
  have hz2 : z1.heap.size + 1 < W2.heap.size := (Array.getElem?_eq_some_iff.1 HS2.out).1
  go_wp2_with fail
  go_loopw [12] (fun i wr => ∃ (k : Nat) (v : Value), k ≤ q.chans.length ∧ i = .int .i64 k ∧ LoopI W2 wr z1.heap.size (fun v => #[.slice (some ⟨z1.heap.size + 1, 0, none⟩) 1 1, .slice none 0 0, v, .slice none 0 0, .bool q.sens, .int .i64 q.steps, .int .i64 q.paths, .int .i64 q.nodes, .int .i64 q.confs]) v k q.chans ∧ Below z1.heap.size z1 wr) (fun i _ => q.chans.length - (intOf i).toNat)
  case atStart => exact ⟨0, .slice none 0 0, Nat.zero_le _, rfl, ⟨HG2.out, World.ownsRow_nil _ _ _ _, fun _ _ _ => rfl, Nat.le_refl _⟩, HB2.out⟩
  case round =>
    obtain ⟨k, v, hk, rfl, hi0, hbl⟩ := hrel
    obtain ⟨wo, rfl⟩ : ∃ x : World, x = wr := ⟨_, rfl⟩
    obtain ⟨xa0, xc0, rfl, -⟩ := own_read hi0.own
    have HI := Lib.hid hi0
    have HBL := Lib.hid hbl
    have hgw : z1.heap.size < W2.heap.size := (Array.getElem?_eq_some_iff.1 HG2.out).1
    have hws : W2.heap.size ≤ wo.heap.size := hi0.size
    clear hi0 hbl
    have p2 := cell_keep HBL.out (row_of HGP1.out 2 (.slice ca q.chans.length cc) rfl)
    by_cases hlt : k < q.chans.length
    · have hlt1 : (k : Int) < q.chans.length := by omega
      obtain ⟨b, hb⟩ : ∃ b, q.chans[k]? = some b := ⟨_, List.getElem?_eq_getElem hlt⟩
      obtain ⟨bb, o, rfl, _, s0z, _, hok⟩ := atBind ((HP.out.keep B1.out).2.2.1) hb
      have hbz : bb < z1.heap.size := block_lt_of_cell s0z
      have s0 := cell_keep HBL.out s0z
      clear s0z
      have HNX : Hid (((q.chans.take (k + 1)).map lowB).flatMap cellsBind = ((q.chans.take k).map lowB).flatMap cellsBind ++ cellsBind ⟨b.name, 0⟩) := by show _ = _; rw [List.take_add_one, hb]; simp [lowB]
      have hok2 := hok
      clear hb hok
      go_upto_region 9 with fail
      have g2 := keepS_cell (S := [z1.heap.size, w.heap.size + 1, bb]) (by simp) (row_of HI.out.box 2 (.slice xa0 k xc0) rfl)
      have g3 := keepS_cell (S := [z1.heap.size, w.heap.size + 1, bb]) (by simp) p2
      have g4 := keepS_cell (S := [z1.heap.size, w.heap.size + 1, bb]) (by simp) s0
      have HDR : Hid (∀ b : Nat, wo.drew.heap[b]? = wo.heap[b]?) := fun _ => rfl
      have HBD := Lib.hid (Below.refl wo.heap.size wo).drew
      have HOD := Lib.hid HI.out.own.drew
      have hsd : wo.drew.heap.size ≤ wo.heap.size := Nat.le_refl _
      have hse : wo.heap.size ≤ wo.drew.heap.size := Nat.le_refl _
      refine wp_region_mixS [z1.heap.size, w.heap.size + 1, bb] (.one [0, 1, 2, 3, 4, 5, 6, 7, 8] 9 (.one [] 10 (tailOf [11, 12]))) (fun j => decide (11 ≤ j)) (by kernel_rfl) (by kernel_rfl) rfl (by kernel_rfl) (fun _ d _ _ _ h => by cases d <;> exact h) ?_
      generalize wo.drew = w2 at *
      have hal : Below w2.heap.size w2 (w2.alloc (.cells #[.string b.name, .int .i64 0] 52)) := (Below.refl _ _).alloc (Nat.le_refl _) _
      have HAL := Lib.hid hal
      have HLT : Hid (∀ b' ∈ [z1.heap.size, w.heap.size + 1, bb], b' < w2.heap.size) := by
        intro b' hb'
        simp only [List.mem_cons, List.not_mem_nil, or_false] at hb'
        rcases hb' with rfl | rfl | rfl <;> omega
      have HKA : Hid (∀ b' ∈ [z1.heap.size, w.heap.size + 1, bb], (w2.alloc (.cells #[.string b.name, .int .i64 0] 52)).heap[b']? = wo.heap[b']?) := fun b' hb' => (HAL.out.block b' (HLT.out b' hb')).trans (HDR.out b')
      have HOA := Lib.hid (HOD.out.alloc (.cells #[.string b.name, .int .i64 0] 52))
      clear hal p2 s0 HOD
      refine mix_one (by simp only [opsOf, List.filterMap_cons, List.filterMap_nil, List.getElem?_toArray, List.getElem?_cons_succ, List.getElem?_cons_zero]; rfl) ⟨_, keepS_of (fun b _ => HDR.out b)⟩ ?_
      change wpQuiet _ _ _ _ [_, _, _, _, _, _, _, _, _] _
      (repeat (go_big_quiet_step (fail)))
      refine wpQuiet_nil ?_
      refine mix_step rfl ?_
      go_wp2_with fail
      refine ⟨fun _ => ⟨_, keepS_of HKA.out⟩, ?_⟩
      refine mix_now ?_
      refine mix_step rfl ?_
      obtain ⟨i0, hi, hz0, hz1, hz2⟩ := info_parts infoBind
      have h1c : ∀ u ∈ cellsBind ⟨b.name, 0⟩, u.oneCell' = true := by intro u hu; simp [cellsBind] at hu; rcases hu with rfl | rfl <;> rfl
      have hown := HOA.out
      have hnews := many_new w2 (cellsBind ⟨b.name, 0⟩) 52
      have hm1 : k + 1 ≤ maxLen := by unfold maxLen; omega
      have hsa : w2.heap.size < (w2.alloc (.cells #[.string b.name, .int .i64 0] 52)).heap.size := by simp
      try (simp only [Act.put, List.setIfInBounds_toArray, List.set_cons_succ, List.set_cons_zero, List.getElem_toArray, List.getElem_cons_succ, List.getElem_cons_zero])
      refine wpList_append_own_at _ rfl (.tmp 38) (.tmp 46) 44 rfl W2.heap.size 52 i0 (.agg #[.string ⟨#[]⟩, .int .i64 0]) 2 24 Tryd.underlying44 hi hz0 hz1 hz2 rfl (by decide) _ _ _ rfl hown ⟨w2.heap.size, 0, none⟩ 1 1 (cellsBind ⟨b.name, 0⟩) rfl rfl hnews h1c hm1 (by omega) (by omega) ?_
      intro v' w4 hown' hgrow _ hblk
      have HOW := Lib.hid hown
      have hne : ∀ b', b' < W2.heap.size → some b' ≠ (Value.slice xa0 k xc0).ownBlock := fun b' hl e => by have := own_row_le HOW.out _ e.symm; omega
      have HKG : Hid (∀ b', b' < W2.heap.size → w4.heap[b']? = wo.heap[b']?) := fun b' hl => (hgrow.block b' (by omega) (hne b' hl)).trans ((HAL.out.block b' (by omega)).trans (HDR.out b'))
      have hG4 := (HKG.out z1.heap.size hgw).trans HI.out.box
      have x2 := row_of hG4 2 (.slice xa0 k xc0) rfl
      have f2 := frozen_of_row w4 z1.heap.size 2 _ _ hG4
      have HG4 := Lib.hid hG4
      have HS4 : Hid (∀ b' ∈ [z1.heap.size, w.heap.size + 1, bb], w4.heap[b']? = wo.heap[b']?) := by
        intro b' hb'
        simp only [List.mem_cons, List.not_mem_nil, or_false] at hb'
        exact HKG.out b' (by rcases hb' with rfl | rfl | rfl <;> omega)
      have hsz4 : W2.heap.size ≤ w4.heap.size := by have := hgrow.size; omega
      have HB4 := Lib.hid (((bcomp HBL.out HBD.out).alloc (bcomp HBL.out HBD.out).size (.cells #[.string b.name, .int .i64 0] 52)).grown hgrow (by omega) (fun b' e => by have := own_row_le HOW.out b' e; omega))
      obtain ⟨xa, xc, rfl, _⟩ := own_read hown'
      have HO4 := Lib.hid hown'
      clear hown' hgrow hblk hown hnews hG4 hne h1c hi hz0 hz1 hz2 g2 g3 g4
      have HNI : Hid (LoopI W2 (w4.setCell ⟨z1.heap.size, 2, none⟩ (.slice xa (k + 1) xc)) z1.heap.size (fun v => #[.slice (some ⟨z1.heap.size + 1, 0, none⟩) 1 1, .slice none 0 0, v, .slice none 0 0, .bool q.sens, .int .i64 q.steps, .int .i64 q.paths, .int .i64 q.nodes, .int .i64 q.confs]) (.slice xa (k + 1) xc) (k + 1) q.chans ∧ Below z1.heap.size z1 (w4.setCell ⟨z1.heap.size, 2, none⟩ (.slice xa (k + 1) xc))) := by
        refine ⟨⟨?_, ?_, ?_, by simpa using hsz4⟩, HB4.out.setCell (Nat.le_refl _) _⟩
        · rw [heap_setCell_same _ _ _ _ _ _ HG4.out]; rfl
        · rw [HNX.out]
          exact own_same HO4.out (fun b' e => heap_setCell_other _ _ _ _ (by have := own_row_le HO4.out _ e; simp; omega))
        · intro b' hne hl
          rw [heap_setCell_other _ _ _ _ (by simpa using hne)]
          exact (HKG.out b' hl).trans (HI.out.old b' hne hl)
      refine ⟨fun _ => ⟨_, keepS_of HS4.out⟩, ?_⟩
      refine mix_tail [11, 12] [_, _] _ _ rfl rfl ?_
      simp only [Act.put, List.setIfInBounds_toArray, List.set_cons_succ, List.set_cons_zero, List.getElem_toArray, List.getElem_cons_succ, List.getElem_cons_zero]
      go_wp2_with fail
      go_roundw
      case rel => exact ⟨k + 1, _, by omega, by go_num, HNI.out.1, HNI.out.2⟩
      case measure => simp [intOf]; omega
    · obtain rfl : k = q.chans.length := by omega
      have HRV : Hid (RdRow kBind (some (upFrom W2.heap.size)) wo (.slice xa0 q.chans.length xc0) (q.chans.map lowB)) := by
        refine own_rows (K := kBind) ?_ ?_ ?_
        · show wo.ownsRow W2.heap.size 52 2 _ (q.chans.map lowB).length ((q.chans.map lowB).flatMap cellsBind)
          have h := HI.out.own
          rw [List.take_length] at h
          rw [List.length_map]; exact h
        · rw [List.length_map]; show q.chans.length * 24 ≤ _; omega
        · intro s hs
          obtain ⟨x, hx, rfl⟩ := List.mem_map.1 hs
          exact ⟨(((HP.out.keep B1.out).2.2.1).ok x hx).1, show InI64 0 from ⟨by decide, by decide⟩⟩
      have HG5 := Lib.hid HI.out.box
      have HS5 := Lib.hid ((HI.out.old (z1.heap.size + 1) (by omega) hz2).trans HS2.out)
      have HBL5 := Lib.hid HBL.out
      have hz5 : z1.heap.size + 1 < wo.heap.size := by omega
      have hgb : z1.heap.size < W2.heap.size := hgw
      have hwb : W2.heap.size ≤ wo.heap.size := hws
      clear HI HBL HG2 HS2 HB2 hgw hws hlt hk
      obtain ⟨w5, rfl⟩ : ∃ x : World, x = wo := ⟨_, rfl⟩
      obtain ⟨ya, rfl⟩ : ∃ x : Option Addr, x = xa0 := ⟨_, rfl⟩
      obtain ⟨yc, rfl⟩ : ∃ x : Nat, x = xc0 := ⟨_, rfl⟩
      go_wp2_with fail
      clear p2
      go_loopw [13] (fun i wr => ∃ (k : Nat) (v : Value), k ≤ q.sites.length ∧ i = .int .i64 k ∧ LoopI w5 wr z1.heap.size (fun v => #[.slice (some ⟨z1.heap.size + 1, 0, none⟩) 1 1, .slice none 0 0, .slice ya q.chans.length yc, v, .bool q.sens, .int .i64 q.steps, .int .i64 q.paths, .int .i64 q.nodes, .int .i64 q.confs]) v k q.sites ∧ Below z1.heap.size z1 wr) (fun i _ => q.sites.length - (intOf i).toNat)
      case atStart => exact ⟨0, .slice none 0 0, Nat.zero_le _, rfl, ⟨HG5.out, World.ownsRow_nil _ _ _ _, fun _ _ _ => rfl, Nat.le_refl _⟩, HBL5.out⟩
      case round =>
        obtain ⟨k, v, hk, rfl, hi0, hbl⟩ := hrel
        obtain ⟨wo, rfl⟩ : ∃ x : World, x = wr := ⟨_, rfl⟩
        obtain ⟨xa0, xc0, rfl, -⟩ := own_read hi0.own
        have HI := Lib.hid hi0
        have HBL := Lib.hid hbl
        have hgw : z1.heap.size < w5.heap.size := (Array.getElem?_eq_some_iff.1 HG5.out).1
        have hws : w5.heap.size ≤ wo.heap.size := hi0.size
        clear hi0 hbl
        have p2 := cell_keep HBL.out (row_of HGP1.out 3 (.slice sa q.sites.length sc) rfl)
        by_cases hlt : k < q.sites.length
        · have hlt1 : (k : Int) < q.sites.length := by omega
          obtain ⟨b, hb⟩ : ∃ b, q.sites[k]? = some b := ⟨_, List.getElem?_eq_getElem hlt⟩
          obtain ⟨bb, o, rfl, _, s0z, _, hok⟩ := atBind ((HP.out.keep B1.out).2.2.2.1) hb
          have hbz : bb < z1.heap.size := block_lt_of_cell s0z
          have s0 := cell_keep HBL.out s0z
          clear s0z
          have HNX : Hid (((q.sites.take (k + 1)).map lowB).flatMap cellsBind = ((q.sites.take k).map lowB).flatMap cellsBind ++ cellsBind ⟨b.name, 0⟩) := by show _ = _; rw [List.take_add_one, hb]; simp [lowB]
          have hok2 := hok
          clear hb hok
          go_upto_region 13 with fail
          have g2 := keepS_cell (S := [z1.heap.size, w.heap.size + 1, bb]) (by simp) (row_of HI.out.box 3 (.slice xa0 k xc0) rfl)
          have g3 := keepS_cell (S := [z1.heap.size, w.heap.size + 1, bb]) (by simp) p2
          have g4 := keepS_cell (S := [z1.heap.size, w.heap.size + 1, bb]) (by simp) s0
          have HDR : Hid (∀ b : Nat, wo.drew.heap[b]? = wo.heap[b]?) := fun _ => rfl
          have HBD := Lib.hid (Below.refl wo.heap.size wo).drew
          have HOD := Lib.hid HI.out.own.drew
          have hsd : wo.drew.heap.size ≤ wo.heap.size := Nat.le_refl _
          have hse : wo.heap.size ≤ wo.drew.heap.size := Nat.le_refl _
          refine wp_region_mixS [z1.heap.size, w.heap.size + 1, bb] (.one [0, 1, 2, 3, 4, 5, 6, 7, 8] 9 (.one [] 10 (tailOf [11, 12]))) (fun j => decide (11 ≤ j)) (by kernel_rfl) (by kernel_rfl) rfl (by kernel_rfl) (fun _ d _ _ _ h => by cases d <;> exact h) ?_
          generalize wo.drew = w2 at *
          have hal : Below w2.heap.size w2 (w2.alloc (.cells #[.string b.name, .int .i64 0] 52)) := (Below.refl _ _).alloc (Nat.le_refl _) _
          have HAL := Lib.hid hal
          have HLT : Hid (∀ b' ∈ [z1.heap.size, w.heap.size + 1, bb], b' < w2.heap.size) := by
            intro b' hb'
            simp only [List.mem_cons, List.not_mem_nil, or_false] at hb'
            rcases hb' with rfl | rfl | rfl <;> omega
          have HKA : Hid (∀ b' ∈ [z1.heap.size, w.heap.size + 1, bb], (w2.alloc (.cells #[.string b.name, .int .i64 0] 52)).heap[b']? = wo.heap[b']?) := fun b' hb' => (HAL.out.block b' (HLT.out b' hb')).trans (HDR.out b')
          have HOA := Lib.hid (HOD.out.alloc (.cells #[.string b.name, .int .i64 0] 52))
          clear hal p2 s0 HOD
          refine mix_one (by simp only [opsOf, List.filterMap_cons, List.filterMap_nil, List.getElem?_toArray, List.getElem?_cons_succ, List.getElem?_cons_zero]; rfl) ⟨_, keepS_of (fun b _ => HDR.out b)⟩ ?_
          change wpQuiet _ _ _ _ [_, _, _, _, _, _, _, _, _] _
          (repeat (go_big_quiet_step (fail)))
          refine wpQuiet_nil ?_
          refine mix_step rfl ?_
          go_wp2_with fail
          refine ⟨fun _ => ⟨_, keepS_of HKA.out⟩, ?_⟩
          refine mix_now ?_
          refine mix_step rfl ?_
          obtain ⟨i0, hi, hz0, hz1, hz2⟩ := info_parts infoBind
          have h1c : ∀ u ∈ cellsBind ⟨b.name, 0⟩, u.oneCell' = true := by intro u hu; simp [cellsBind] at hu; rcases hu with rfl | rfl <;> rfl
          have hown := HOA.out
          have hnews := many_new w2 (cellsBind ⟨b.name, 0⟩) 52
          have hm1 : k + 1 ≤ maxLen := by unfold maxLen; omega
          have hsa : w2.heap.size < (w2.alloc (.cells #[.string b.name, .int .i64 0] 52)).heap.size := by simp
          try (simp only [Act.put, List.setIfInBounds_toArray, List.set_cons_succ, List.set_cons_zero, List.getElem_toArray, List.getElem_cons_succ, List.getElem_cons_zero])
          refine wpList_append_own_at _ rfl (.tmp 57) (.tmp 65) 44 rfl w5.heap.size 52 i0 (.agg #[.string ⟨#[]⟩, .int .i64 0]) 2 24 Tryd.underlying44 hi hz0 hz1 hz2 rfl (by decide) _ _ _ rfl hown ⟨w2.heap.size, 0, none⟩ 1 1 (cellsBind ⟨b.name, 0⟩) rfl rfl hnews h1c hm1 (by omega) (by omega) ?_
          intro v' w4 hown' hgrow _ hblk
          have HOW := Lib.hid hown
          have hne : ∀ b', b' < w5.heap.size → some b' ≠ (Value.slice xa0 k xc0).ownBlock := fun b' hl e => by have := own_row_le HOW.out _ e.symm; omega
          have HKG : Hid (∀ b', b' < w5.heap.size → w4.heap[b']? = wo.heap[b']?) := fun b' hl => (hgrow.block b' (by omega) (hne b' hl)).trans ((HAL.out.block b' (by omega)).trans (HDR.out b'))
          have hG4 := (HKG.out z1.heap.size hgw).trans HI.out.box
          have x2 := row_of hG4 3 (.slice xa0 k xc0) rfl
          have f2 := frozen_of_row w4 z1.heap.size 3 _ _ hG4
          have HG4 := Lib.hid hG4
          have HS4 : Hid (∀ b' ∈ [z1.heap.size, w.heap.size + 1, bb], w4.heap[b']? = wo.heap[b']?) := by
            intro b' hb'
            simp only [List.mem_cons, List.not_mem_nil, or_false] at hb'
            exact HKG.out b' (by rcases hb' with rfl | rfl | rfl <;> omega)
          have hsz4 : w5.heap.size ≤ w4.heap.size := by have := hgrow.size; omega
          have HB4 := Lib.hid (((bcomp HBL.out HBD.out).alloc (bcomp HBL.out HBD.out).size (.cells #[.string b.name, .int .i64 0] 52)).grown hgrow (by omega) (fun b' e => by have := own_row_le HOW.out b' e; omega))
          obtain ⟨xa, xc, rfl, _⟩ := own_read hown'
          have HO4 := Lib.hid hown'
          clear hown' hgrow hblk hown hnews hG4 hne h1c hi hz0 hz1 hz2 g2 g3 g4
          have HNI : Hid (LoopI w5 (w4.setCell ⟨z1.heap.size, 3, none⟩ (.slice xa (k + 1) xc)) z1.heap.size (fun v => #[.slice (some ⟨z1.heap.size + 1, 0, none⟩) 1 1, .slice none 0 0, .slice ya q.chans.length yc, v, .bool q.sens, .int .i64 q.steps, .int .i64 q.paths, .int .i64 q.nodes, .int .i64 q.confs]) (.slice xa (k + 1) xc) (k + 1) q.sites ∧ Below z1.heap.size z1 (w4.setCell ⟨z1.heap.size, 3, none⟩ (.slice xa (k + 1) xc))) := by
            refine ⟨⟨?_, ?_, ?_, by simpa using hsz4⟩, HB4.out.setCell (Nat.le_refl _) _⟩
            · rw [heap_setCell_same _ _ _ _ _ _ HG4.out]; rfl
            · rw [HNX.out]
              exact own_same HO4.out (fun b' e => heap_setCell_other _ _ _ _ (by have := own_row_le HO4.out _ e; simp; omega))
            · intro b' hne hl
              rw [heap_setCell_other _ _ _ _ (by simpa using hne)]
              exact (HKG.out b' hl).trans (HI.out.old b' hne hl)
          refine ⟨fun _ => ⟨_, keepS_of HS4.out⟩, ?_⟩
          refine mix_tail [11, 12] [_, _] _ _ rfl rfl ?_
          simp only [Act.put, List.setIfInBounds_toArray, List.set_cons_succ, List.set_cons_zero, List.getElem_toArray, List.getElem_cons_succ, List.getElem_cons_zero]
          go_wp2_with fail
          go_roundw
          case rel => exact ⟨k + 1, _, by omega, by go_num, HNI.out.1, HNI.out.2⟩
          case measure => simp [intOf]; omega
        · obtain rfl : k = q.sites.length := by omega
          have HRS : Hid (RdRow kBind (some (upFrom w5.heap.size)) wo (.slice xa0 q.sites.length xc0) (q.sites.map lowB)) := by
            refine own_rows (K := kBind) ?_ ?_ ?_
            · show wo.ownsRow w5.heap.size 52 2 _ (q.sites.map lowB).length ((q.sites.map lowB).flatMap cellsBind)
              have h := HI.out.own
              rw [List.take_length] at h
              rw [List.length_map]; exact h
            · rw [List.length_map]; show q.sites.length * 24 ≤ _; omega
            · intro s hs
              obtain ⟨x, hx, rfl⟩ := List.mem_map.1 hs
              exact ⟨(((HP.out.keep B1.out).2.2.2.1).ok x hx).1, show InI64 0 from ⟨by decide, by decide⟩⟩
          have HRV6 : Hid (RdRow kBind none wo (.slice ya q.chans.length yc) (q.chans.map lowB)) := (RdRow.same (g' := upFrom 0) HRV.out (fun b hb hl => HI.out.old b (by have : W2.heap.size ≤ b := hb; omega) hl) (fun b _ _ => Nat.zero_le _)).forget
          have HS6 := (HI.out.old (z1.heap.size + 1) (by omega) hz5).trans HS5.out
          have HALL : Hid (RdRow kStr none wo (.slice (some ⟨z1.heap.size + 1, 0, none⟩) 1 1) [⟨#[97, 108, 108]⟩]) := row_rdw kStr (l := [⟨#[97, 108, 108]⟩]) HS6 rfl (by show 1 * 16 ≤ _; omega) (fun s hs => by simp only [List.mem_singleton] at hs; subst hs; decide)
          have HGO := Lib.hid HI.out.box
          have B6 := Lib.hid (bcomp B1.out HBL.out)
          have HGF6 := Lib.hid ((HBL.out.block _ (Array.getElem?_eq_some_iff.1 HGF1.out).1).trans HGF1.out)
          have HPO : Hid (PolC wo (openQ q) #[.slice (some ⟨z1.heap.size + 1, 0, none⟩) 1 1, .slice none 0 0, .slice ya q.chans.length yc, .slice xa0 q.sites.length xc0, .bool q.sens, .int .i64 q.steps, .int .i64 q.paths, .int .i64 q.nodes, .int .i64 q.confs]) := ⟨_, _, _, _, rfl, HALL.out, nilRow _ _ _, HRV6.out, HRS.out.forget, HP.out.2.2.2.2⟩
          have HOI := Lib.hid HPO.out.info
          have h6 := leaks_any f (openQ q) cF #[.slice (some ⟨z1.heap.size + 1, 0, none⟩) 1 1, .slice none 0 0, .slice ya q.chans.length yc, .slice xa0 q.sites.length xc0, .bool q.sens, .int .i64 q.steps, .int .i64 q.paths, .int .i64 q.nodes, .int .i64 q.confs] level _ _ A B wo (HF.out.keep B6.out) HPO.out (HL.out.keep B6.out) (HT.out.keep B6.out) HLV.out (HA.out.keep B6.out) (HBB.out.keep B6.out) HSA.out HSB.out
          rw [leaksB_open HCI.out rfl level A B] at h6
          generalize leaksErr f (openQ q) level A B = E at h6
          have HLK := Lib.hid h6
          clear h6 HS6 HRV6 HALL HRS HRV HS5 HG5 HBL HBL5 HI HPO HGF1 HGP1
          go_upto_region 15 with (first | (refine wpList_load_row rfl 43 (.tmp 5) rfl w.heap.size rfl 43 cF (0, 0) _ ?l5 Tryd.underlying43 rfl ?i5 ?_; exact HGF6.out; exact HFI.out) | (refine wpList_load_row rfl 46 (.tmp 11) rfl z1.heap.size rfl 46 #[.slice (some ⟨z1.heap.size + 1, 0, none⟩) 1 1, .slice none 0 0, .slice ya q.chans.length yc, .slice xa0 q.sites.length xc0, .bool q.sens, .int .i64 q.steps, .int .i64 q.paths, .int .i64 q.nodes, .int .i64 q.confs] (0, 0) _ ?l6 Tryd.underlying46 rfl ?i6 ?_; exact HGO.out; exact HOI.out) | (go_at_call 22; refine HLK.out.mono ?_; rintro e z7 ⟨rfl, hz⟩; have B7 := Lib.hid (bcomp B6.out hz); clear hz))
          have HAW := Lib.hid (awake_any z7 (HL.out.keep B7.out) (HT.out.keep B7.out))
          clear HLK HGF6 HGO
          go_wp2_with (go_at_call 16; refine HAW.out.mono ?_; rintro e z8 ⟨rfl, hz⟩; have B8 := Lib.hid (bcomp B7.out hz); clear hz)
          go_ret
          exact ⟨rfl, B8.out⟩
end Go.Proofs.YtkjkpddajjmloaaDoor
