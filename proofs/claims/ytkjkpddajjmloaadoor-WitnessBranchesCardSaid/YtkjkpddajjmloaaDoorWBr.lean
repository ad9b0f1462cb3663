/- The walk of WitnessBranches. Condition: what comes in reads as the plain data; the tables hold what they are laid with. -/
import Derived.Test.YtkjkpddajjmloaaDoorWtR
set_option linter.unnecessarySimpa false
set_option linter.unusedVariables false
set_option linter.unusedSimpArgs false
namespace Go.Proofs.YtkjkpddajjmloaaDoor
open Go.ChangeShapes Go.WideShapes Go.ChangeAt Go.RowKit
/-- Run's contract, its results' slices in the open. -/
def RunIs (t : TraceD) (er : Int) (w : World) (e : Ending) (w' : World) : Prop :=
  ∃ a1 a2 a3 a4 a5 a6 a7 a8, e = .returned (.tuple #[.agg #[.int .u8 t.status, .int .i64 t.steps, .slice a1 t.outs.length a2, .slice a3 t.rels.length a4, .slice a5 t.brs.length a6, .slice a7 t.reads.length a8], .int .i64 er]) ∧ RdTrace none w' t (.slice a1 t.outs.length a2) (.slice a3 t.rels.length a4) (.slice a5 t.brs.length a6) (.slice a7 t.reads.length a8) ∧ Below w.heap.size w w'
theorem runIs {t : TraceD} {er : Int} {w w' : World} {e : Ending} (h : RunSaid t er w e w') : RunIs t er w e w' := by
  obtain ⟨v1, v2, v3, v4, rfl, hr, hb⟩ := h
  obtain ⟨a1, a2, rfl⟩ := hr.1.is; obtain ⟨a3, a4, rfl⟩ := hr.2.1.is; obtain ⟨a5, a6, rfl⟩ := hr.2.2.1.is; obtain ⟨a7, a8, rfl⟩ := hr.2.2.2.1.is
  exact ⟨a1, a2, a3, a4, a5, a6, a7, a8, rfl, hr.forget, hb⟩
theorem PolC.steps {w : World} {q : PolD} {c : Array Value} (h : PolC w q c) : c[5]? = some (.int .i64 q.steps) := by obtain ⟨a, b, d, e, rfl, _⟩ := h; rfl
theorem PolC.in64 {w : World} {q : PolD} {c : Array Value} (h : PolC w q c) : InI64 q.steps := by obtain ⟨_, _, _, _, _, g⟩ := h; exact g.2.2.2.2.1
theorem run_any (f : FlatD) (cF : Array Value) (iv : Value) (L : List (List Int)) (steps : Int) (w : World) (hF : FlatC w f cF) (hI : RdLists none w iv L) (hL : Laid w) (hst : InI64 steps) (hn : L.length ≤ 1000000) (h0 : errRun f L.length steps = 0) :
    Calls Tryd.prog 37 #[.agg cF, .int .i64 steps, iv] w (RunIs (runT f L steps) 0 w) := by
  obtain ⟨fcv, fsv, fav, fkv, rfl, hf⟩ := hF
  have h := (machRun f _ _ _ _ iv L steps w hf hI hL hst hn).mono fun _ _ h => runIs h
  rw [h0] at h
  exact h
set_option maxRecDepth 100000 in
set_option maxHeartbeats 3200000 in
theorem branches_walk (f : FlatD) (cF : Array Value) (q : PolD) (cP : Array Value) (level : Int) (av : Value) (A : List (List Int)) (bv : Value) (B : List (List Int)) (w : World) (hF : FlatC w f cF) (hP : PolC w q cP) (hlv : InI64 level) (ha : RdLists none w av A) (hb : RdLists none w bv B) (hL : Laid w) (hT : BitsAt w) :
    Calls Tryd.prog 12 #[.agg cF, .agg cP, .int .i64 level, av, bv] w fun e w' => e = .returned (.bool true) ∧ Below w.heap.size w w' := by
  obtain ⟨aa, ac, rfl⟩ := ha.is
  obtain ⟨ba, bc, rfl⟩ := hb.is
  have HFI := Lib.hid hF.info
  have HPI := Lib.hid hP.info
  have HF := Lib.hid hF
  have HP := Lib.hid hP
  have HA := Lib.hid ha
  have HBB := Lib.hid hb
  have HL := Lib.hid hL
  have HT := Lib.hid hT
  have HLV := Lib.hid hlv
  clear hF hP ha hb hL hT hlv
  have hal := ((Below.refl w.heap.size w).alloc (Nat.le_refl _) (.cells cF 43)).alloc (by simp) (.cells cP 46)
  have hx := heap2_of (w := w) (A := .cells cF 43 (0, 0)) (B := .cells cP 46 (0, 0)) (Below.refl _ _)
  have B0 := Lib.hid hal
  have HGF0 := Lib.hid hx.1
  have HGP0 := Lib.hid hx.2.1
  clear hal hx
  go_enter Tryd.func12, Tryd.ntmps12
  go_upto_region 1 with fail
  generalize (w.alloc (.cells cF 43)).alloc (.cells cP 46) = W at *
  have hsz : w.heap.size + 1 < W.heap.size := (Array.getElem?_eq_some_iff.1 HGP0.out).1
  have hal2 := (Below.refl W.heap.size W).alloc (Nat.le_refl _) (.cells #[.slice aa A.length ac, .slice ba B.length bc] 47)
  have hb2 := bcomp B0.out hal2
  have HFN := Lib.hid (fine7_any f q cF cP _ [A, B] _ (HF.out.keep hb2) (HP.out.keep hb2) (runs_two (heap_alloc_new W (.cells #[.slice aa A.length ac, .slice ba B.length bc] 47)) (HA.out.keep hb2) (HBB.out.keep hb2)) (by simp))
  have BX := Lib.hid hal2
  have B00 := Lib.hid hb2
  clear hal2 hb2
  by_cases hfi : fine7 f q [A, B] = true
  case neg =>
    rw [Bool.eq_false_iff.2 hfi] at HFN
    go_wp2_with (first | (refine wpList_load_row rfl 43 (.tmp 5) rfl w.heap.size rfl 43 cF (0, 0) _ ?l1 Tryd.underlying43 rfl ?i1 ?_; exact HGF0.out; exact HFI.out) | (refine wpList_load_row rfl 46 (.tmp 6) rfl (w.heap.size + 1) rfl 46 cP (0, 0) _ ?l2 Tryd.underlying46 rfl ?i2 ?_; exact HGP0.out; exact HPI.out) | (go_at_call 34; refine HFN.out.mono ?_; rintro e z1 ⟨rfl, hz⟩; have B1 := Lib.hid (bcomp B00.out hz); have HAW := Lib.hid (awake7_any z1 (HL.out.keep B1.out) (HT.out.keep B1.out)); clear hz) | (go_at_call 33; refine HAW.out.mono ?_; rintro e z2 ⟨rfl, hz⟩; have B2 := Lib.hid (bcomp B1.out hz); clear hz))
    go_ret
    exact ⟨rfl, B2.out⟩
  rw [hfi] at HFN
  have hsA := short_fits (fine7_short hfi (A := A) (by simp))
  have hsB := short_fits (fine7_short hfi (A := B) (by simp))
  have hlA : A.length ≤ 1000000 := by have := (fine7_short hfi (A := A) (by simp)).1; omega
  have hlB : B.length ≤ 1000000 := by have := (fine7_short hfi (A := B) (by simp)).1; omega
  have HSA := Lib.hid hsA
  have HSB := Lib.hid hsB
  have HLA := Lib.hid hlA
  have HLB := Lib.hid hlB
  clear hfi hsA hsB hlA hlB
  go_upto_region 3 with (first | (refine wpList_load_row rfl 43 (.tmp 5) rfl w.heap.size rfl 43 cF (0, 0) _ ?l3 Tryd.underlying43 rfl ?i3 ?_; exact HGF0.out; exact HFI.out) | (refine wpList_load_row rfl 46 (.tmp 6) rfl (w.heap.size + 1) rfl 46 cP (0, 0) _ ?l4 Tryd.underlying46 rfl ?i4 ?_; exact HGP0.out; exact HPI.out) | (go_at_call 34; refine HFN.out.mono ?_; rintro e z1 ⟨rfl, hz⟩; have BZ0 := Lib.hid (bcomp BX.out hz); clear hz))
  have B1 := Lib.hid (bcomp B0.out BZ0.out)
  have HGF1 := Lib.hid ((BZ0.out.block _ (Array.getElem?_eq_some_iff.1 HGF0.out).1).trans HGF0.out)
  have HGP1 := Lib.hid ((BZ0.out.block _ (Array.getElem?_eq_some_iff.1 HGP0.out).1).trans HGP0.out)
  clear HFN BX B00 BZ0 HGF0 HGP0
  obtain ⟨E, hE⟩ : ∃ E, makeE f q level A B = E := ⟨_, rfl⟩
  by_cases h0 : E = 0
  case neg =>
    have hE1 : (E != 0) = true := by simpa using h0
    have HM := Lib.hid (make_bad f q cF cP level _ _ A B z1 (HF.out.keep B1.out) (HP.out.keep B1.out) (HL.out.keep B1.out) (HT.out.keep B1.out) HLV.out (HA.out.keep B1.out) (HBB.out.keep B1.out) HSA.out HSB.out hE h0)
    clear hE
    go_wp2_with (first | (refine wpList_load_row rfl 43 (.tmp 5) rfl w.heap.size rfl 43 cF (0, 0) _ ?l5 Tryd.underlying43 rfl ?i5 ?_; exact HGF1.out; exact HFI.out) | (refine wpList_load_row rfl 46 (.tmp 6) rfl (w.heap.size + 1) rfl 46 cP (0, 0) _ ?l6 Tryd.underlying46 rfl ?i6 ?_; exact HGP1.out; exact HPI.out) | (go_at_call 32; refine HM.out.mono ?_; rintro e z2 ⟨rfl, hz⟩; have BZ1 := Lib.hid hz; clear hz; have B2 := Lib.hid (bcomp B1.out (bcomp BZ1.out ((Below.refl z2.heap.size z2).alloc (Nat.le_refl _) (.cells witZ 65)))); have HAW := Lib.hid (awake7_any (z2.alloc (.cells witZ 65)) (HL.out.keep B2.out) (HT.out.keep B2.out))) | (go_at_call 33; refine HAW.out.mono ?_; rintro e z9 ⟨rfl, hz⟩; have B9 := Lib.hid (bcomp B2.out hz); clear hz))
    go_ret
    exact ⟨rfl, B9.out⟩
  subst h0
  obtain ⟨hE1, hV⟩ := makeE_zero hE
  obtain ⟨er1, er2, -, -⟩ := runs_fine hE1
  obtain ⟨x, hx⟩ : ∃ x, runT f A q.steps = x := ⟨_, rfl⟩
  obtain ⟨y, hy⟩ : ∃ y, runT f B q.steps = y := ⟨_, rfl⟩
  obtain ⟨I, hI⟩ : ∃ I, implB x y = I := ⟨_, rfl⟩
  have hm := make_good f q cF cP level _ _ A B z1 (HF.out.keep B1.out) (HP.out.keep B1.out) (HL.out.keep B1.out) (HT.out.keep B1.out) HLV.out (HA.out.keep B1.out) (HBB.out.keep B1.out) HSA.out HSB.out hE
  rw [hx, hy, hI] at hm
  have HM := Lib.hid hm
  have HX := Lib.hid hx
  have HY := Lib.hid hy
  have HI := Lib.hid hI
  have HER1 := Lib.hid er1
  have HER2 := Lib.hid er2
  have hb0 : ((0 : Int) != 0) = false := rfl
  clear hE hE1 hV er1 er2 hx hy hI hm
  go_upto_region 6 with (first | (refine wpList_load_row rfl 43 (.tmp 5) rfl w.heap.size rfl 43 cF (0, 0) _ ?l7 Tryd.underlying43 rfl ?i7 ?_; exact HGF1.out; exact HFI.out) | (refine wpList_load_row rfl 46 (.tmp 6) rfl (w.heap.size + 1) rfl 46 cP (0, 0) _ ?l8 Tryd.underlying46 rfl ?i8 ?_; exact HGP1.out; exact HPI.out) | (go_at_call 32; refine HM.out.mono ?_; rintro e z2 ⟨va, vsa, vb, vsb, rfl, ho1, ho2, hz⟩; obtain ⟨xa, xc, rfl, -⟩ := own_read ho1.own; obtain ⟨ya, yc, rfl, -⟩ := own_read ho2.own; have HO1 := Lib.hid ho1; have HO2 := Lib.hid ho2; have BZ1 := Lib.hid hz; clear ho1 ho2 hz))
  try simp only [Act.put]
  have hal3 := bcomp BZ1.out ((Below.refl z2.heap.size z2).alloc (Nat.le_refl _) (.cells #[.int .i64 level, .slice xa vsa.length xc, .slice ya vsb.length yc, .bool I] 65))
  have HGW2 := Lib.hid (heap_alloc_new z2 (.cells #[.int .i64 level, .slice xa vsa.length xc, .slice ya vsb.length yc, .bool I] 65))
  have B2 := Lib.hid (bcomp B1.out hal3)
  have HGF2 := Lib.hid ((hal3.block _ (Array.getElem?_eq_some_iff.1 HGF1.out).1).trans HGF1.out)
  have HGP2 := Lib.hid ((hal3.block _ (Array.getElem?_eq_some_iff.1 HGP1.out).1).trans HGP1.out)
  clear HM BZ1 HO1 HO2 HGF1 HGP1 hal3
  generalize z2.alloc (.cells #[.int .i64 level, .slice xa vsa.length xc, .slice ya vsb.length yc, .bool I] 65) = W2 at *
  have hr1 := run_any f cF _ A q.steps W2 (HF.out.keep B2.out) (HA.out.keep B2.out) (HL.out.keep B2.out) HP.out.in64 HLA.out HER1.out
  rw [HX.out] at hr1
  have HR1 := Lib.hid hr1
  have p5 := row_of HGP2.out 5 (.int .i64 q.steps) HP.out.steps
  clear hr1
  go_upto_region 7 with (first | (refine wpList_load_row rfl 43 (.tmp 5) rfl w.heap.size rfl 43 cF (0, 0) _ ?l9 Tryd.underlying43 rfl ?i9 ?_; exact HGF2.out; exact HFI.out) | (go_at_call 37; refine HR1.out.mono ?_; rintro e z3 ⟨x1, x2, x3, x4, x5, x6, x7, x8, rfl, hr, hz⟩; have HX3 := Lib.hid hr; have BZ2 := Lib.hid hz; clear hr hz))
  try simp only [Act.put]
  have hal4 := (Below.refl z3.heap.size z3).alloc (Nat.le_refl _) (.cells #[.int .u8 (x).status, .int .i64 (x).steps, .slice x1 (x).outs.length x2, .slice x3 (x).rels.length x4, .slice x5 (x).brs.length x6, .slice x7 (x).reads.length x8] 27)
  have HGX3 := Lib.hid (heap_alloc_new z3 (.cells #[.int .u8 (x).status, .int .i64 (x).steps, .slice x1 (x).outs.length x2, .slice x3 (x).rels.length x4, .slice x5 (x).brs.length x6, .slice x7 (x).reads.length x8] 27))
  have HX4 := Lib.hid (HX3.out.keep hal4)
  have hb4 := bcomp BZ2.out hal4
  have HGW3 := Lib.hid ((hb4.block _ (Array.getElem?_eq_some_iff.1 HGW2.out).1).trans HGW2.out)
  have B3 := Lib.hid (bcomp B2.out hb4)
  have HGF3 := Lib.hid ((hb4.block _ (Array.getElem?_eq_some_iff.1 HGF2.out).1).trans HGF2.out)
  have HGP3 := Lib.hid ((hb4.block _ (Array.getElem?_eq_some_iff.1 HGP2.out).1).trans HGP2.out)
  clear HR1 BZ2 HX3 HGF2 HGP2 HGW2 hal4 hb4 p5
  generalize z3.alloc (.cells #[.int .u8 (x).status, .int .i64 (x).steps, .slice x1 (x).outs.length x2, .slice x3 (x).rels.length x4, .slice x5 (x).brs.length x6, .slice x7 (x).reads.length x8] 27) = W3 at *
  have hr2 := run_any f cF _ B q.steps W3 (HF.out.keep B3.out) (HBB.out.keep B3.out) (HL.out.keep B3.out) HP.out.in64 HLB.out HER2.out
  rw [HY.out] at hr2
  have HR2 := Lib.hid hr2
  have p5 := row_of HGP3.out 5 (.int .i64 q.steps) HP.out.steps
  clear hr2
  go_upto_region 8 with (first | (refine wpList_load_row rfl 43 (.tmp 5) rfl w.heap.size rfl 43 cF (0, 0) _ ?l10 Tryd.underlying43 rfl ?i10 ?_; exact HGF3.out; exact HFI.out) | (go_at_call 37; refine HR2.out.mono ?_; rintro e z4 ⟨y1, y2, y3, y4, y5, y6, y7, y8, rfl, hr, hz⟩; have HY4 := Lib.hid hr; have BZ3 := Lib.hid hz; clear hr hz))
  try simp only [Act.put]
  have hal5 := (Below.refl z4.heap.size z4).alloc (Nat.le_refl _) (.cells #[.int .u8 (y).status, .int .i64 (y).steps, .slice y1 (y).outs.length y2, .slice y3 (y).rels.length y4, .slice y5 (y).brs.length y6, .slice y7 (y).reads.length y8] 27)
  have hgy := heap_alloc_new z4 (.cells #[.int .u8 (y).status, .int .i64 (y).steps, .slice y1 (y).outs.length y2, .slice y3 (y).rels.length y4, .slice y5 (y).brs.length y6, .slice y7 (y).reads.length y8] 27)
  have HY5 := Lib.hid (HY4.out.keep hal5)
  have hb5 := bcomp BZ3.out hal5
  have HX5 := Lib.hid (HX4.out.keep hb5)
  have hgw := (hb5.block _ (Array.getElem?_eq_some_iff.1 HGW3.out).1).trans HGW3.out
  have hgx := (hb5.block _ (Array.getElem?_eq_some_iff.1 HGX3.out).1).trans HGX3.out
  have B4 := Lib.hid (bcomp B3.out hb5)
  clear HR2 BZ3 HY4 HX4 HGF3 HGP3 HGW3 HGX3 hal5 hb5 p5
  generalize z4.alloc (.cells #[.int .u8 (y).status, .int .i64 (y).steps, .slice y1 (y).outs.length y2, .slice y3 (y).rels.length y4, .slice y5 (y).brs.length y6, .slice y7 (y).reads.length y8] 27) = W4 at *
  have g3 := ext_cell (row_of hgw 3 (.bool I) rfl)
  have a0 := ext_cell (row_of hgx 0 (.int .u8 x.status) rfl)
  have b0 := ext_cell (row_of hgy 0 (.int .u8 y.status) rfl)
  have a1 := ext_cell (row_of hgx 1 (.int .i64 x.steps) rfl)
  have b1 := ext_cell (row_of hgy 1 (.int .i64 y.steps) rfl)
  have a2 := ext_cell (row_of hgx 2 (.slice x1 x.outs.length x2) rfl)
  have b2 := ext_cell (row_of hgy 2 (.slice y1 y.outs.length y2) rfl)
  have a3 := ext_cell (row_of hgx 3 (.slice x3 x.rels.length x4) rfl)
  have b3 := ext_cell (row_of hgy 3 (.slice y3 y.rels.length y4) rfl)
  have a4 := ext_cell (row_of hgx 4 (.slice x5 x.brs.length x6) rfl)
  have b4 := ext_cell (row_of hgy 4 (.slice y5 y.brs.length y6) rfl)
  have a5 := ext_cell (row_of hgx 5 (.slice x7 x.reads.length x8) rfl)
  have b5 := ext_cell (row_of hgy 5 (.slice y7 y.reads.length y8) rfl)
  obtain ⟨V, hV⟩ : ∃ V, eqL eqBool x.brs y.brs = V := ⟨_, rfl⟩
  have HIV : Hid (I = !V) := by show I = _; rw [← HI.out, implB, hV]
  have HEB := Lib.hid (fun (z : World) => by have := equalBool _ _ _ _ (ext W4 z) (HX5.out.2.2.1.keep (ext_below W4 z)) (HY5.out.2.2.1.keep (ext_below W4 z)); rw [hV] at this; exact this)
  have HIM := Lib.hid (fun (z : World) => by have := implicit_any x y _ _ (ext W4 z) ⟨_, _, _, _, rfl, HX5.out.keep (ext_below W4 z)⟩ ⟨_, _, _, _, rfl, HY5.out.keep (ext_below W4 z)⟩; rw [HI.out] at this; exact this)
  have HAW := Lib.hid (fun (z : World) => awake7_any (ext W4 z) ((HL.out.keep B4.out).keep (ext_below W4 z)) ((HT.out.keep B4.out).keep (ext_below W4 z)))
  clear hV hgw hgx hgy HF HP HA HBB HL HT HX HY HI HER1 HER2
  obtain rfl : I = !V := HIV.out
  cases V
  all_goals
    simp only [Bool.not_true, Bool.not_false] at HIM g3 ⊢
    (refine wp_region_calm (by kernel_rfl) (by kernel_rfl) ?_; (repeat (go_big_quiet_step ((first | (go_at_call 38; exact calls_calm (HEB.out _)) | (go_at_call 39; exact calls_calm (HIM.out _)) | (go_at_call 33; exact calls_calm (HAW.out _)))))); refine wpQuiet_nil ?_; intro wc hwc)
    have HBN := Lib.hid (bcomp B4.out hwc)
    clear g3 a0 a1 a2 a3 a4 a5 b0 b1 b2 b3 b4 b5 hwc
    go_wp2_with fail
    go_ret
    exact ⟨rfl, HBN.out⟩
end Go.Proofs.YtkjkpddajjmloaaDoor
