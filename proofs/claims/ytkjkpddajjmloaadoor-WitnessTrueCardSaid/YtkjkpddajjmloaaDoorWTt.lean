/- The walk of WitnessTrue. Condition: what comes in reads as the plain data; the tables hold what they are laid with. -/
import Derived.Test.YtkjkpddajjmloaaDoorWtR
set_option linter.unnecessarySimpa false
set_option linter.unusedVariables false
set_option linter.unusedSimpArgs false
namespace Go.Proofs.YtkjkpddajjmloaaDoor
open Go.ChangeShapes Go.WideShapes Go.ChangeAt Go.RowKit
theorem wit_zero (w : World) : WitC w 0 [] [] false #[.int .i64 0, .slice none 0 0, .slice none 0 0, .bool false] :=
  ⟨_, _, rfl, ((OwnL.nil 0 w).rd (by decide) (by simp)).forget, ((OwnL.nil 0 w).rd (by decide) (by simp)).forget⟩
theorem forall_two {P : Nat → Prop} {a b : Nat} (ha : P a) (hb : P b) : ∀ x ∈ [a, b], P x := by
  intro x hx
  simp only [List.mem_cons, List.not_mem_nil, or_false] at hx
  rcases hx with rfl | rfl
  · exact ha
  · exact hb
theorem RdRow.setT {α : Type} {K : Kind α} {G : Nat → Prop} {w : World} {v : Value} {l : List α} (h : RdRow K (some G) w v l) {g : Nat} {cs : Array Value} {S : TypeId} (hg : w.heap[g]? = some (.cells cs S (0, 0))) (hT : K.T ≠ S) (cs' : Array Value) : RdRow K (some G) (w.setRow g cs') v l := by
  have hb : ∀ b, Free (some G) K.T w b → (w.setRow g cs').heap[b]? = w.heap[b]? := fun b hf => setRow_other w g b cs' (by
    obtain ⟨_, c, hc⟩ := hf G rfl
    rintro rfl
    rw [hg] at hc
    simp only [Option.some.injEq, Obj.cells.injEq] at hc
    exact hT hc.2.1.symm)
  refine RdRow.map (fun b _ hf => ?_) (fun b o v hf hc => ?_) h
  · obtain ⟨g1, c, hc⟩ := hf G rfl
    exact Free.of g1 ((hb b hf).trans hc)
  · rw [World.cell?_of_block (w := w) (hb b hf)]; exact hc
theorem RdLists.setRowT {G : Nat → Prop} {w : World} {v : Value} {L : List (List Int)} (h : RdLists (some G) w v L) {g : Nat} {cs : Array Value} {S : TypeId} (hg : w.heap[g]? = some (.cells cs S (0, 0))) (h1 : 54 ≠ S) (h2 : 55 ≠ S) (cs' : Array Value) : RdLists (some G) (w.setRow g cs') v L := by
  obtain ⟨a, c, rfl, hl, hr⟩ := h
  refine ⟨a, c, rfl, hl, fun i x hx => ?_⟩
  obtain ⟨b, o, iv, rfl, hf, h0, hi⟩ := hr i x hx
  obtain ⟨g1, c, hc⟩ := id (hf G rfl)
  have hb : (w.setRow g cs').heap[b]? = w.heap[b]? := setRow_other w g b cs' (by
    rintro rfl
    rw [hg] at hc
    simp only [Option.some.injEq, Obj.cells.injEq] at hc
    exact h1 hc.2.1.symm)
  exact ⟨b, o, iv, rfl, Free.of g1 (hb.trans hc), by rw [World.cell?_of_block (w := w) hb]; exact h0, hi.setT hg h2 cs'⟩
/-- A list of inputs, wherever it lies. -/
def ListsOf (w : World) (v : Value) (L : List (List Int)) : Prop := ∃ a c, v = .slice a L.length c ∧ RdLists (some (upFrom 0)) w (.slice a L.length c) L
theorem ListsOf.of {w : World} {v : Value} {L : List (List Int)} (h : RdLists (some (upFrom 0)) w v L) : ListsOf w v L := by
  obtain ⟨a, c, rfl⟩ := h.is; exact ⟨a, c, rfl, h⟩
theorem ListsOf.keep {w w' : World} {v : Value} {L : List (List Int)} (h : ListsOf w v L) (k : Below w.heap.size w w') : ListsOf w' v L := by
  obtain ⟨a, c, e, r⟩ := h; exact ⟨a, c, e, r.keep k⟩
def TurnOf (w : World) (v : Value) (level : Int) (I : Bool) (A B : List (List Int)) : Prop := ∃ ta tc sa sc, v = .agg #[.int .i64 level, .slice ta B.length tc, .slice sa A.length sc, .bool I] ∧ RdLists (some (upFrom 0)) w (.slice ta B.length tc) B ∧ RdLists (some (upFrom 0)) w (.slice sa A.length sc) A
theorem TurnOf.keep {w w' : World} {v : Value} {level : Int} {I : Bool} {A B : List (List Int)} (h : TurnOf w v level I A B) (k : Below w.heap.size w w') : TurnOf w' v level I A B := by
  obtain ⟨a, c, d, b, e, r, s⟩ := h; exact ⟨a, c, d, b, e, r.keep k, s.keep k⟩
set_option maxRecDepth 100000 in
set_option maxHeartbeats 3200000 in
theorem true_walk (f : FlatD) (cF : Array Value) (q : PolD) (cP : Array Value) (level : Int) (av : Value) (A : List (List Int)) (bv : Value) (B : List (List Int)) (w : World) (hF : FlatC w f cF) (hP : PolC w q cP) (hlv : InI64 level) (ha : RdLists none w av A) (hb : RdLists none w bv B) (hL : Laid w) (hT : BitsAt w) :
    Calls Tryd.prog 10 #[.agg cF, .agg cP, .int .i64 level, av, bv] w fun e w' => e = .returned (.bool true) ∧ Below w.heap.size w w' := by
  obtain ⟨aa, ac, rfl⟩ := ha.is
  obtain ⟨ba, bc, rfl⟩ := hb.is
  have HFI := Lib.hid hF.info
  have HPI := Lib.hid hP.info
  have HF := Lib.hid hF
  have HP := Lib.hid hP
  have HA := Lib.hid ha
  have HBB := Lib.hid hb
  have HL := Lib.hid hL
  have HT := Lib.hid hT
  have HLV := Lib.hid hlv
  clear hF hP ha hb hL hT hlv
  have hal := ((Below.refl w.heap.size w).alloc (Nat.le_refl _) (.cells cF 43)).alloc (by simp) (.cells cP 46)
  have hx := heap2_of (w := w) (A := .cells cF 43 (0, 0)) (B := .cells cP 46 (0, 0)) (Below.refl _ _)
  have B0 := Lib.hid hal
  have HGF0 := Lib.hid hx.1
  have HGP0 := Lib.hid hx.2.1
  clear hal hx
  go_enter Tryd.func10, Tryd.ntmps10
  go_upto_region 1 with fail
  generalize (w.alloc (.cells cF 43)).alloc (.cells cP 46) = W at *
  have hsz : w.heap.size + 1 < W.heap.size := (Array.getElem?_eq_some_iff.1 HGP0.out).1
  have hal2 := (Below.refl W.heap.size W).alloc (Nat.le_refl _) (.cells #[.slice aa A.length ac, .slice ba B.length bc] 47)
  have hb2 := bcomp B0.out hal2
  have HFN := Lib.hid (fine7_any f q cF cP _ [A, B] _ (HF.out.keep hb2) (HP.out.keep hb2) (runs_two (heap_alloc_new W (.cells #[.slice aa A.length ac, .slice ba B.length bc] 47)) (HA.out.keep hb2) (HBB.out.keep hb2)) (by simp))
  have BX := Lib.hid hal2
  have B00 := Lib.hid hb2
  clear hal2 hb2
  by_cases hfi : fine7 f q [A, B] = true
  case neg =>
    rw [Bool.eq_false_iff.2 hfi] at HFN
    go_wp2_with (first | (refine wpList_load_row rfl 43 (.tmp 5) rfl w.heap.size rfl 43 cF (0, 0) _ ?l1 Tryd.underlying43 rfl ?i1 ?_; exact HGF0.out; exact HFI.out) | (refine wpList_load_row rfl 46 (.tmp 6) rfl (w.heap.size + 1) rfl 46 cP (0, 0) _ ?l2 Tryd.underlying46 rfl ?i2 ?_; exact HGP0.out; exact HPI.out) | (go_at_call 34; refine HFN.out.mono ?_; rintro e z1 ⟨rfl, hz⟩; have B1 := Lib.hid (bcomp B00.out hz); have HAW := Lib.hid (awake7_any z1 (HL.out.keep B1.out) (HT.out.keep B1.out)); clear hz) | (go_at_call 33; refine HAW.out.mono ?_; rintro e z2 ⟨rfl, hz⟩; have B2 := Lib.hid (bcomp B1.out hz); clear hz))
    go_ret
    exact ⟨rfl, B2.out⟩
  rw [hfi] at HFN
  have hsA := short_fits (fine7_short hfi (A := A) (by simp))
  have hsB := short_fits (fine7_short hfi (A := B) (by simp))
  have hlA : A.length ≤ 1000000 := by have := (fine7_short hfi (A := A) (by simp)).1; omega
  have hlB : B.length ≤ 1000000 := by have := (fine7_short hfi (A := B) (by simp)).1; omega
  have HSA := Lib.hid hsA
  have HSB := Lib.hid hsB
  have HLA := Lib.hid hlA
  have HLB := Lib.hid hlB
  clear hfi hsA hsB hlA hlB
  go_upto_region 3 with (first | (refine wpList_load_row rfl 43 (.tmp 5) rfl w.heap.size rfl 43 cF (0, 0) _ ?l3 Tryd.underlying43 rfl ?i3 ?_; exact HGF0.out; exact HFI.out) | (refine wpList_load_row rfl 46 (.tmp 6) rfl (w.heap.size + 1) rfl 46 cP (0, 0) _ ?l4 Tryd.underlying46 rfl ?i4 ?_; exact HGP0.out; exact HPI.out) | (go_at_call 34; refine HFN.out.mono ?_; rintro e z1 ⟨rfl, hz⟩; have BZ0 := Lib.hid (bcomp BX.out hz); clear hz))
  have B1 := Lib.hid (bcomp B0.out BZ0.out)
  have HGF1 := Lib.hid ((BZ0.out.block _ (Array.getElem?_eq_some_iff.1 HGF0.out).1).trans HGF0.out)
  have HGP1 := Lib.hid ((BZ0.out.block _ (Array.getElem?_eq_some_iff.1 HGP0.out).1).trans HGP0.out)
  clear HFN BX B00 BZ0 HGF0 HGP0
  obtain ⟨V, hV⟩ : ∃ V, leaksB f q level A B = V := ⟨_, rfl⟩
  obtain ⟨E, hE⟩ : ∃ E, leaksErr f q level A B = E := ⟨_, rfl⟩
  have hk := leaks_any f q cF cP level _ _ A B z1 (HF.out.keep B1.out) (HP.out.keep B1.out) (HL.out.keep B1.out) (HT.out.keep B1.out) HLV.out (HA.out.keep B1.out) (HBB.out.keep B1.out) HSA.out HSB.out
  rw [hV, hE] at hk
  have HK := Lib.hid hk
  have HV := Lib.hid hV
  have HE := Lib.hid hE
  clear hk hV hE
  go_upto_region 4 with (first | (refine wpList_load_row rfl 43 (.tmp 5) rfl w.heap.size rfl 43 cF (0, 0) _ ?l5 Tryd.underlying43 rfl ?i5 ?_; exact HGF1.out; exact HFI.out) | (refine wpList_load_row rfl 46 (.tmp 6) rfl (w.heap.size + 1) rfl 46 cP (0, 0) _ ?l6 Tryd.underlying46 rfl ?i6 ?_; exact HGP1.out; exact HPI.out) | (go_at_call 22; refine HK.out.mono ?_; rintro e z2 ⟨rfl, hz⟩; have BZ1 := Lib.hid hz; clear hz))
  have B2 := Lib.hid (bcomp B1.out BZ1.out)
  have HGF2 := Lib.hid ((BZ1.out.block _ (Array.getElem?_eq_some_iff.1 HGF1.out).1).trans HGF1.out)
  have HGP2 := Lib.hid ((BZ1.out.block _ (Array.getElem?_eq_some_iff.1 HGP1.out).1).trans HGP1.out)
  clear HK BZ1 HGF1 HGP1
  by_cases h0 : E = 0
  case neg =>
    have hE1 : (E != 0) = true := by simpa using h0
    have HM := Lib.hid (make_bad f q cF cP level _ _ A B z2 (HF.out.keep B2.out) (HP.out.keep B2.out) (HL.out.keep B2.out) (HT.out.keep B2.out) HLV.out (HA.out.keep B2.out) (HBB.out.keep B2.out) HSA.out HSB.out ((makeE_err (by rw [HE.out]; exact h0)).trans HE.out) h0)
    go_upto_region 6 with (first | (refine wpList_load_row rfl 43 (.tmp 5) rfl w.heap.size rfl 43 cF (0, 0) _ ?l7 Tryd.underlying43 rfl ?i7 ?_; exact HGF2.out; exact HFI.out) | (refine wpList_load_row rfl 46 (.tmp 6) rfl (w.heap.size + 1) rfl 46 cP (0, 0) _ ?l8 Tryd.underlying46 rfl ?i8 ?_; exact HGP2.out; exact HPI.out) | (go_at_call 32; refine HM.out.mono ?_; rintro e z3 ⟨rfl, hz⟩; have BZ2 := Lib.hid hz; clear hz))
    try simp only [Act.put]
    have hal3 := bcomp BZ2.out ((Below.refl z3.heap.size z3).alloc (Nat.le_refl _) (.cells #[.int .i64 0, .slice none 0 0, .slice none 0 0, .bool false] 65))
    have hgw := heap_alloc_new z3 (.cells #[.int .i64 0, .slice none 0 0, .slice none 0 0, .bool false] 65)
    have B3 := Lib.hid (bcomp B2.out hal3)
    clear hal3 BZ2 HM
    generalize z3.alloc (.cells #[.int .i64 0, .slice none 0 0, .slice none 0 0, .bool false] 65) = W3 at *
    have y0 := row_of hgw 0 (.int .i64 0) rfl
    have y1 := row_of hgw 1 (.slice none 0 0) rfl
    have y2 := row_of hgw 2 (.slice none 0 0) rfl
    have y3 := row_of hgw 3 (.bool false) rfl
    have HEQ := Lib.hid (witSelf 0 [] [] false #[.int .i64 0, .slice none 0 0, .slice none 0 0, .bool false] #[.int .i64 0, .slice none 0 0, .slice none 0 0, .bool false] W3 (wit_zero W3) (wit_zero W3))
    have HAW := Lib.hid (fun (z : World) (hz : Below W3.heap.size W3 z) => awake7_any z ((HL.out.keep B3.out).keep hz) ((HT.out.keep B3.out).keep hz))
    clear hgw
    have hEE : (E == E) = true := by simp
    go_wp2_with (first | (go_at_call 35; refine HEQ.out.mono ?_; rintro e z4 ⟨rfl, hz⟩; have BZ4 := Lib.hid hz; clear hz) | (go_at_call 33; refine (HAW.out _ BZ4.out).mono ?_; rintro e z5 ⟨rfl, hz⟩; have B9 := Lib.hid (bcomp B3.out (bcomp BZ4.out hz)); clear hz))
    go_ret
    exact ⟨rfl, B9.out⟩
  subst h0
  have hb0 : ((0 : Int) != 0) = false := rfl
  by_cases hv : V = true
  case neg =>
    obtain rfl : V = false := by simpa using hv
    clear hv
    have HM := Lib.hid (make_bad f q cF cP level _ _ A B z2 (HF.out.keep B2.out) (HP.out.keep B2.out) (HL.out.keep B2.out) (HT.out.keep B2.out) HLV.out (HA.out.keep B2.out) (HBB.out.keep B2.out) HSA.out HSB.out (makeE_not HE.out HV.out) (by decide))
    go_upto_region 8 with (first | (refine wpList_load_row rfl 43 (.tmp 5) rfl w.heap.size rfl 43 cF (0, 0) _ ?l9 Tryd.underlying43 rfl ?i9 ?_; exact HGF2.out; exact HFI.out) | (refine wpList_load_row rfl 46 (.tmp 6) rfl (w.heap.size + 1) rfl 46 cP (0, 0) _ ?l10 Tryd.underlying46 rfl ?i10 ?_; exact HGP2.out; exact HPI.out) | (go_at_call 32; refine HM.out.mono ?_; rintro e z3 ⟨rfl, hz⟩; have BZ2 := Lib.hid hz; clear hz))
    try simp only [Act.put]
    have hal3 := bcomp BZ2.out ((Below.refl z3.heap.size z3).alloc (Nat.le_refl _) (.cells #[.int .i64 0, .slice none 0 0, .slice none 0 0, .bool false] 65))
    have hgw := heap_alloc_new z3 (.cells #[.int .i64 0, .slice none 0 0, .slice none 0 0, .bool false] 65)
    have B3 := Lib.hid (bcomp B2.out hal3)
    clear hal3 BZ2 HM
    generalize z3.alloc (.cells #[.int .i64 0, .slice none 0 0, .slice none 0 0, .bool false] 65) = W3 at *
    have y0 := row_of hgw 0 (.int .i64 0) rfl
    have y1 := row_of hgw 1 (.slice none 0 0) rfl
    have y2 := row_of hgw 2 (.slice none 0 0) rfl
    have y3 := row_of hgw 3 (.bool false) rfl
    have HEQ := Lib.hid (witSelf 0 [] [] false #[.int .i64 0, .slice none 0 0, .slice none 0 0, .bool false] #[.int .i64 0, .slice none 0 0, .slice none 0 0, .bool false] W3 (wit_zero W3) (wit_zero W3))
    have HAW := Lib.hid (fun (z : World) (hz : Below W3.heap.size W3 z) => awake7_any z ((HL.out.keep B3.out).keep hz) ((HT.out.keep B3.out).keep hz))
    clear hgw
    have hEE : ((4 : Int) == (4 : Int)) = true := by simp
    go_wp2_with (first | (go_at_call 35; refine HEQ.out.mono ?_; rintro e z4 ⟨rfl, hz⟩; have BZ4 := Lib.hid hz; clear hz) | (go_at_call 33; refine (HAW.out _ BZ4.out).mono ?_; rintro e z5 ⟨rfl, hz⟩; have B9 := Lib.hid (bcomp B3.out (bcomp BZ4.out hz)); clear hz))
    go_ret
    exact ⟨rfl, B9.out⟩
  subst hv
  have hE := makeE_good HE.out HV.out
  obtain ⟨I, hI⟩ : ∃ I, implB (runT f A q.steps) (runT f B q.steps) = I := ⟨_, rfl⟩
  have hm := make_good f q cF cP level _ _ A B z2 (HF.out.keep B2.out) (HP.out.keep B2.out) (HL.out.keep B2.out) (HT.out.keep B2.out) HLV.out (HA.out.keep B2.out) (HBB.out.keep B2.out) HSA.out HSB.out hE
  rw [hI] at hm
  have HM := Lib.hid hm
  have hc1 := check_made hE
  have hc2 := check_turned hE
  have hc3 := check_wrong hE
  rw [hI] at hc1 hc2 hc3
  have HC1 := Lib.hid hc1
  have HC2 := Lib.hid hc2
  have HC3 := Lib.hid hc3
  clear hE hI hm hc1 hc2 hc3 HE HV
  go_upto_region 9 with (first | (refine wpList_load_row rfl 43 (.tmp 5) rfl w.heap.size rfl 43 cF (0, 0) _ ?l11 Tryd.underlying43 rfl ?i11 ?_; exact HGF2.out; exact HFI.out) | (refine wpList_load_row rfl 46 (.tmp 6) rfl (w.heap.size + 1) rfl 46 cP (0, 0) _ ?l12 Tryd.underlying46 rfl ?i12 ?_; exact HGP2.out; exact HPI.out) | (go_at_call 32; refine HM.out.mono ?_; rintro e z3 ⟨va, vsa, vb, vsb, rfl, ho1, ho2, hz⟩; obtain ⟨xa, xc, rfl, -⟩ := own_read ho1.own; obtain ⟨ya, yc, rfl, -⟩ := own_read ho2.own; have HO1 := Lib.hid ho1; have HO2 := Lib.hid ho2; have BZ2 := Lib.hid hz; clear ho1 ho2 hz))
  try simp only [Act.put]
  have hal3 := (Below.refl z3.heap.size z3).alloc (Nat.le_refl _) (.cells #[.int .i64 level, .slice xa vsa.length xc, .slice ya vsb.length yc, .bool I] 65)
  have hgw0 := heap_alloc_new z3 (.cells #[.int .i64 level, .slice xa vsa.length xc, .slice ya vsb.length yc, .bool I] 65)
  have HQ1 := Lib.hid (((HO1.out.rd HLA.out HSA.out).forget).keep hal3)
  have HQ2 := Lib.hid (((HO2.out.rd HLB.out HSB.out).forget).keep hal3)
  have hb3 := bcomp BZ2.out hal3
  have B3 := Lib.hid (bcomp B2.out hb3)
  have HGF3 := Lib.hid ((hb3.block _ (Array.getElem?_eq_some_iff.1 HGF2.out).1).trans HGF2.out)
  have HGP3 := Lib.hid ((hb3.block _ (Array.getElem?_eq_some_iff.1 HGP2.out).1).trans HGP2.out)
  have HGW3 := Lib.hid hgw0
  have hla : vsa.length = A.length := HO1.out.len
  have hlb : vsb.length = B.length := HO2.out.len
  clear HM BZ2 hal3 hb3 hgw0 HGF2 HGP2
  generalize z3.alloc (.cells #[.int .i64 level, .slice xa vsa.length xc, .slice ya vsb.length yc, .bool I] 65) = W3 at *
  clear HO1 HO2
  rw [hla, hlb] at HGW3
  rw [hla] at HQ1
  rw [hlb] at HQ2
  have HWC3 : Hid (WitC W3 level A B I #[.int .i64 level, .slice xa A.length xc, .slice ya B.length yc, .bool I]) := ⟨_, _, rfl, HQ1.out, HQ2.out⟩
  clear hla hlb
  have hg3 : z3.heap.size < W3.heap.size := (Array.getElem?_eq_some_iff.1 HGW3.out).1
  go_cut [15] from 68 to 79 (fun c wx => ∃ (g : Nat) (ta tc sa sc : _), c = .pointer (some ⟨g, 0, none⟩) ∧ W3.heap.size ≤ g ∧ wx.heap[g]? = some (.cells #[.int .i64 level, .slice ta B.length tc, .slice sa A.length sc, .bool I] 65 (0, 0)) ∧ RdLists none wx (.slice ta B.length tc) B ∧ RdLists none wx (.slice sa A.length sc) A ∧ Below W3.heap.size W3 wx)
  case first =>
    refine wp_region_own [0, 1, 2, 3, 5, 6, 8, 9] [⟨4, some 72, []⟩, ⟨7, some 75, []⟩, ⟨10, some 78, [(4, some 72), (7, some 75)]⟩, ⟨11, some 15, []⟩] [12] [_] (fun j => decide (12 ≤ j))
      (fun j v w lo hi => match j with
        | 4 => ListsOf w v B
        | 7 => ListsOf w v A
        | 10 => TurnOf w v level I A B
        | 11 => ∃ g : Nat, v = .pointer (some ⟨g, 0, none⟩) ∧ W3.heap.size ≤ g ∧ w.heap[g]? = some (.cells #[.int .i64 0, .slice none 0 0, .slice none 0 0, .bool false] 65 (0, 0))
        | _ => True) (by kernel_rfl) (by kernel_rfl) rfl (by kernel_rfl) rfl rfl (fun _ d _ _ _ h => by cases d <;> exact h) ?_ ?_
    · intro j v w w' lo hi hy hbw
      match j, hy with
      | 4, hy => exact hy.keep hbw
      | 7, hy => exact hy.keep hbw
      | 10, hy => exact hy.keep hbw
      | 11, hy => obtain ⟨g, e, hl, h⟩ := hy; exact ⟨g, e, hl, (hbw.block _ (Array.getElem?_eq_some_iff.1 h).1).trans h⟩
      | 0, _ | 1, _ | 2, _ | 3, _ | 5, _ | 6, _ | 8, _ | 9, _ | (x + 12), _ => trivial
    · have l0 := ext_cell (W := W3) (row_of HGW3.out 0 (.int .i64 level) rfl)
      have l1 := ext_cell (W := W3) (row_of HGW3.out 1 (.slice xa A.length xc) rfl)
      have l2 := ext_cell (W := W3) (row_of HGW3.out 2 (.slice ya B.length yc) rfl)
      have l3 := ext_cell (W := W3) (row_of HGW3.out 3 (.bool I) rfl)
      refine mix_reads (by simp only [opsOf, List.filterMap_cons, List.filterMap_nil, List.getElem?_toArray, List.getElem?_cons_succ, List.getElem?_cons_zero]; rfl) ⟨_, ext_of (Below.refl _ _).drew⟩ ?_
      change wpQuiet _ _ _ _ [_, _, _, _, _, _, _, _] _
      (repeat (go_big_quiet_step (fail)))
      refine wpQuiet_nil ?_
      clear l0 l1 l2 l3
      have HBd : Hid (Below W3.heap.size W3 W3.drew) := (Below.refl _ _).drew
      refine ⟨⟨fun vs w hb hn => ?_, fun vs w hb hn => ?_, fun vs w hb hn => ?_, fun vs w hb hn => ?_, trivial⟩, fun vs w hb hy hd => ?_⟩
      · clear hn
        have hk := HQ2.out.keep (bcomp HBd.out hb)
        refine mix_step rfl ?_
        simp only [pv]
        go_wp2_with (go_at_call 23; refine (copyLists _ _ _ hk).mono ?_; rintro e w1 ⟨v, rfl, hr, hb1⟩)
        exact ⟨_, rfl, hb1, ListsOf.of (hr.up (Nat.zero_le _))⟩
      · clear hn
        have hk := HQ1.out.keep (bcomp HBd.out hb)
        refine mix_step rfl ?_
        simp only [pv]
        go_wp2_with (go_at_call 23; refine (copyLists _ _ _ hk).mono ?_; rintro e w1 ⟨v, rfl, hr, hb1⟩)
        exact ⟨_, rfl, hb1, ListsOf.of (hr.up (Nat.zero_le _))⟩
      · obtain ⟨a1, a2, e1, r1⟩ : ListsOf _ _ B := hn (4, some 72) (by simp)
        obtain ⟨b1, b2, e2, r2⟩ : ListsOf _ _ A := hn (7, some 75) (by simp)
        clear hn
        refine mix_step rfl ?_
        simp only [pv]
        rw [e1, e2]
        go_wp2_with fail
        exact ⟨_, rfl, Below.refl _ _, _, _, _, _, rfl, r1, r2⟩
      · clear hn
        refine mix_step rfl ?_
        simp only [pv]
        go_wp2_with fail
        have hw3 : W3.heap.size ≤ w.heap.size := by have := HBd.out.size; have := hb.size; omega
        exact ⟨_, rfl, (Below.refl _ _).alloc (Nat.le_refl _) _, _, rfl, hw3, heap_alloc_new _ _⟩
      · obtain ⟨⟨ta, tc, sa, sc, e1, r1, r2⟩, -⟩ := hy ⟨10, some 78, [(4, some 72), (7, some 75)]⟩ (by simp)
        obtain ⟨⟨g, e2, hl, hg⟩, -⟩ := hy ⟨11, some 15, []⟩ (by simp)
        clear hy hd
        have e1' : (vs 10).1 = .agg #[.int .i64 level, .slice ta B.length tc, .slice sa A.length sc, .bool I] := e1
        have e2' : (vs 11).1 = .pointer (some ⟨g, 0, none⟩) := e2
        clear e1 e2
        have HG := Lib.hid hg
        have HR1 := Lib.hid (r1.setRowT hg (by decide) (by decide) #[.int .i64 level, .slice ta B.length tc, .slice sa A.length sc, .bool I]).forget
        have HR2 := Lib.hid (r2.setRowT hg (by decide) (by decide) #[.int .i64 level, .slice ta B.length tc, .slice sa A.length sc, .bool I]).forget
        have HGN : Hid ((w.setRow g #[.int .i64 level, .slice ta B.length tc, .slice sa A.length sc, .bool I]).heap[g]? = some (.cells #[.int .i64 level, .slice ta B.length tc, .slice sa A.length sc, .bool I] 65 (0, 0))) := setRow_heap _ _ _ _ _ _ hg
        have HBE := Lib.hid (below_row (HBd.out.trans hb) hl #[.int .i64 level, .slice ta B.length tc, .slice sa A.length sc, .bool I])
        have HGL := Lib.hid hl
        clear hg hb hl r1 r2
        simp only [List.map, Maker.pr, pv]
        rw [e1', e2']
        clear e1' e2'
        simp only [Act.put, List.setIfInBounds_toArray, List.set_cons_succ, List.set_cons_zero, List.getElem_toArray, List.getElem_cons_succ, List.getElem_cons_zero]
        go_wp2_with (refine wpList_store_row rfl 65 (.tmp 15) (.tmp 78) rfl g #[.int .i64 level, .slice ta B.length tc, .slice sa A.length sc, .bool I] rfl rfl 65 #[.int .i64 0, .slice none 0 0, .slice none 0 0, .bool false] ?hs1 (by as_aux_lemma => kernel_rfl) (by as_aux_lemma => kernel_rfl) (by as_aux_lemma => kernel_rfl) ?_; exact HG.out)
        go_meet
        exact ⟨g, _, _, _, _, rfl, HGL.out, HGN.out, HR1.out, HR2.out, HBE.out⟩
  case rest =>
    obtain ⟨gt, ta, tc, sa, sc, rfl, hgt, hgc, hr1, hr2, hbv⟩ := hcut
    obtain ⟨W4, rfl⟩ : ∃ x : World, x = wc := ⟨_, rfl⟩
    have HGW4 := Lib.hid ((hbv.block _ hg3).trans HGW3.out)
    have HWC4 := Lib.hid (HWC3.out.keep hbv)
    have HWT4 : Hid (WitC W4 level B A I #[.int .i64 level, .slice ta B.length tc, .slice sa A.length sc, .bool I]) := ⟨_, _, rfl, hr1, hr2⟩
    have HGT4 := Lib.hid hgc
    have B4 := Lib.hid (bcomp B3.out hbv)
    have HGF4 := Lib.hid ((hbv.block _ (Array.getElem?_eq_some_iff.1 HGF3.out).1).trans HGF3.out)
    have HGP4 := Lib.hid ((hbv.block _ (Array.getElem?_eq_some_iff.1 HGP3.out).1).trans HGP3.out)
    have HCW := Lib.hid (copyWit level A B I _ W4 HWC4.out)
    have y0 := row_of HGW4.out 0 (.int .i64 level) rfl
    have y1 := row_of HGW4.out 1 (.slice xa A.length xc) rfl
    have y2 := row_of HGW4.out 2 (.slice ya B.length yc) rfl
    have y3 := row_of HGW4.out 3 (.bool I) rfl
    clear hgc hr1 hr2 hbv HGF3 HGP3 HGW3 HWC3 HQ1 HQ2
    go_upto_region 12 with (go_at_call 36; refine HCW.out.mono ?_; rintro e z5 ⟨cva, cvb, rfl, hk1, hk2, hz⟩; obtain ⟨ka, kc, rfl⟩ := hk1.is; obtain ⟨ma, mc, rfl⟩ := hk2.is; have HK1 := Lib.hid hk1; have HK2 := Lib.hid hk2; have BZ5 := Lib.hid hz; clear hk1 hk2 hz)
    try simp only [Act.put]
    have hal5 := (Below.refl z5.heap.size z5).alloc (Nat.le_refl _) (.cells #[.int .i64 level, .slice ka A.length kc, .slice ma B.length mc, .bool (!I)] 65)
    have HGC5 := Lib.hid (heap_alloc_new z5 (.cells #[.int .i64 level, .slice ka A.length kc, .slice ma B.length mc, .bool (!I)] 65))
    have hb5 := bcomp BZ5.out hal5
    have HWX5 : Hid (WitC (z5.alloc (.cells #[.int .i64 level, .slice ka A.length kc, .slice ma B.length mc, .bool (!I)] 65)) level A B (!I) #[.int .i64 level, .slice ka A.length kc, .slice ma B.length mc, .bool (!I)]) := ⟨_, _, rfl, HK1.out.keep hal5, HK2.out.keep hal5⟩
    have HWC5 := Lib.hid (HWC4.out.keep hb5)
    have HWT5 := Lib.hid (HWT4.out.keep hb5)
    have HGW5 := Lib.hid ((hb5.block _ (Array.getElem?_eq_some_iff.1 HGW4.out).1).trans HGW4.out)
    have HGT5 := Lib.hid ((hb5.block _ (Array.getElem?_eq_some_iff.1 HGT4.out).1).trans HGT4.out)
    have B5 := Lib.hid (bcomp B4.out hb5)
    have HGF5 := Lib.hid ((hb5.block _ (Array.getElem?_eq_some_iff.1 HGF4.out).1).trans HGF4.out)
    have HGP5 := Lib.hid ((hb5.block _ (Array.getElem?_eq_some_iff.1 HGP4.out).1).trans HGP4.out)
    clear HK1 HK2 BZ5 hal5 hb5 HCW HWC4 HWT4 HGW4 HGT4 HGF4 HGP4 y0 y1 y2 y3
    generalize z5.alloc (.cells #[.int .i64 level, .slice ka A.length kc, .slice ma B.length mc, .bool (!I)] 65) = W5 at *
    obtain ⟨fcv, fsv, fav, fkv, hcF, -⟩ := id HF.out
    obtain ⟨plv, pov, pcv, psv, hcP, -⟩ := id HP.out
    subst hcF
    subst hcP
    have HCK1 := Lib.hid (fun (z : World) (hz : Below W5.heap.size W5 z) => by have h := check_any f q _ _ _ level A B I z ((HF.out.keep B5.out).keep hz) ((HP.out.keep B5.out).keep hz) (HWC5.out.keep hz) ((HL.out.keep B5.out).keep hz) ((HT.out.keep B5.out).keep hz) HLV.out HSA.out HSB.out; rw [HC1.out] at h; exact h)
    have HCK2 := Lib.hid (fun (z : World) (hz : Below W5.heap.size W5 z) => by have h := check_any f q _ _ _ level B A I z ((HF.out.keep B5.out).keep hz) ((HP.out.keep B5.out).keep hz) (HWT5.out.keep hz) ((HL.out.keep B5.out).keep hz) ((HT.out.keep B5.out).keep hz) HLV.out HSB.out HSA.out; rw [HC2.out] at h; exact h)
    have HCK3 := Lib.hid (fun (z : World) (hz : Below W5.heap.size W5 z) => by have h := check_any f q _ _ _ level A B (!I) z ((HF.out.keep B5.out).keep hz) ((HP.out.keep B5.out).keep hz) (HWX5.out.keep hz) ((HL.out.keep B5.out).keep hz) ((HT.out.keep B5.out).keep hz) HLV.out HSA.out HSB.out; rw [HC3.out] at h; exact h)
    have HAW := Lib.hid (fun (z : World) (hz : Below W5.heap.size W5 z) => awake7_any z ((HL.out.keep B5.out).keep hz) ((HT.out.keep B5.out).keep hz))
    clear HC1 HC2 HC3 HWC5 HWT5 HWX5 HF HP HL HT HA HBB HSA HSB HLA HLB
    have q0 := row_of HGF5.out 0 (.int .i64 f.width) rfl
    have q1 := row_of HGF5.out 1 (.int .i64 f.regs) rfl
    have q2 := row_of HGF5.out 2 fcv rfl
    have q3 := row_of HGF5.out 3 fsv rfl
    have q4 := row_of HGF5.out 4 fav rfl
    have q5 := row_of HGF5.out 5 fkv rfl
    have p0 := row_of HGP5.out 0 plv rfl
    have p1 := row_of HGP5.out 1 pov rfl
    have p2 := row_of HGP5.out 2 pcv rfl
    have p3 := row_of HGP5.out 3 psv rfl
    have p4 := row_of HGP5.out 4 (.bool q.sens) rfl
    have p5 := row_of HGP5.out 5 (.int .i64 q.steps) rfl
    have p6 := row_of HGP5.out 6 (.int .i64 q.paths) rfl
    have p7 := row_of HGP5.out 7 (.int .i64 q.nodes) rfl
    have p8 := row_of HGP5.out 8 (.int .i64 q.confs) rfl
    have y0 := row_of HGW5.out 0 (.int .i64 level) rfl
    have y1 := row_of HGW5.out 1 (.slice xa A.length xc) rfl
    have y2 := row_of HGW5.out 2 (.slice ya B.length yc) rfl
    have y3 := row_of HGW5.out 3 (.bool I) rfl
    go_wp2_with (first | (go_at_call 31; with_reducible refine (HCK1.out _ (Below.refl _ _)).mono ?_; rintro e z6 ⟨rfl, hz⟩; have Z6 := Lib.hid (hz); have HGF6 := Lib.hid ((hz.block _ (Array.getElem?_eq_some_iff.1 HGF5.out).1).trans HGF5.out); have HGP6 := Lib.hid ((hz.block _ (Array.getElem?_eq_some_iff.1 HGP5.out).1).trans HGP5.out); have HGT6 := Lib.hid ((hz.block _ (Array.getElem?_eq_some_iff.1 HGT5.out).1).trans HGT5.out); have HGC6 := Lib.hid ((hz.block _ (Array.getElem?_eq_some_iff.1 HGC5.out).1).trans HGC5.out); clear hz; clear q0 q1 q2 q3 q4 q5 p0 p1 p2 p3 p4 p5 p6 p7 p8 y0 y1 y2 y3; have q0 := row_of HGF6.out 0 (.int .i64 f.width) rfl; have q1 := row_of HGF6.out 1 (.int .i64 f.regs) rfl; have q2 := row_of HGF6.out 2 fcv rfl; have q3 := row_of HGF6.out 3 fsv rfl; have q4 := row_of HGF6.out 4 fav rfl; have q5 := row_of HGF6.out 5 fkv rfl; have p0 := row_of HGP6.out 0 plv rfl; have p1 := row_of HGP6.out 1 pov rfl; have p2 := row_of HGP6.out 2 pcv rfl; have p3 := row_of HGP6.out 3 psv rfl; have p4 := row_of HGP6.out 4 (.bool q.sens) rfl; have p5 := row_of HGP6.out 5 (.int .i64 q.steps) rfl; have p6 := row_of HGP6.out 6 (.int .i64 q.paths) rfl; have p7 := row_of HGP6.out 7 (.int .i64 q.nodes) rfl; have p8 := row_of HGP6.out 8 (.int .i64 q.confs) rfl; have y0 := row_of HGT6.out 0 (.int .i64 level) rfl; have y1 := row_of HGT6.out 1 (.slice ta B.length tc) rfl; have y2 := row_of HGT6.out 2 (.slice sa A.length sc) rfl; have y3 := row_of HGT6.out 3 (.bool I) rfl) | (go_at_call 31; with_reducible refine (HCK2.out _ Z6.out).mono ?_; rintro e z7 ⟨rfl, hz⟩; have Z7 := Lib.hid (bcomp Z6.out hz); have HGF7 := Lib.hid ((hz.block _ (Array.getElem?_eq_some_iff.1 HGF6.out).1).trans HGF6.out); have HGP7 := Lib.hid ((hz.block _ (Array.getElem?_eq_some_iff.1 HGP6.out).1).trans HGP6.out); have HGT7 := Lib.hid ((hz.block _ (Array.getElem?_eq_some_iff.1 HGT6.out).1).trans HGT6.out); have HGC7 := Lib.hid ((hz.block _ (Array.getElem?_eq_some_iff.1 HGC6.out).1).trans HGC6.out); clear hz; clear q0 q1 q2 q3 q4 q5 p0 p1 p2 p3 p4 p5 p6 p7 p8 y0 y1 y2 y3; have q0 := row_of HGF7.out 0 (.int .i64 f.width) rfl; have q1 := row_of HGF7.out 1 (.int .i64 f.regs) rfl; have q2 := row_of HGF7.out 2 fcv rfl; have q3 := row_of HGF7.out 3 fsv rfl; have q4 := row_of HGF7.out 4 fav rfl; have q5 := row_of HGF7.out 5 fkv rfl; have p0 := row_of HGP7.out 0 plv rfl; have p1 := row_of HGP7.out 1 pov rfl; have p2 := row_of HGP7.out 2 pcv rfl; have p3 := row_of HGP7.out 3 psv rfl; have p4 := row_of HGP7.out 4 (.bool q.sens) rfl; have p5 := row_of HGP7.out 5 (.int .i64 q.steps) rfl; have p6 := row_of HGP7.out 6 (.int .i64 q.paths) rfl; have p7 := row_of HGP7.out 7 (.int .i64 q.nodes) rfl; have p8 := row_of HGP7.out 8 (.int .i64 q.confs) rfl; have y0 := row_of HGC7.out 0 (.int .i64 level) rfl; have y1 := row_of HGC7.out 1 (.slice ka A.length kc) rfl; have y2 := row_of HGC7.out 2 (.slice ma B.length mc) rfl; have y3 := row_of HGC7.out 3 (.bool (!I)) rfl) | (go_at_call 31; with_reducible refine (HCK3.out _ Z7.out).mono ?_; rintro e z8 ⟨rfl, hz⟩; have Z8 := Lib.hid (bcomp Z7.out hz); have HGF8 := Lib.hid ((hz.block _ (Array.getElem?_eq_some_iff.1 HGF7.out).1).trans HGF7.out); have HGP8 := Lib.hid ((hz.block _ (Array.getElem?_eq_some_iff.1 HGP7.out).1).trans HGP7.out); have HGT8 := Lib.hid ((hz.block _ (Array.getElem?_eq_some_iff.1 HGT7.out).1).trans HGT7.out); have HGC8 := Lib.hid ((hz.block _ (Array.getElem?_eq_some_iff.1 HGC7.out).1).trans HGC7.out); clear hz; clear q0 q1 q2 q3 q4 q5 p0 p1 p2 p3 p4 p5 p6 p7 p8 y0 y1 y2 y3) | (go_at_call 33; refine (HAW.out _ Z8.out).mono ?_; rintro e z9 ⟨rfl, hz⟩; have Z9 := Lib.hid (bcomp Z8.out hz); clear hz))
    go_ret
    exact ⟨rfl, bcomp B5.out Z9.out⟩
end Go.Proofs.YtkjkpddajjmloaaDoor
