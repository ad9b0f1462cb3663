/- Contracts of the kit's EqualTrace and Mod, and of the law's starts. Condition: what comes in reads as traces. -/
import Derived.Test.YthmdioldnnhidaaDoorKMb
set_option linter.unnecessarySimpa false
set_option linter.unusedVariables false
set_option linter.unusedSimpArgs false
namespace Go.Proofs.YthmdioldnnhidaaDoor
open Go.ChangeShapes Go.WideShapes Go.ChangeAt Go.RowKit
def eqT (x y : TraceD) : Bool := x.status == y.status && (x.steps == y.steps && (eqL eqEv x.outs y.outs && (eqL eqEv x.rels y.rels && (eqL eqBool x.brs y.brs && eqL eqInt x.reads y.reads))))
def startsT (x y : TraceD) : Bool := decide (x.steps ≤ y.steps) && (decide (x.outs.length ≤ y.outs.length) && (eqL eqEv x.outs (y.outs.take x.outs.length) && (decide (x.rels.length ≤ y.rels.length) && (eqL eqEv x.rels (y.rels.take x.rels.length) && (decide (x.brs.length ≤ y.brs.length) && eqL eqBool x.brs (y.brs.take x.brs.length))))))
set_option maxRecDepth 100000 in
theorem mod_any (n m : Int) (hn : InI64 n) (hm : 1 ≤ m ∧ m ≤ 1000) (w : World) : Calls Tryd.prog 27 #[.int .i64 n, .int .i64 m] w fun e w' => ∃ r, e = .returned (.int .i64 r) ∧ 0 ≤ r ∧ r < m ∧ Below w.heap.size w w' := by
  obtain ⟨hm1, hm2⟩ := hm
  unfold InI64 at hn
  have h1 : ¬ m < 1 := by omega
  have h0 : ¬ m = 0 := by omega
  have hb1 : -m < n.tmod m := by
    have := Int.tmod_lt_of_pos (-n) (show 0 < m by omega)
    rw [Int.neg_tmod] at this
    omega
  have hb2 : n.tmod m < m := Int.tmod_lt_of_pos n (by omega)
  go_enter Tryd.func27, Tryd.ntmps27
  go_wp2_with fail
  go_ret
  exact ⟨_, rfl, Int.emod_nonneg _ h0, Int.emod_lt_of_pos _ (by omega), Below.refl _ _⟩
set_option maxRecDepth 100000 in
set_option maxHeartbeats 1600000 in
theorem equalTrace (x y : TraceD) (ov rv bv dv ov' rv' bv' dv' : Value) (w : World) (h : RdTrace none w x ov rv bv dv) (g : RdTrace none w y ov' rv' bv' dv') :
    Calls Tryd.prog 19 #[traceV x ov rv bv dv, traceV y ov' rv' bv' dv'] w fun e w' => e = .returned (.bool (eqT x y)) ∧ Below w.heap.size w w' := by
  obtain ⟨V, hV⟩ : ∃ V, eqT x y = V := ⟨_, rfl⟩
  rw [hV]
  obtain ⟨a1, a2, rfl⟩ := h.1.is
  obtain ⟨a3, a4, rfl⟩ := h.2.1.is
  obtain ⟨a5, a6, rfl⟩ := h.2.2.1.is
  obtain ⟨a7, a8, rfl⟩ := h.2.2.2.1.is
  obtain ⟨b1, b2, rfl⟩ := g.1.is
  obtain ⟨b3, b4, rfl⟩ := g.2.1.is
  obtain ⟨b5, b6, rfl⟩ := g.2.2.1.is
  obtain ⟨b7, b8, rfl⟩ := g.2.2.2.1.is
  have hal := ((Below.refl w.heap.size w).alloc (Nat.le_refl _) (.cells #[.int .u8 x.status, .int .i64 x.steps, .slice a1 x.outs.length a2, .slice a3 x.rels.length a4, .slice a5 x.brs.length a6, .slice a7 x.reads.length a8] 49)).alloc (by simp) (.cells #[.int .u8 y.status, .int .i64 y.steps, .slice b1 y.outs.length b2, .slice b3 y.rels.length b4, .slice b5 y.brs.length b6, .slice b7 y.reads.length b8] 49)
  have hbb := heap2_of (w := w) (A := .cells #[.int .u8 x.status, .int .i64 x.steps, .slice a1 x.outs.length a2, .slice a3 x.rels.length a4, .slice a5 x.brs.length a6, .slice a7 x.reads.length a8] 49) (B := .cells #[.int .u8 y.status, .int .i64 y.steps, .slice b1 y.outs.length b2, .slice b3 y.rels.length b4, .slice b5 y.brs.length b6, .slice b7 y.reads.length b8] 49) (Below.refl _ _)
  have HX := Lib.hid (h.keep hal)
  have HY := Lib.hid (g.keep hal)
  have G0 := Lib.hid hbb.1
  have G1 := Lib.hid hbb.2.1
  have HB := Lib.hid hal
  clear hal hbb h g
  go_enter Tryd.func19, Tryd.ntmps19
  go_upto_region 1 with fail
  generalize ((w.alloc (.cells #[.int .u8 x.status, .int .i64 x.steps, .slice a1 x.outs.length a2, .slice a3 x.rels.length a4, .slice a5 x.brs.length a6, .slice a7 x.reads.length a8] 49)).alloc (.cells #[.int .u8 y.status, .int .i64 y.steps, .slice b1 y.outs.length b2, .slice b3 y.rels.length b4, .slice b5 y.brs.length b6, .slice b7 y.reads.length b8] 49)) = W at *
  have i0 := row_of G0.out 0 (.int .u8 x.status) rfl
  have j0 := row_of G1.out 0 (.int .u8 y.status) rfl
  have i1 := row_of G0.out 1 (.int .i64 x.steps) rfl
  have j1 := row_of G1.out 1 (.int .i64 y.steps) rfl
  have i2 := row_of G0.out 2 (.slice a1 x.outs.length a2) rfl
  have j2 := row_of G1.out 2 (.slice b1 y.outs.length b2) rfl
  have hsW : w.heap.size + 1 < W.heap.size := (Array.getElem?_eq_some_iff.1 G1.out).1
  have HC0 := Lib.hid (fun (w' : World) (hb : Below W.heap.size W w') => equalEv _ _ _ _ w' (HX.out.1.keep hb) (HY.out.1.keep hb))
  have HC1 := Lib.hid (fun (w' : World) (hb : Below W.heap.size W w') => equalEv _ _ _ _ w' (HX.out.2.1.keep hb) (HY.out.2.1.keep hb))
  have HC2 := Lib.hid (fun (w' : World) (hb : Below W.heap.size W w') => equalBool _ _ _ _ w' (HX.out.2.2.1.keep hb) (HY.out.2.2.1.keep hb))
  have HC3 := Lib.hid (fun (w' : World) (hb : Below W.heap.size W w') => equalInt _ _ _ _ w' (HX.out.2.2.2.1.keep hb) (HY.out.2.2.2.1.keep hb))
  have HK : Hid (∀ w' : World, Below W.heap.size W w' → w'.heap[w.heap.size]? = W.heap[w.heap.size]? ∧ w'.heap[w.heap.size + 1]? = W.heap[w.heap.size + 1]?) := fun w' hb => ⟨hb.block _ (by omega), hb.block _ (by omega)⟩
  cases q0 : (x.status == y.status)
  · obtain rfl : V = false := by rw [← hV]; simp [eqT, q0]
    clear hV
    go_wp2_with (first | (go_at_call 47; with_reducible refine (HC0.out _ (Below.refl _ _)).mono ?_; rintro e w1 ⟨rfl, hw⟩; have B1 := Lib.hid (hw); clear hw; have i3 := row_of ((HK.out _ B1.out).1.trans G0.out) 3 (.slice a3 x.rels.length a4) rfl; have j3 := row_of ((HK.out _ B1.out).2.trans G1.out) 3 (.slice b3 y.rels.length b4) rfl) | (go_at_call 47; with_reducible refine (HC1.out _ B1.out).mono ?_; rintro e w2 ⟨rfl, hw⟩; have B2 := Lib.hid (bcomp B1.out hw); clear hw; have i4 := row_of ((HK.out _ B2.out).1.trans G0.out) 4 (.slice a5 x.brs.length a6) rfl; have j4 := row_of ((HK.out _ B2.out).2.trans G1.out) 4 (.slice b5 y.brs.length b6) rfl) | (go_at_call 48; with_reducible refine (HC2.out _ B2.out).mono ?_; rintro e w3 ⟨rfl, hw⟩; have B3 := Lib.hid (bcomp B2.out hw); clear hw; have i5 := row_of ((HK.out _ B3.out).1.trans G0.out) 5 (.slice a7 x.reads.length a8) rfl; have j5 := row_of ((HK.out _ B3.out).2.trans G1.out) 5 (.slice b7 y.reads.length b8) rfl) | (go_at_call 39; with_reducible refine (HC3.out _ B3.out).mono ?_; rintro e w4 ⟨rfl, hw⟩; have B4 := Lib.hid (bcomp B3.out hw); clear hw))
    go_ret
    exact ⟨rfl, HB.out⟩
  cases q1 : (x.steps == y.steps)
  · obtain rfl : V = false := by rw [← hV]; simp [eqT, q0, q1]
    clear hV
    go_wp2_with (first | (go_at_call 47; with_reducible refine (HC0.out _ (Below.refl _ _)).mono ?_; rintro e w1 ⟨rfl, hw⟩; have B1 := Lib.hid (hw); clear hw; have i3 := row_of ((HK.out _ B1.out).1.trans G0.out) 3 (.slice a3 x.rels.length a4) rfl; have j3 := row_of ((HK.out _ B1.out).2.trans G1.out) 3 (.slice b3 y.rels.length b4) rfl) | (go_at_call 47; with_reducible refine (HC1.out _ B1.out).mono ?_; rintro e w2 ⟨rfl, hw⟩; have B2 := Lib.hid (bcomp B1.out hw); clear hw; have i4 := row_of ((HK.out _ B2.out).1.trans G0.out) 4 (.slice a5 x.brs.length a6) rfl; have j4 := row_of ((HK.out _ B2.out).2.trans G1.out) 4 (.slice b5 y.brs.length b6) rfl) | (go_at_call 48; with_reducible refine (HC2.out _ B2.out).mono ?_; rintro e w3 ⟨rfl, hw⟩; have B3 := Lib.hid (bcomp B2.out hw); clear hw; have i5 := row_of ((HK.out _ B3.out).1.trans G0.out) 5 (.slice a7 x.reads.length a8) rfl; have j5 := row_of ((HK.out _ B3.out).2.trans G1.out) 5 (.slice b7 y.reads.length b8) rfl) | (go_at_call 39; with_reducible refine (HC3.out _ B3.out).mono ?_; rintro e w4 ⟨rfl, hw⟩; have B4 := Lib.hid (bcomp B3.out hw); clear hw))
    go_ret
    exact ⟨rfl, HB.out⟩
  cases q2 : (eqL eqEv x.outs y.outs)
  · obtain rfl : V = false := by rw [← hV]; simp [eqT, q0, q1, q2]
    rw [q2] at HC0
    clear hV
    clear q2
    go_wp2_with (first | (go_at_call 47; with_reducible refine (HC0.out _ (Below.refl _ _)).mono ?_; rintro e w1 ⟨rfl, hw⟩; have B1 := Lib.hid (hw); clear hw; have i3 := row_of ((HK.out _ B1.out).1.trans G0.out) 3 (.slice a3 x.rels.length a4) rfl; have j3 := row_of ((HK.out _ B1.out).2.trans G1.out) 3 (.slice b3 y.rels.length b4) rfl) | (go_at_call 47; with_reducible refine (HC1.out _ B1.out).mono ?_; rintro e w2 ⟨rfl, hw⟩; have B2 := Lib.hid (bcomp B1.out hw); clear hw; have i4 := row_of ((HK.out _ B2.out).1.trans G0.out) 4 (.slice a5 x.brs.length a6) rfl; have j4 := row_of ((HK.out _ B2.out).2.trans G1.out) 4 (.slice b5 y.brs.length b6) rfl) | (go_at_call 48; with_reducible refine (HC2.out _ B2.out).mono ?_; rintro e w3 ⟨rfl, hw⟩; have B3 := Lib.hid (bcomp B2.out hw); clear hw; have i5 := row_of ((HK.out _ B3.out).1.trans G0.out) 5 (.slice a7 x.reads.length a8) rfl; have j5 := row_of ((HK.out _ B3.out).2.trans G1.out) 5 (.slice b7 y.reads.length b8) rfl) | (go_at_call 39; with_reducible refine (HC3.out _ B3.out).mono ?_; rintro e w4 ⟨rfl, hw⟩; have B4 := Lib.hid (bcomp B3.out hw); clear hw))
    go_ret
    exact ⟨rfl, bcomp HB.out B1.out⟩
  cases q3 : (eqL eqEv x.rels y.rels)
  · obtain rfl : V = false := by rw [← hV]; simp [eqT, q0, q1, q2, q3]
    rw [q2] at HC0
    rw [q3] at HC1
    clear hV
    clear q2
    clear q3
    go_wp2_with (first | (go_at_call 47; with_reducible refine (HC0.out _ (Below.refl _ _)).mono ?_; rintro e w1 ⟨rfl, hw⟩; have B1 := Lib.hid (hw); clear hw; have i3 := row_of ((HK.out _ B1.out).1.trans G0.out) 3 (.slice a3 x.rels.length a4) rfl; have j3 := row_of ((HK.out _ B1.out).2.trans G1.out) 3 (.slice b3 y.rels.length b4) rfl) | (go_at_call 47; with_reducible refine (HC1.out _ B1.out).mono ?_; rintro e w2 ⟨rfl, hw⟩; have B2 := Lib.hid (bcomp B1.out hw); clear hw; have i4 := row_of ((HK.out _ B2.out).1.trans G0.out) 4 (.slice a5 x.brs.length a6) rfl; have j4 := row_of ((HK.out _ B2.out).2.trans G1.out) 4 (.slice b5 y.brs.length b6) rfl) | (go_at_call 48; with_reducible refine (HC2.out _ B2.out).mono ?_; rintro e w3 ⟨rfl, hw⟩; have B3 := Lib.hid (bcomp B2.out hw); clear hw; have i5 := row_of ((HK.out _ B3.out).1.trans G0.out) 5 (.slice a7 x.reads.length a8) rfl; have j5 := row_of ((HK.out _ B3.out).2.trans G1.out) 5 (.slice b7 y.reads.length b8) rfl) | (go_at_call 39; with_reducible refine (HC3.out _ B3.out).mono ?_; rintro e w4 ⟨rfl, hw⟩; have B4 := Lib.hid (bcomp B3.out hw); clear hw))
    go_ret
    exact ⟨rfl, bcomp HB.out B2.out⟩
  cases q4 : (eqL eqBool x.brs y.brs)
  · obtain rfl : V = false := by rw [← hV]; simp [eqT, q0, q1, q2, q3, q4]
    rw [q2] at HC0
    rw [q3] at HC1
    rw [q4] at HC2
    clear hV
    clear q2
    clear q3
    clear q4
    go_wp2_with (first | (go_at_call 47; with_reducible refine (HC0.out _ (Below.refl _ _)).mono ?_; rintro e w1 ⟨rfl, hw⟩; have B1 := Lib.hid (hw); clear hw; have i3 := row_of ((HK.out _ B1.out).1.trans G0.out) 3 (.slice a3 x.rels.length a4) rfl; have j3 := row_of ((HK.out _ B1.out).2.trans G1.out) 3 (.slice b3 y.rels.length b4) rfl) | (go_at_call 47; with_reducible refine (HC1.out _ B1.out).mono ?_; rintro e w2 ⟨rfl, hw⟩; have B2 := Lib.hid (bcomp B1.out hw); clear hw; have i4 := row_of ((HK.out _ B2.out).1.trans G0.out) 4 (.slice a5 x.brs.length a6) rfl; have j4 := row_of ((HK.out _ B2.out).2.trans G1.out) 4 (.slice b5 y.brs.length b6) rfl) | (go_at_call 48; with_reducible refine (HC2.out _ B2.out).mono ?_; rintro e w3 ⟨rfl, hw⟩; have B3 := Lib.hid (bcomp B2.out hw); clear hw; have i5 := row_of ((HK.out _ B3.out).1.trans G0.out) 5 (.slice a7 x.reads.length a8) rfl; have j5 := row_of ((HK.out _ B3.out).2.trans G1.out) 5 (.slice b7 y.reads.length b8) rfl) | (go_at_call 39; with_reducible refine (HC3.out _ B3.out).mono ?_; rintro e w4 ⟨rfl, hw⟩; have B4 := Lib.hid (bcomp B3.out hw); clear hw))
    go_ret
    exact ⟨rfl, bcomp HB.out B3.out⟩
  cases q5 : (eqL eqInt x.reads y.reads)
  · obtain rfl : V = false := by rw [← hV]; simp [eqT, q0, q1, q2, q3, q4, q5]
    rw [q2] at HC0
    rw [q3] at HC1
    rw [q4] at HC2
    rw [q5] at HC3
    clear hV
    clear q2
    clear q3
    clear q4
    clear q5
    go_wp2_with (first | (go_at_call 47; with_reducible refine (HC0.out _ (Below.refl _ _)).mono ?_; rintro e w1 ⟨rfl, hw⟩; have B1 := Lib.hid (hw); clear hw; have i3 := row_of ((HK.out _ B1.out).1.trans G0.out) 3 (.slice a3 x.rels.length a4) rfl; have j3 := row_of ((HK.out _ B1.out).2.trans G1.out) 3 (.slice b3 y.rels.length b4) rfl) | (go_at_call 47; with_reducible refine (HC1.out _ B1.out).mono ?_; rintro e w2 ⟨rfl, hw⟩; have B2 := Lib.hid (bcomp B1.out hw); clear hw; have i4 := row_of ((HK.out _ B2.out).1.trans G0.out) 4 (.slice a5 x.brs.length a6) rfl; have j4 := row_of ((HK.out _ B2.out).2.trans G1.out) 4 (.slice b5 y.brs.length b6) rfl) | (go_at_call 48; with_reducible refine (HC2.out _ B2.out).mono ?_; rintro e w3 ⟨rfl, hw⟩; have B3 := Lib.hid (bcomp B2.out hw); clear hw; have i5 := row_of ((HK.out _ B3.out).1.trans G0.out) 5 (.slice a7 x.reads.length a8) rfl; have j5 := row_of ((HK.out _ B3.out).2.trans G1.out) 5 (.slice b7 y.reads.length b8) rfl) | (go_at_call 39; with_reducible refine (HC3.out _ B3.out).mono ?_; rintro e w4 ⟨rfl, hw⟩; have B4 := Lib.hid (bcomp B3.out hw); clear hw))
    go_ret
    exact ⟨rfl, bcomp HB.out B4.out⟩
  obtain rfl : V = true := by rw [← hV]; simp [eqT, q0, q1, q2, q3, q4, q5]
  rw [q2] at HC0
  rw [q3] at HC1
  rw [q4] at HC2
  rw [q5] at HC3
  clear hV q2 q3 q4 q5
  go_wp2_with (first | (go_at_call 47; with_reducible refine (HC0.out _ (Below.refl _ _)).mono ?_; rintro e w1 ⟨rfl, hw⟩; have B1 := Lib.hid (hw); clear hw; have i3 := row_of ((HK.out _ B1.out).1.trans G0.out) 3 (.slice a3 x.rels.length a4) rfl; have j3 := row_of ((HK.out _ B1.out).2.trans G1.out) 3 (.slice b3 y.rels.length b4) rfl) | (go_at_call 47; with_reducible refine (HC1.out _ B1.out).mono ?_; rintro e w2 ⟨rfl, hw⟩; have B2 := Lib.hid (bcomp B1.out hw); clear hw; have i4 := row_of ((HK.out _ B2.out).1.trans G0.out) 4 (.slice a5 x.brs.length a6) rfl; have j4 := row_of ((HK.out _ B2.out).2.trans G1.out) 4 (.slice b5 y.brs.length b6) rfl) | (go_at_call 48; with_reducible refine (HC2.out _ B2.out).mono ?_; rintro e w3 ⟨rfl, hw⟩; have B3 := Lib.hid (bcomp B2.out hw); clear hw; have i5 := row_of ((HK.out _ B3.out).1.trans G0.out) 5 (.slice a7 x.reads.length a8) rfl; have j5 := row_of ((HK.out _ B3.out).2.trans G1.out) 5 (.slice b7 y.reads.length b8) rfl) | (go_at_call 39; with_reducible refine (HC3.out _ B3.out).mono ?_; rintro e w4 ⟨rfl, hw⟩; have B4 := Lib.hid (bcomp B3.out hw); clear hw))
  go_ret
  exact ⟨rfl, bcomp HB.out B4.out⟩
set_option maxRecDepth 100000 in
set_option maxHeartbeats 1600000 in
theorem starts_any (x y : TraceD) (ov rv bv dv ov' rv' bv' dv' : Value) (w : World) (h : RdTrace none w x ov rv bv dv) (g : RdTrace none w y ov' rv' bv' dv') :
    Calls Tryd.prog 29 #[traceV x ov rv bv dv, traceV y ov' rv' bv' dv'] w fun e w' => e = .returned (.bool (startsT x y)) ∧ Below w.heap.size w w' := by
  obtain ⟨V, hV⟩ : ∃ V, startsT x y = V := ⟨_, rfl⟩
  rw [hV]
  obtain ⟨a1, a2, rfl⟩ := h.1.is
  obtain ⟨a3, a4, rfl⟩ := h.2.1.is
  obtain ⟨a5, a6, rfl⟩ := h.2.2.1.is
  obtain ⟨a7, a8, rfl⟩ := h.2.2.2.1.is
  obtain ⟨b1, b2, rfl⟩ := g.1.is
  obtain ⟨b3, b4, rfl⟩ := g.2.1.is
  obtain ⟨b5, b6, rfl⟩ := g.2.2.1.is
  obtain ⟨b7, b8, rfl⟩ := g.2.2.2.1.is
  have k1 := cap_of g.1
  have k2 := cap_of g.2.1
  have k3 := cap_of g.2.2.1
  have T1 := Lib.hid (fun hle => g.1.take x.outs.length hle)
  have T2 := Lib.hid (fun hle => g.2.1.take x.rels.length hle)
  have T3 := Lib.hid (fun hle => g.2.2.1.take x.brs.length hle)
  have hal := ((Below.refl w.heap.size w).alloc (Nat.le_refl _) (.cells #[.int .u8 x.status, .int .i64 x.steps, .slice a1 x.outs.length a2, .slice a3 x.rels.length a4, .slice a5 x.brs.length a6, .slice a7 x.reads.length a8] 49)).alloc (by simp) (.cells #[.int .u8 y.status, .int .i64 y.steps, .slice b1 y.outs.length b2, .slice b3 y.rels.length b4, .slice b5 y.brs.length b6, .slice b7 y.reads.length b8] 49)
  have hbb := heap2_of (w := w) (A := .cells #[.int .u8 x.status, .int .i64 x.steps, .slice a1 x.outs.length a2, .slice a3 x.rels.length a4, .slice a5 x.brs.length a6, .slice a7 x.reads.length a8] 49) (B := .cells #[.int .u8 y.status, .int .i64 y.steps, .slice b1 y.outs.length b2, .slice b3 y.rels.length b4, .slice b5 y.brs.length b6, .slice b7 y.reads.length b8] 49) (Below.refl _ _)
  have HX := Lib.hid (h.keep hal)
  have HY := Lib.hid (g.keep hal)
  have G0 := Lib.hid hbb.1
  have G1 := Lib.hid hbb.2.1
  have HB := Lib.hid hal
  have T1' := Lib.hid (fun hle => (T1.out hle).keep hal)
  have T2' := Lib.hid (fun hle => (T2.out hle).keep hal)
  have T3' := Lib.hid (fun hle => (T3.out hle).keep hal)
  clear hal hbb h g T1 T2 T3
  go_enter Tryd.func29, Tryd.ntmps29
  go_upto_region 1 with fail
  simp only [List.append_eq, List.cons_append, List.nil_append]
  generalize ((w.alloc (.cells #[.int .u8 x.status, .int .i64 x.steps, .slice a1 x.outs.length a2, .slice a3 x.rels.length a4, .slice a5 x.brs.length a6, .slice a7 x.reads.length a8] 49)).alloc (.cells #[.int .u8 y.status, .int .i64 y.steps, .slice b1 y.outs.length b2, .slice b3 y.rels.length b4, .slice b5 y.brs.length b6, .slice b7 y.reads.length b8] 49)) = W at *
  have l0 := ext_cell (row_of G0.out 1 (.int .i64 x.steps) rfl)
  have m0 := ext_cell (row_of G1.out 1 (.int .i64 y.steps) rfl)
  have l1 := ext_cell (row_of G0.out 2 (.slice a1 x.outs.length a2) rfl)
  have m1 := ext_cell (row_of G1.out 2 (.slice b1 y.outs.length b2) rfl)
  have HC0 := Lib.hid (fun (z : World) (hle : x.outs.length ≤ y.outs.length) => equalEv _ _ _ _ (ext W z) (HX.out.1.keep (ext_below W z)) ((T1'.out hle).keep (ext_below W z)))
  have l2 := ext_cell (row_of G0.out 3 (.slice a3 x.rels.length a4) rfl)
  have m2 := ext_cell (row_of G1.out 3 (.slice b3 y.rels.length b4) rfl)
  have HC1 := Lib.hid (fun (z : World) (hle : x.rels.length ≤ y.rels.length) => equalEv _ _ _ _ (ext W z) (HX.out.2.1.keep (ext_below W z)) ((T2'.out hle).keep (ext_below W z)))
  have l3 := ext_cell (row_of G0.out 4 (.slice a5 x.brs.length a6) rfl)
  have m3 := ext_cell (row_of G1.out 4 (.slice b5 y.brs.length b6) rfl)
  have HC2 := Lib.hid (fun (z : World) (hle : x.brs.length ≤ y.brs.length) => equalBool _ _ _ _ (ext W z) (HX.out.2.2.1.keep (ext_below W z)) ((T3'.out hle).keep (ext_below W z)))
  by_cases s9 : x.steps ≤ y.steps
  rotate_left
  · obtain rfl : V = false := by rw [← hV]; simp [startsT, s9]
    clear hV
    (refine wp_region_calm (by kernel_rfl) (by kernel_rfl) ?_; (repeat (go_big_quiet_step ((first | (go_at_call 47; with_reducible exact calls_calm (HC0.out _ s0)) | (go_at_call 47; with_reducible exact calls_calm (HC1.out _ s1)) | (go_at_call 48; with_reducible exact calls_calm (HC2.out _ s2)))))); refine wpQuiet_nil ?_; intro wc hwc)
    go_wp2
    go_ret
    exact ⟨rfl, bcomp HB.out hwc⟩
  by_cases s0 : x.outs.length ≤ y.outs.length
  rotate_left
  · obtain rfl : V = false := by rw [← hV]; simp [startsT, s9, s0]
    clear hV 
    (refine wp_region_calm (by kernel_rfl) (by kernel_rfl) ?_; (repeat (go_big_quiet_step ((first | (go_at_call 47; with_reducible exact calls_calm (HC0.out _ s0)) | (go_at_call 47; with_reducible exact calls_calm (HC1.out _ s1)) | (go_at_call 48; with_reducible exact calls_calm (HC2.out _ s2)))))); refine wpQuiet_nil ?_; intro wc hwc)
    go_wp2
    go_ret
    exact ⟨rfl, bcomp HB.out hwc⟩
  cases q0 : (eqL eqEv x.outs (y.outs.take x.outs.length))
  · obtain rfl : V = false := by rw [← hV]; simp [startsT, s9, s0, q0]
    rw [q0] at HC0
    clear hV q0
    (refine wp_region_calm (by kernel_rfl) (by kernel_rfl) ?_; (repeat (go_big_quiet_step ((first | (go_at_call 47; with_reducible exact calls_calm (HC0.out _ s0)) | (go_at_call 47; with_reducible exact calls_calm (HC1.out _ s1)) | (go_at_call 48; with_reducible exact calls_calm (HC2.out _ s2)))))); refine wpQuiet_nil ?_; intro wc hwc)
    go_wp2
    go_ret
    exact ⟨rfl, bcomp HB.out hwc⟩
  by_cases s1 : x.rels.length ≤ y.rels.length
  rotate_left
  · obtain rfl : V = false := by rw [← hV]; simp [startsT, s9, s0, q0, s1]
    rw [q0] at HC0
    clear hV q0
    (refine wp_region_calm (by kernel_rfl) (by kernel_rfl) ?_; (repeat (go_big_quiet_step ((first | (go_at_call 47; with_reducible exact calls_calm (HC0.out _ s0)) | (go_at_call 47; with_reducible exact calls_calm (HC1.out _ s1)) | (go_at_call 48; with_reducible exact calls_calm (HC2.out _ s2)))))); refine wpQuiet_nil ?_; intro wc hwc)
    go_wp2
    go_ret
    exact ⟨rfl, bcomp HB.out hwc⟩
  cases q1 : (eqL eqEv x.rels (y.rels.take x.rels.length))
  · obtain rfl : V = false := by rw [← hV]; simp [startsT, s9, s0, q0, s1, q1]
    rw [q0] at HC0
    rw [q1] at HC1
    clear hV q0 q1
    (refine wp_region_calm (by kernel_rfl) (by kernel_rfl) ?_; (repeat (go_big_quiet_step ((first | (go_at_call 47; with_reducible exact calls_calm (HC0.out _ s0)) | (go_at_call 47; with_reducible exact calls_calm (HC1.out _ s1)) | (go_at_call 48; with_reducible exact calls_calm (HC2.out _ s2)))))); refine wpQuiet_nil ?_; intro wc hwc)
    go_wp2
    go_ret
    exact ⟨rfl, bcomp HB.out hwc⟩
  by_cases s2 : x.brs.length ≤ y.brs.length
  rotate_left
  · obtain rfl : V = false := by rw [← hV]; simp [startsT, s9, s0, q0, s1, q1, s2]
    rw [q0] at HC0
    rw [q1] at HC1
    clear hV q0 q1
    (refine wp_region_calm (by kernel_rfl) (by kernel_rfl) ?_; (repeat (go_big_quiet_step ((first | (go_at_call 47; with_reducible exact calls_calm (HC0.out _ s0)) | (go_at_call 47; with_reducible exact calls_calm (HC1.out _ s1)) | (go_at_call 48; with_reducible exact calls_calm (HC2.out _ s2)))))); refine wpQuiet_nil ?_; intro wc hwc)
    go_wp2
    go_ret
    exact ⟨rfl, bcomp HB.out hwc⟩
  cases q2 : (eqL eqBool x.brs (y.brs.take x.brs.length))
  · obtain rfl : V = false := by rw [← hV]; simp [startsT, s9, s0, q0, s1, q1, s2, q2]
    rw [q0] at HC0
    rw [q1] at HC1
    rw [q2] at HC2
    clear hV q0 q1 q2
    (refine wp_region_calm (by kernel_rfl) (by kernel_rfl) ?_; (repeat (go_big_quiet_step ((first | (go_at_call 47; with_reducible exact calls_calm (HC0.out _ s0)) | (go_at_call 47; with_reducible exact calls_calm (HC1.out _ s1)) | (go_at_call 48; with_reducible exact calls_calm (HC2.out _ s2)))))); refine wpQuiet_nil ?_; intro wc hwc)
    go_wp2
    go_ret
    exact ⟨rfl, bcomp HB.out hwc⟩
  obtain rfl : V = true := by rw [← hV]; simp [startsT, s9, s0, q0, s1, q1, s2, q2]
  rw [q0] at HC0
  rw [q1] at HC1
  rw [q2] at HC2
  clear hV q0 q1 q2
  (refine wp_region_calm (by kernel_rfl) (by kernel_rfl) ?_; (repeat (go_big_quiet_step ((first | (go_at_call 47; with_reducible exact calls_calm (HC0.out _ s0)) | (go_at_call 47; with_reducible exact calls_calm (HC1.out _ s1)) | (go_at_call 48; with_reducible exact calls_calm (HC2.out _ s2)))))); refine wpQuiet_nil ?_; intro wc hwc)
  go_wp2
  go_ret
  exact ⟨rfl, bcomp HB.out hwc⟩
end Go.Proofs.YthmdioldnnhidaaDoor
