/- Contracts of the kit's EqualTrace and Mod, and of the law's starts. Condition: what comes in reads as traces. Contract of the law's runs, where the run has the trace; rows in new memory. Conditions: what comes in reads as the flat program, the trace and the inputs; the tables hold what they are laid with. -/
import Derived.Test.YthmdioldnnhidaaDoorKMb
set_option linter.unnecessarySimpa false
set_option linter.unusedVariables false
set_option linter.unusedSimpArgs false
namespace Go.Proofs.YthmdioldnnhidaaDoor
open Go.ChangeShapes Go.WideShapes Go.ChangeAt Go.RowKit
def eqT (x y : TraceD) : Bool := x.status == y.status && (x.steps == y.steps && (eqL eqEv x.outs y.outs && (eqL eqEv x.rels y.rels && (eqL eqBool x.brs y.brs && eqL eqInt x.reads y.reads))))
def startsT (x y : TraceD) : Bool := decide (x.steps ≤ y.steps) && (decide (x.outs.length ≤ y.outs.length) && (eqL eqEv x.outs (y.outs.take x.outs.length) && (decide (x.rels.length ≤ y.rels.length) && (eqL eqEv x.rels (y.rels.take x.rels.length) && (decide (x.brs.length ≤ y.brs.length) && eqL eqBool x.brs (y.brs.take x.brs.length))))))
set_option maxRecDepth 100000 in
theorem mod_any (n m : Int) (hn : InI64 n) (hm : 1 ≤ m ∧ m ≤ 1000) (w : World) : Calls Tryd.prog 27 #[.int .i64 n, .int .i64 m] w fun e w' => ∃ r, e = .returned (.int .i64 r) ∧ 0 ≤ r ∧ r < m ∧ Below w.heap.size w w' := by
  obtain ⟨hm1, hm2⟩ := hm
  unfold InI64 at hn
  have h1 : ¬ m < 1 := by omega
  have h0 : ¬ m = 0 := by omega
  have hb1 : -m < n.tmod m := by
    have := Int.tmod_lt_of_pos (-n) (show 0 < m by omega)
    rw [Int.neg_tmod] at this
    omega
  have hb2 : n.tmod m < m := Int.tmod_lt_of_pos n (by omega)
  go_enter Tryd.func27, Tryd.ntmps27
  go_wp2_with fail
  go_ret
  exact ⟨_, rfl, Int.emod_nonneg _ h0, Int.emod_lt_of_pos _ (by omega), Below.refl _ _⟩
set_option maxRecDepth 100000 in
set_option maxHeartbeats 1600000 in
theorem equalTrace (x y : TraceD) (ov rv bv dv ov' rv' bv' dv' : Value) (w : World) (h : RdTrace none w x ov rv bv dv) (g : RdTrace none w y ov' rv' bv' dv') :
    Calls Tryd.prog 19 #[traceV x ov rv bv dv, traceV y ov' rv' bv' dv'] w fun e w' => e = .returned (.bool (eqT x y)) ∧ Below w.heap.size w w' := by
  obtain ⟨V, hV⟩ : ∃ V, eqT x y = V := ⟨_, rfl⟩
  rw [hV]
  obtain ⟨a1, a2, rfl⟩ := h.1.is
  obtain ⟨a3, a4, rfl⟩ := h.2.1.is
  obtain ⟨a5, a6, rfl⟩ := h.2.2.1.is
  obtain ⟨a7, a8, rfl⟩ := h.2.2.2.1.is
  obtain ⟨b1, b2, rfl⟩ := g.1.is
  obtain ⟨b3, b4, rfl⟩ := g.2.1.is
  obtain ⟨b5, b6, rfl⟩ := g.2.2.1.is
  obtain ⟨b7, b8, rfl⟩ := g.2.2.2.1.is
  have hal := ((Below.refl w.heap.size w).alloc (Nat.le_refl _) (.cells #[.int .u8 x.status, .int .i64 x.steps, .slice a1 x.outs.length a2, .slice a3 x.rels.length a4, .slice a5 x.brs.length a6, .slice a7 x.reads.length a8] 49)).alloc (by simp) (.cells #[.int .u8 y.status, .int .i64 y.steps, .slice b1 y.outs.length b2, .slice b3 y.rels.length b4, .slice b5 y.brs.length b6, .slice b7 y.reads.length b8] 49)
  have hbb := heap2_of (w := w) (A := .cells #[.int .u8 x.status, .int .i64 x.steps, .slice a1 x.outs.length a2, .slice a3 x.rels.length a4, .slice a5 x.brs.length a6, .slice a7 x.reads.length a8] 49) (B := .cells #[.int .u8 y.status, .int .i64 y.steps, .slice b1 y.outs.length b2, .slice b3 y.rels.length b4, .slice b5 y.brs.length b6, .slice b7 y.reads.length b8] 49) (Below.refl _ _)
  have HX := Lib.hid (h.keep hal)
  have HY := Lib.hid (g.keep hal)
  have G0 := Lib.hid hbb.1
  have G1 := Lib.hid hbb.2.1
  have HB := Lib.hid hal
  clear hal hbb h g
  go_enter Tryd.func19, Tryd.ntmps19
  go_upto_region 1 with fail
  generalize ((w.alloc (.cells #[.int .u8 x.status, .int .i64 x.steps, .slice a1 x.outs.length a2, .slice a3 x.rels.length a4, .slice a5 x.brs.length a6, .slice a7 x.reads.length a8] 49)).alloc (.cells #[.int .u8 y.status, .int .i64 y.steps, .slice b1 y.outs.length b2, .slice b3 y.rels.length b4, .slice b5 y.brs.length b6, .slice b7 y.reads.length b8] 49)) = W at *
  have i0 := row_of G0.out 0 (.int .u8 x.status) rfl
  have j0 := row_of G1.out 0 (.int .u8 y.status) rfl
  have i1 := row_of G0.out 1 (.int .i64 x.steps) rfl
  have j1 := row_of G1.out 1 (.int .i64 y.steps) rfl
  have i2 := row_of G0.out 2 (.slice a1 x.outs.length a2) rfl
  have j2 := row_of G1.out 2 (.slice b1 y.outs.length b2) rfl
  have hsW : w.heap.size + 1 < W.heap.size := (Array.getElem?_eq_some_iff.1 G1.out).1
  have HC0 := Lib.hid (fun (w' : World) (hb : Below W.heap.size W w') => equalEv _ _ _ _ w' (HX.out.1.keep hb) (HY.out.1.keep hb))
  have HC1 := Lib.hid (fun (w' : World) (hb : Below W.heap.size W w') => equalEv _ _ _ _ w' (HX.out.2.1.keep hb) (HY.out.2.1.keep hb))
  have HC2 := Lib.hid (fun (w' : World) (hb : Below W.heap.size W w') => equalBool _ _ _ _ w' (HX.out.2.2.1.keep hb) (HY.out.2.2.1.keep hb))
  have HC3 := Lib.hid (fun (w' : World) (hb : Below W.heap.size W w') => equalInt _ _ _ _ w' (HX.out.2.2.2.1.keep hb) (HY.out.2.2.2.1.keep hb))
  have HK : Hid (∀ w' : World, Below W.heap.size W w' → w'.heap[w.heap.size]? = W.heap[w.heap.size]? ∧ w'.heap[w.heap.size + 1]? = W.heap[w.heap.size + 1]?) := fun w' hb => ⟨hb.block _ (by omega), hb.block _ (by omega)⟩
  cases q0 : (x.status == y.status)
  · obtain rfl : V = false := by rw [← hV]; simp [eqT, q0]
    clear hV
    go_wp2_with (first | (go_at_call 47; with_reducible refine (HC0.out _ (Below.refl _ _)).mono ?_; rintro e w1 ⟨rfl, hw⟩; have B1 := Lib.hid (hw); clear hw; have i3 := row_of ((HK.out _ B1.out).1.trans G0.out) 3 (.slice a3 x.rels.length a4) rfl; have j3 := row_of ((HK.out _ B1.out).2.trans G1.out) 3 (.slice b3 y.rels.length b4) rfl) | (go_at_call 47; with_reducible refine (HC1.out _ B1.out).mono ?_; rintro e w2 ⟨rfl, hw⟩; have B2 := Lib.hid (bcomp B1.out hw); clear hw; have i4 := row_of ((HK.out _ B2.out).1.trans G0.out) 4 (.slice a5 x.brs.length a6) rfl; have j4 := row_of ((HK.out _ B2.out).2.trans G1.out) 4 (.slice b5 y.brs.length b6) rfl) | (go_at_call 48; with_reducible refine (HC2.out _ B2.out).mono ?_; rintro e w3 ⟨rfl, hw⟩; have B3 := Lib.hid (bcomp B2.out hw); clear hw; have i5 := row_of ((HK.out _ B3.out).1.trans G0.out) 5 (.slice a7 x.reads.length a8) rfl; have j5 := row_of ((HK.out _ B3.out).2.trans G1.out) 5 (.slice b7 y.reads.length b8) rfl) | (go_at_call 39; with_reducible refine (HC3.out _ B3.out).mono ?_; rintro e w4 ⟨rfl, hw⟩; have B4 := Lib.hid (bcomp B3.out hw); clear hw))
    go_ret
    exact ⟨rfl, HB.out⟩
  cases q1 : (x.steps == y.steps)
  · obtain rfl : V = false := by rw [← hV]; simp [eqT, q0, q1]
    clear hV
    go_wp2_with (first | (go_at_call 47; with_reducible refine (HC0.out _ (Below.refl _ _)).mono ?_; rintro e w1 ⟨rfl, hw⟩; have B1 := Lib.hid (hw); clear hw; have i3 := row_of ((HK.out _ B1.out).1.trans G0.out) 3 (.slice a3 x.rels.length a4) rfl; have j3 := row_of ((HK.out _ B1.out).2.trans G1.out) 3 (.slice b3 y.rels.length b4) rfl) | (go_at_call 47; with_reducible refine (HC1.out _ B1.out).mono ?_; rintro e w2 ⟨rfl, hw⟩; have B2 := Lib.hid (bcomp B1.out hw); clear hw; have i4 := row_of ((HK.out _ B2.out).1.trans G0.out) 4 (.slice a5 x.brs.length a6) rfl; have j4 := row_of ((HK.out _ B2.out).2.trans G1.out) 4 (.slice b5 y.brs.length b6) rfl) | (go_at_call 48; with_reducible refine (HC2.out _ B2.out).mono ?_; rintro e w3 ⟨rfl, hw⟩; have B3 := Lib.hid (bcomp B2.out hw); clear hw; have i5 := row_of ((HK.out _ B3.out).1.trans G0.out) 5 (.slice a7 x.reads.length a8) rfl; have j5 := row_of ((HK.out _ B3.out).2.trans G1.out) 5 (.slice b7 y.reads.length b8) rfl) | (go_at_call 39; with_reducible refine (HC3.out _ B3.out).mono ?_; rintro e w4 ⟨rfl, hw⟩; have B4 := Lib.hid (bcomp B3.out hw); clear hw))
    go_ret
    exact ⟨rfl, HB.out⟩
  cases q2 : (eqL eqEv x.outs y.outs)
  · obtain rfl : V = false := by rw [← hV]; simp [eqT, q0, q1, q2]
    rw [q2] at HC0
    clear hV
    clear q2
    go_wp2_with (first | (go_at_call 47; with_reducible refine (HC0.out _ (Below.refl _ _)).mono ?_; rintro e w1 ⟨rfl, hw⟩; have B1 := Lib.hid (hw); clear hw; have i3 := row_of ((HK.out _ B1.out).1.trans G0.out) 3 (.slice a3 x.rels.length a4) rfl; have j3 := row_of ((HK.out _ B1.out).2.trans G1.out) 3 (.slice b3 y.rels.length b4) rfl) | (go_at_call 47; with_reducible refine (HC1.out _ B1.out).mono ?_; rintro e w2 ⟨rfl, hw⟩; have B2 := Lib.hid (bcomp B1.out hw); clear hw; have i4 := row_of ((HK.out _ B2.out).1.trans G0.out) 4 (.slice a5 x.brs.length a6) rfl; have j4 := row_of ((HK.out _ B2.out).2.trans G1.out) 4 (.slice b5 y.brs.length b6) rfl) | (go_at_call 48; with_reducible refine (HC2.out _ B2.out).mono ?_; rintro e w3 ⟨rfl, hw⟩; have B3 := Lib.hid (bcomp B2.out hw); clear hw; have i5 := row_of ((HK.out _ B3.out).1.trans G0.out) 5 (.slice a7 x.reads.length a8) rfl; have j5 := row_of ((HK.out _ B3.out).2.trans G1.out) 5 (.slice b7 y.reads.length b8) rfl) | (go_at_call 39; with_reducible refine (HC3.out _ B3.out).mono ?_; rintro e w4 ⟨rfl, hw⟩; have B4 := Lib.hid (bcomp B3.out hw); clear hw))
    go_ret
    exact ⟨rfl, bcomp HB.out B1.out⟩
  cases q3 : (eqL eqEv x.rels y.rels)
  · obtain rfl : V = false := by rw [← hV]; simp [eqT, q0, q1, q2, q3]
    rw [q2] at HC0
    rw [q3] at HC1
    clear hV
    clear q2
    clear q3
    go_wp2_with (first | (go_at_call 47; with_reducible refine (HC0.out _ (Below.refl _ _)).mono ?_; rintro e w1 ⟨rfl, hw⟩; have B1 := Lib.hid (hw); clear hw; have i3 := row_of ((HK.out _ B1.out).1.trans G0.out) 3 (.slice a3 x.rels.length a4) rfl; have j3 := row_of ((HK.out _ B1.out).2.trans G1.out) 3 (.slice b3 y.rels.length b4) rfl) | (go_at_call 47; with_reducible refine (HC1.out _ B1.out).mono ?_; rintro e w2 ⟨rfl, hw⟩; have B2 := Lib.hid (bcomp B1.out hw); clear hw; have i4 := row_of ((HK.out _ B2.out).1.trans G0.out) 4 (.slice a5 x.brs.length a6) rfl; have j4 := row_of ((HK.out _ B2.out).2.trans G1.out) 4 (.slice b5 y.brs.length b6) rfl) | (go_at_call 48; with_reducible refine (HC2.out _ B2.out).mono ?_; rintro e w3 ⟨rfl, hw⟩; have B3 := Lib.hid (bcomp B2.out hw); clear hw; have i5 := row_of ((HK.out _ B3.out).1.trans G0.out) 5 (.slice a7 x.reads.length a8) rfl; have j5 := row_of ((HK.out _ B3.out).2.trans G1.out) 5 (.slice b7 y.reads.length b8) rfl) | (go_at_call 39; with_reducible refine (HC3.out _ B3.out).mono ?_; rintro e w4 ⟨rfl, hw⟩; have B4 := Lib.hid (bcomp B3.out hw); clear hw))
    go_ret
    exact ⟨rfl, bcomp HB.out B2.out⟩
  cases q4 : (eqL eqBool x.brs y.brs)
  · obtain rfl : V = false := by rw [← hV]; simp [eqT, q0, q1, q2, q3, q4]
    rw [q2] at HC0
    rw [q3] at HC1
    rw [q4] at HC2
    clear hV
    clear q2
    clear q3
    clear q4
    go_wp2_with (first | (go_at_call 47; with_reducible refine (HC0.out _ (Below.refl _ _)).mono ?_; rintro e w1 ⟨rfl, hw⟩; have B1 := Lib.hid (hw); clear hw; have i3 := row_of ((HK.out _ B1.out).1.trans G0.out) 3 (.slice a3 x.rels.length a4) rfl; have j3 := row_of ((HK.out _ B1.out).2.trans G1.out) 3 (.slice b3 y.rels.length b4) rfl) | (go_at_call 47; with_reducible refine (HC1.out _ B1.out).mono ?_; rintro e w2 ⟨rfl, hw⟩; have B2 := Lib.hid (bcomp B1.out hw); clear hw; have i4 := row_of ((HK.out _ B2.out).1.trans G0.out) 4 (.slice a5 x.brs.length a6) rfl; have j4 := row_of ((HK.out _ B2.out).2.trans G1.out) 4 (.slice b5 y.brs.length b6) rfl) | (go_at_call 48; with_reducible refine (HC2.out _ B2.out).mono ?_; rintro e w3 ⟨rfl, hw⟩; have B3 := Lib.hid (bcomp B2.out hw); clear hw; have i5 := row_of ((HK.out _ B3.out).1.trans G0.out) 5 (.slice a7 x.reads.length a8) rfl; have j5 := row_of ((HK.out _ B3.out).2.trans G1.out) 5 (.slice b7 y.reads.length b8) rfl) | (go_at_call 39; with_reducible refine (HC3.out _ B3.out).mono ?_; rintro e w4 ⟨rfl, hw⟩; have B4 := Lib.hid (bcomp B3.out hw); clear hw))
    go_ret
    exact ⟨rfl, bcomp HB.out B3.out⟩
  cases q5 : (eqL eqInt x.reads y.reads)
  · obtain rfl : V = false := by rw [← hV]; simp [eqT, q0, q1, q2, q3, q4, q5]
    rw [q2] at HC0
    rw [q3] at HC1
    rw [q4] at HC2
    rw [q5] at HC3
    clear hV
    clear q2
    clear q3
    clear q4
    clear q5
    go_wp2_with (first | (go_at_call 47; with_reducible refine (HC0.out _ (Below.refl _ _)).mono ?_; rintro e w1 ⟨rfl, hw⟩; have B1 := Lib.hid (hw); clear hw; have i3 := row_of ((HK.out _ B1.out).1.trans G0.out) 3 (.slice a3 x.rels.length a4) rfl; have j3 := row_of ((HK.out _ B1.out).2.trans G1.out) 3 (.slice b3 y.rels.length b4) rfl) | (go_at_call 47; with_reducible refine (HC1.out _ B1.out).mono ?_; rintro e w2 ⟨rfl, hw⟩; have B2 := Lib.hid (bcomp B1.out hw); clear hw; have i4 := row_of ((HK.out _ B2.out).1.trans G0.out) 4 (.slice a5 x.brs.length a6) rfl; have j4 := row_of ((HK.out _ B2.out).2.trans G1.out) 4 (.slice b5 y.brs.length b6) rfl) | (go_at_call 48; with_reducible refine (HC2.out _ B2.out).mono ?_; rintro e w3 ⟨rfl, hw⟩; have B3 := Lib.hid (bcomp B2.out hw); clear hw; have i5 := row_of ((HK.out _ B3.out).1.trans G0.out) 5 (.slice a7 x.reads.length a8) rfl; have j5 := row_of ((HK.out _ B3.out).2.trans G1.out) 5 (.slice b7 y.reads.length b8) rfl) | (go_at_call 39; with_reducible refine (HC3.out _ B3.out).mono ?_; rintro e w4 ⟨rfl, hw⟩; have B4 := Lib.hid (bcomp B3.out hw); clear hw))
    go_ret
    exact ⟨rfl, bcomp HB.out B4.out⟩
  obtain rfl : V = true := by rw [← hV]; simp [eqT, q0, q1, q2, q3, q4, q5]
  rw [q2] at HC0
  rw [q3] at HC1
  rw [q4] at HC2
  rw [q5] at HC3
  clear hV q2 q3 q4 q5
  go_wp2_with (first | (go_at_call 47; with_reducible refine (HC0.out _ (Below.refl _ _)).mono ?_; rintro e w1 ⟨rfl, hw⟩; have B1 := Lib.hid (hw); clear hw; have i3 := row_of ((HK.out _ B1.out).1.trans G0.out) 3 (.slice a3 x.rels.length a4) rfl; have j3 := row_of ((HK.out _ B1.out).2.trans G1.out) 3 (.slice b3 y.rels.length b4) rfl) | (go_at_call 47; with_reducible refine (HC1.out _ B1.out).mono ?_; rintro e w2 ⟨rfl, hw⟩; have B2 := Lib.hid (bcomp B1.out hw); clear hw; have i4 := row_of ((HK.out _ B2.out).1.trans G0.out) 4 (.slice a5 x.brs.length a6) rfl; have j4 := row_of ((HK.out _ B2.out).2.trans G1.out) 4 (.slice b5 y.brs.length b6) rfl) | (go_at_call 48; with_reducible refine (HC2.out _ B2.out).mono ?_; rintro e w3 ⟨rfl, hw⟩; have B3 := Lib.hid (bcomp B2.out hw); clear hw; have i5 := row_of ((HK.out _ B3.out).1.trans G0.out) 5 (.slice a7 x.reads.length a8) rfl; have j5 := row_of ((HK.out _ B3.out).2.trans G1.out) 5 (.slice b7 y.reads.length b8) rfl) | (go_at_call 39; with_reducible refine (HC3.out _ B3.out).mono ?_; rintro e w4 ⟨rfl, hw⟩; have B4 := Lib.hid (bcomp B3.out hw); clear hw))
  go_ret
  exact ⟨rfl, bcomp HB.out B4.out⟩
set_option maxRecDepth 100000 in
set_option maxHeartbeats 1600000 in
theorem starts_any (x y : TraceD) (ov rv bv dv ov' rv' bv' dv' : Value) (w : World) (h : RdTrace none w x ov rv bv dv) (g : RdTrace none w y ov' rv' bv' dv') :
    Calls Tryd.prog 29 #[traceV x ov rv bv dv, traceV y ov' rv' bv' dv'] w fun e w' => e = .returned (.bool (startsT x y)) ∧ Below w.heap.size w w' := by
  obtain ⟨V, hV⟩ : ∃ V, startsT x y = V := ⟨_, rfl⟩
  rw [hV]
  obtain ⟨a1, a2, rfl⟩ := h.1.is
  obtain ⟨a3, a4, rfl⟩ := h.2.1.is
  obtain ⟨a5, a6, rfl⟩ := h.2.2.1.is
  obtain ⟨a7, a8, rfl⟩ := h.2.2.2.1.is
  obtain ⟨b1, b2, rfl⟩ := g.1.is
  obtain ⟨b3, b4, rfl⟩ := g.2.1.is
  obtain ⟨b5, b6, rfl⟩ := g.2.2.1.is
  obtain ⟨b7, b8, rfl⟩ := g.2.2.2.1.is
  have k1 := cap_of g.1
  have k2 := cap_of g.2.1
  have k3 := cap_of g.2.2.1
  have T1 := Lib.hid (fun hle => g.1.take x.outs.length hle)
  have T2 := Lib.hid (fun hle => g.2.1.take x.rels.length hle)
  have T3 := Lib.hid (fun hle => g.2.2.1.take x.brs.length hle)
  have hal := ((Below.refl w.heap.size w).alloc (Nat.le_refl _) (.cells #[.int .u8 x.status, .int .i64 x.steps, .slice a1 x.outs.length a2, .slice a3 x.rels.length a4, .slice a5 x.brs.length a6, .slice a7 x.reads.length a8] 49)).alloc (by simp) (.cells #[.int .u8 y.status, .int .i64 y.steps, .slice b1 y.outs.length b2, .slice b3 y.rels.length b4, .slice b5 y.brs.length b6, .slice b7 y.reads.length b8] 49)
  have hbb := heap2_of (w := w) (A := .cells #[.int .u8 x.status, .int .i64 x.steps, .slice a1 x.outs.length a2, .slice a3 x.rels.length a4, .slice a5 x.brs.length a6, .slice a7 x.reads.length a8] 49) (B := .cells #[.int .u8 y.status, .int .i64 y.steps, .slice b1 y.outs.length b2, .slice b3 y.rels.length b4, .slice b5 y.brs.length b6, .slice b7 y.reads.length b8] 49) (Below.refl _ _)
  have HX := Lib.hid (h.keep hal)
  have HY := Lib.hid (g.keep hal)
  have G0 := Lib.hid hbb.1
  have G1 := Lib.hid hbb.2.1
  have HB := Lib.hid hal
  have T1' := Lib.hid (fun hle => (T1.out hle).keep hal)
  have T2' := Lib.hid (fun hle => (T2.out hle).keep hal)
  have T3' := Lib.hid (fun hle => (T3.out hle).keep hal)
  clear hal hbb h g T1 T2 T3
  go_enter Tryd.func29, Tryd.ntmps29
  go_upto_region 1 with fail
  simp only [List.append_eq, List.cons_append, List.nil_append]
  generalize ((w.alloc (.cells #[.int .u8 x.status, .int .i64 x.steps, .slice a1 x.outs.length a2, .slice a3 x.rels.length a4, .slice a5 x.brs.length a6, .slice a7 x.reads.length a8] 49)).alloc (.cells #[.int .u8 y.status, .int .i64 y.steps, .slice b1 y.outs.length b2, .slice b3 y.rels.length b4, .slice b5 y.brs.length b6, .slice b7 y.reads.length b8] 49)) = W at *
  have l0 := ext_cell (row_of G0.out 1 (.int .i64 x.steps) rfl)
  have m0 := ext_cell (row_of G1.out 1 (.int .i64 y.steps) rfl)
  have l1 := ext_cell (row_of G0.out 2 (.slice a1 x.outs.length a2) rfl)
  have m1 := ext_cell (row_of G1.out 2 (.slice b1 y.outs.length b2) rfl)
  have HC0 := Lib.hid (fun (z : World) (hle : x.outs.length ≤ y.outs.length) => equalEv _ _ _ _ (ext W z) (HX.out.1.keep (ext_below W z)) ((T1'.out hle).keep (ext_below W z)))
  have l2 := ext_cell (row_of G0.out 3 (.slice a3 x.rels.length a4) rfl)
  have m2 := ext_cell (row_of G1.out 3 (.slice b3 y.rels.length b4) rfl)
  have HC1 := Lib.hid (fun (z : World) (hle : x.rels.length ≤ y.rels.length) => equalEv _ _ _ _ (ext W z) (HX.out.2.1.keep (ext_below W z)) ((T2'.out hle).keep (ext_below W z)))
  have l3 := ext_cell (row_of G0.out 4 (.slice a5 x.brs.length a6) rfl)
  have m3 := ext_cell (row_of G1.out 4 (.slice b5 y.brs.length b6) rfl)
  have HC2 := Lib.hid (fun (z : World) (hle : x.brs.length ≤ y.brs.length) => equalBool _ _ _ _ (ext W z) (HX.out.2.2.1.keep (ext_below W z)) ((T3'.out hle).keep (ext_below W z)))
  by_cases s9 : x.steps ≤ y.steps
  rotate_left
  · obtain rfl : V = false := by rw [← hV]; simp [startsT, s9]
    clear hV
    (refine wp_region_calm (by kernel_rfl) (by kernel_rfl) ?_; (repeat (go_big_quiet_step ((first | (go_at_call 47; with_reducible exact calls_calm (HC0.out _ s0)) | (go_at_call 47; with_reducible exact calls_calm (HC1.out _ s1)) | (go_at_call 48; with_reducible exact calls_calm (HC2.out _ s2)))))); refine wpQuiet_nil ?_; intro wc hwc)
    go_wp2
    go_ret
    exact ⟨rfl, bcomp HB.out hwc⟩
  by_cases s0 : x.outs.length ≤ y.outs.length
  rotate_left
  · obtain rfl : V = false := by rw [← hV]; simp [startsT, s9, s0]
    clear hV 
    (refine wp_region_calm (by kernel_rfl) (by kernel_rfl) ?_; (repeat (go_big_quiet_step ((first | (go_at_call 47; with_reducible exact calls_calm (HC0.out _ s0)) | (go_at_call 47; with_reducible exact calls_calm (HC1.out _ s1)) | (go_at_call 48; with_reducible exact calls_calm (HC2.out _ s2)))))); refine wpQuiet_nil ?_; intro wc hwc)
    go_wp2
    go_ret
    exact ⟨rfl, bcomp HB.out hwc⟩
  cases q0 : (eqL eqEv x.outs (y.outs.take x.outs.length))
  · obtain rfl : V = false := by rw [← hV]; simp [startsT, s9, s0, q0]
    rw [q0] at HC0
    clear hV q0
    (refine wp_region_calm (by kernel_rfl) (by kernel_rfl) ?_; (repeat (go_big_quiet_step ((first | (go_at_call 47; with_reducible exact calls_calm (HC0.out _ s0)) | (go_at_call 47; with_reducible exact calls_calm (HC1.out _ s1)) | (go_at_call 48; with_reducible exact calls_calm (HC2.out _ s2)))))); refine wpQuiet_nil ?_; intro wc hwc)
    go_wp2
    go_ret
    exact ⟨rfl, bcomp HB.out hwc⟩
  by_cases s1 : x.rels.length ≤ y.rels.length
  rotate_left
  · obtain rfl : V = false := by rw [← hV]; simp [startsT, s9, s0, q0, s1]
    rw [q0] at HC0
    clear hV q0
    (refine wp_region_calm (by kernel_rfl) (by kernel_rfl) ?_; (repeat (go_big_quiet_step ((first | (go_at_call 47; with_reducible exact calls_calm (HC0.out _ s0)) | (go_at_call 47; with_reducible exact calls_calm (HC1.out _ s1)) | (go_at_call 48; with_reducible exact calls_calm (HC2.out _ s2)))))); refine wpQuiet_nil ?_; intro wc hwc)
    go_wp2
    go_ret
    exact ⟨rfl, bcomp HB.out hwc⟩
  cases q1 : (eqL eqEv x.rels (y.rels.take x.rels.length))
  · obtain rfl : V = false := by rw [← hV]; simp [startsT, s9, s0, q0, s1, q1]
    rw [q0] at HC0
    rw [q1] at HC1
    clear hV q0 q1
    (refine wp_region_calm (by kernel_rfl) (by kernel_rfl) ?_; (repeat (go_big_quiet_step ((first | (go_at_call 47; with_reducible exact calls_calm (HC0.out _ s0)) | (go_at_call 47; with_reducible exact calls_calm (HC1.out _ s1)) | (go_at_call 48; with_reducible exact calls_calm (HC2.out _ s2)))))); refine wpQuiet_nil ?_; intro wc hwc)
    go_wp2
    go_ret
    exact ⟨rfl, bcomp HB.out hwc⟩
  by_cases s2 : x.brs.length ≤ y.brs.length
  rotate_left
  · obtain rfl : V = false := by rw [← hV]; simp [startsT, s9, s0, q0, s1, q1, s2]
    rw [q0] at HC0
    rw [q1] at HC1
    clear hV q0 q1
    (refine wp_region_calm (by kernel_rfl) (by kernel_rfl) ?_; (repeat (go_big_quiet_step ((first | (go_at_call 47; with_reducible exact calls_calm (HC0.out _ s0)) | (go_at_call 47; with_reducible exact calls_calm (HC1.out _ s1)) | (go_at_call 48; with_reducible exact calls_calm (HC2.out _ s2)))))); refine wpQuiet_nil ?_; intro wc hwc)
    go_wp2
    go_ret
    exact ⟨rfl, bcomp HB.out hwc⟩
  cases q2 : (eqL eqBool x.brs (y.brs.take x.brs.length))
  · obtain rfl : V = false := by rw [← hV]; simp [startsT, s9, s0, q0, s1, q1, s2, q2]
    rw [q0] at HC0
    rw [q1] at HC1
    rw [q2] at HC2
    clear hV q0 q1 q2
    (refine wp_region_calm (by kernel_rfl) (by kernel_rfl) ?_; (repeat (go_big_quiet_step ((first | (go_at_call 47; with_reducible exact calls_calm (HC0.out _ s0)) | (go_at_call 47; with_reducible exact calls_calm (HC1.out _ s1)) | (go_at_call 48; with_reducible exact calls_calm (HC2.out _ s2)))))); refine wpQuiet_nil ?_; intro wc hwc)
    go_wp2
    go_ret
    exact ⟨rfl, bcomp HB.out hwc⟩
  obtain rfl : V = true := by rw [← hV]; simp [startsT, s9, s0, q0, s1, q1, s2, q2]
  rw [q0] at HC0
  rw [q1] at HC1
  rw [q2] at HC2
  clear hV q0 q1 q2
  (refine wp_region_calm (by kernel_rfl) (by kernel_rfl) ?_; (repeat (go_big_quiet_step ((first | (go_at_call 47; with_reducible exact calls_calm (HC0.out _ s0)) | (go_at_call 47; with_reducible exact calls_calm (HC1.out _ s1)) | (go_at_call 48; with_reducible exact calls_calm (HC2.out _ s2)))))); refine wpQuiet_nil ?_; intro wc hwc)
  go_wp2
  go_ret
  exact ⟨rfl, bcomp HB.out hwc⟩
open Go.ChangeShapes Go.WideShapes Go.ChangeAt Go.RowKit
/-- A block reads as the row of its cells. -/
theorem row_rd {α : Type} (K : Kind α) {w : World} {g : Nat} {l : List α} {cs : Array Value} (h : w.heap[g]? = some (.cells cs K.T (0, 0))) (hc : cs = (l.flatMap K.cells).toArray) (hl : l.length * K.bytes ≤ 140737488351232) (hs : ∀ s ∈ l, K.ok s) : RdRow K none w (.slice (some ⟨g, 0, none⟩) l.length l.length) l := by
  subst hc
  refine ⟨_, _, rfl, ⟨hl, Nat.le_refl _⟩, fun i x hx => ⟨g, 0, rfl, Free.none _ _ _, fun j u hj => ?_, hs x (List.mem_of_getElem? hx)⟩⟩
  have hjl : j < K.sz := by rw [← K.len x]; exact (List.getElem?_eq_some_iff.1 hj).1
  refine row_of h _ u ?_
  rw [List.getElem?_toArray, Nat.zero_add, flat_get K.cells K.sz K.len l i j x hx hjl]
  exact hj
def wide2 (f : FlatD) : FlatD := { f with width := 2 }
set_option maxRecDepth 100000 in
set_option maxHeartbeats 1600000 in
theorem runs_true (f : FlatD) (cv sv av kv : Value) (t : TraceD) (ov rv bv dv iv : Value) (L : List (List Int)) (steps : Int) (w : World) (hF : RdFlat none w f cv sv av kv) (hT : RdTrace none w t ov rv bv dv) (hI : RdLists none w iv L) (hL : Laid w) (hst : InI64 steps) (hn : L.length ≤ 1000000)
    (he : errRun (wide2 f) L.length steps = 0) (hq : eqT (runT (wide2 f) L steps) t = true) :
    Calls Tryd.prog 43 #[flatV f cv sv av kv, .int .i64 steps, traceV t ov rv bv dv, iv] w fun e w' => e = .returned (.bool true) ∧ Below w.heap.size w w' := by
  obtain ⟨ca, cc, rfl⟩ := hF.1.is
  obtain ⟨sa, sc, rfl⟩ := hF.2.1.is
  obtain ⟨aa, ac, rfl⟩ := hF.2.2.1.is
  obtain ⟨ka, kc, rfl⟩ := hF.2.2.2.1.is
  obtain ⟨b1, b2, rfl⟩ := hT.1.is
  obtain ⟨b3, b4, rfl⟩ := hT.2.1.is
  obtain ⟨b5, b6, rfl⟩ := hT.2.2.1.is
  obtain ⟨b7, b8, rfl⟩ := hT.2.2.2.1.is
  obtain ⟨ia, ic, rfl⟩ := hI.is
  have hal := ((Below.refl w.heap.size w).alloc (Nat.le_refl _) (.cells #[.int .i64 f.width, .int .i64 f.regs, .slice ca f.chans.length cc, .slice sa f.sites.length sc, .slice aa f.arrays.length ac, .slice ka f.code.length kc] 26)).alloc (by simp) (.cells #[.int .u8 t.status, .int .i64 t.steps, .slice b1 t.outs.length b2, .slice b3 t.rels.length b4, .slice b5 t.brs.length b6, .slice b7 t.reads.length b8] 49)
  have hbb := heap2_of (w := w) (A := (.cells #[.int .i64 f.width, .int .i64 f.regs, .slice ca f.chans.length cc, .slice sa f.sites.length sc, .slice aa f.arrays.length ac, .slice ka f.code.length kc] 26)) (B := (.cells #[.int .u8 t.status, .int .i64 t.steps, .slice b1 t.outs.length b2, .slice b3 t.rels.length b4, .slice b5 t.brs.length b6, .slice b7 t.reads.length b8] 49)) (Below.refl _ _)
  have hW2 : Hid (RdFlat none w (wide2 f) (.slice ca f.chans.length cc) (.slice sa f.sites.length sc) (.slice aa f.arrays.length ac) (.slice ka f.code.length kc)) := ⟨hF.1, hF.2.1, hF.2.2.1, hF.2.2.2.1, (show InI64 2 from ⟨by decide, by decide⟩), hF.2.2.2.2.2⟩
  have HT := Lib.hid hT
  have HI := Lib.hid hI
  have HL := Lib.hid hL
  have HST := Lib.hid hst
  have HE := Lib.hid he
  have HQ := Lib.hid hq
  have G0 := Lib.hid hbb.1
  have G1 := Lib.hid hbb.2.1
  have HB := Lib.hid hal
  clear hF hT hI hL hst he hq hal hbb
  go_enter Tryd.func43, Tryd.ntmps43
  go_upto_region 1 with fail
  generalize ((w.alloc (.cells #[.int .i64 f.width, .int .i64 f.regs, .slice ca f.chans.length cc, .slice sa f.sites.length sc, .slice aa f.arrays.length ac, .slice ka f.code.length kc] 26)).alloc (.cells #[.int .u8 t.status, .int .i64 t.steps, .slice b1 t.outs.length b2, .slice b3 t.rels.length b4, .slice b5 t.brs.length b6, .slice b7 t.reads.length b8] 49)) = W at *
  have hsW : w.heap.size + 1 < W.heap.size := (Array.getElem?_eq_some_iff.1 G1.out).1
  have x0 := row_of G0.out 0 (.int .i64 f.width) rfl
  have f0 := frozen_of_row W w.heap.size 0 _ _ G0.out
  have G2 : Hid ((W.setCell ⟨w.heap.size, 0, none⟩ (.int .i64 2)).heap[w.heap.size]? = some (.cells #[.int .i64 2, .int .i64 f.regs, .slice ca f.chans.length cc, .slice sa f.sites.length sc, .slice aa f.arrays.length ac, .slice ka f.code.length kc] 26 (0, 0))) := by
    show _ = _
    rw [heap_setCell_same _ _ _ _ _ _ G0.out]; rfl
  have G3 : Hid ((W.setCell ⟨w.heap.size, 0, none⟩ (.int .i64 2)).heap[w.heap.size + 1]? = _) := (heap_setCell_other _ _ _ _ (by simp)).trans G1.out
  have HB2 : Hid (Below w.heap.size w (W.setCell ⟨w.heap.size, 0, none⟩ (.int .i64 2))) := HB.out.setCell (by simp) _
  have hs2 : w.heap.size + 1 < (W.setCell ⟨w.heap.size, 0, none⟩ (.int .i64 2)).heap.size := by simpa using hsW
  go_upto_region 2 with fail
  clear x0 f0 G0 G1 HB hsW
  generalize W.setCell ⟨w.heap.size, 0, none⟩ (.int .i64 2) = W2 at *
  have y2 := row_of G2.out 2 (.slice ca f.chans.length cc) rfl
  have y3 := row_of G2.out 3 (.slice sa f.sites.length sc) rfl
  have y4 := row_of G2.out 4 (.slice aa f.arrays.length ac) rfl
  have y5 := row_of G2.out 5 (.slice ka f.code.length kc) rfl
  have y0 := row_of G2.out 0 (.int .i64 2) rfl
  have y1 := row_of G2.out 1 (.int .i64 f.regs) rfl
  have HC : Hid (Calls Tryd.prog 25 #[.agg #[.int .i64 2, .int .i64 f.regs, .slice ca f.chans.length cc, .slice sa f.sites.length sc, .slice aa f.arrays.length ac, .slice ka f.code.length kc], .int .i64 steps, .slice ia L.length ic] W2 fun e w' => ∃ a1 a2 a3 a4 a5 a6 a7 a8, e = .returned (.tuple #[.agg #[.int .u8 (runT (wide2 f) L steps).status, .int .i64 (runT (wide2 f) L steps).steps, .slice a1 (runT (wide2 f) L steps).outs.length a2, .slice a3 (runT (wide2 f) L steps).rels.length a4, .slice a5 (runT (wide2 f) L steps).brs.length a6, .slice a7 (runT (wide2 f) L steps).reads.length a8], .int .i64 0]) ∧ RdTrace none w' (runT (wide2 f) L steps) (.slice a1 (runT (wide2 f) L steps).outs.length a2) (.slice a3 (runT (wide2 f) L steps).rels.length a4) (.slice a5 (runT (wide2 f) L steps).brs.length a6) (.slice a7 (runT (wide2 f) L steps).reads.length a8) ∧ Below W2.heap.size W2 w') := by
    have := machRun (wide2 f) _ _ _ _ _ L steps W2 (hW2.out.keep HB2.out) (HI.out.keep HB2.out) (HL.out.keep HB2.out) HST.out hn
    rw [HE.out] at this
    refine this.mono ?_
    rintro e w' ⟨v1, v2, v3, v4, rfl, hr, hb⟩
    obtain ⟨a1, a2, rfl⟩ := hr.1.is
    obtain ⟨a3, a4, rfl⟩ := hr.2.1.is
    obtain ⟨a5, a6, rfl⟩ := hr.2.2.1.is
    obtain ⟨a7, a8, rfl⟩ := hr.2.2.2.1.is
    exact ⟨a1, a2, a3, a4, a5, a6, a7, a8, rfl, hr.forget, hb⟩
  generalize runT (wide2 f) L steps = x at *
  go_upto_region 3 with (first | (go_at_call 25; refine HC.out.mono ?_; rintro e w3 ⟨a1, a2, a3, a4, a5, a6, a7, a8, rfl, hr3, hb3⟩; have HR3 := Lib.hid hr3; have HB3 := Lib.hid hb3; have HZ := Lib.hid ((hb3.block _ hs2).trans G3.out); clear hr3 hb3 y0 y1 y2 y3 y4 y5; have hz3 : w.heap.size + 1 < w3.heap.size := (Array.getElem?_eq_some_iff.1 HZ.out).1; have HN := Lib.hid (heap_alloc_new w3 (.cells #[.int .u8 0, .int .i64 0, .slice none 0 0, .slice none 0 0, .slice none 0 0, .slice none 0 0] 49))) | (refine wpList_store_row rfl 49 (.tmp 9) (.tmp 17) rfl w3.heap.size #[.int .u8 x.status, .int .i64 x.steps, .slice a1 x.outs.length a2, .slice a3 x.rels.length a4, .slice a5 x.brs.length a6, .slice a7 x.reads.length a8] rfl rfl 49 #[.int .u8 0, .int .i64 0, .slice none 0 0, .slice none 0 0, .slice none 0 0, .slice none 0 0] ?hs (by as_aux_lemma => kernel_rfl) (by as_aux_lemma => kernel_rfl) (by as_aux_lemma => kernel_rfl) ?_; exact HN.out))
  have G5 : Hid (((w3.alloc (.cells #[.int .u8 0, .int .i64 0, .slice none 0 0, .slice none 0 0, .slice none 0 0, .slice none 0 0] 49)).setRow w3.heap.size #[.int .u8 x.status, .int .i64 x.steps, .slice a1 x.outs.length a2, .slice a3 x.rels.length a4, .slice a5 x.brs.length a6, .slice a7 x.reads.length a8]).heap[w3.heap.size]? = some (.cells #[.int .u8 x.status, .int .i64 x.steps, .slice a1 x.outs.length a2, .slice a3 x.rels.length a4, .slice a5 x.brs.length a6, .slice a7 x.reads.length a8] 49 (0, 0))) := setRow_heap _ _ _ _ _ _ HN.out
  have hbn : Below w3.heap.size w3 ((w3.alloc (.cells #[.int .u8 0, .int .i64 0, .slice none 0 0, .slice none 0 0, .slice none 0 0, .slice none 0 0] 49)).setRow w3.heap.size #[.int .u8 x.status, .int .i64 x.steps, .slice a1 x.outs.length a2, .slice a3 x.rels.length a4, .slice a5 x.brs.length a6, .slice a7 x.reads.length a8]) := below_row ((Below.refl w3.heap.size w3).alloc (Nat.le_refl _) _) (Nat.le_refl _) _
  have Z5 := Lib.hid ((hbn.block _ hz3).trans HZ.out)
  have R5 := Lib.hid (HR3.out.keep hbn)
  have B5 := Lib.hid (bcomp HB2.out (bcomp HB3.out hbn))
  have T5 := Lib.hid (HT.out.keep B5.out)
  clear hbn HN HZ HB3 HR3
  generalize ((w3.alloc (.cells #[.int .u8 0, .int .i64 0, .slice none 0 0, .slice none 0 0, .slice none 0 0, .slice none 0 0] 49)).setRow w3.heap.size #[.int .u8 x.status, .int .i64 x.steps, .slice a1 x.outs.length a2, .slice a3 x.rels.length a4, .slice a5 x.brs.length a6, .slice a7 x.reads.length a8]) = W5 at *
  have p0 := row_of G5.out 0 (.int .u8 x.status) rfl
  have p1 := row_of G5.out 1 (.int .i64 x.steps) rfl
  have p2 := row_of G5.out 2 (.slice a1 x.outs.length a2) rfl
  have p3 := row_of G5.out 3 (.slice a3 x.rels.length a4) rfl
  have p4 := row_of G5.out 4 (.slice a5 x.brs.length a6) rfl
  have p5 := row_of G5.out 5 (.slice a7 x.reads.length a8) rfl
  have q0 := row_of Z5.out 0 (.int .u8 t.status) rfl
  have q1 := row_of Z5.out 1 (.int .i64 t.steps) rfl
  have q2 := row_of Z5.out 2 (.slice b1 t.outs.length b2) rfl
  have q3 := row_of Z5.out 3 (.slice b3 t.rels.length b4) rfl
  have q4 := row_of Z5.out 4 (.slice b5 t.brs.length b6) rfl
  have q5 := row_of Z5.out 5 (.slice b7 t.reads.length b8) rfl
  have HEQ := Lib.hid (equalTrace x t _ _ _ _ _ _ _ _ W5 R5.out T5.out)
  have hqq := HQ.out
  rw [hqq] at HEQ
  clear hqq
  go_wp2_with (go_at_call 19; refine HEQ.out.mono ?_; rintro e w6 ⟨rfl, hb6⟩)
  go_ret
  exact ⟨rfl, bcomp B5.out hb6⟩
end Go.Proofs.YthmdioldnnhidaaDoor
