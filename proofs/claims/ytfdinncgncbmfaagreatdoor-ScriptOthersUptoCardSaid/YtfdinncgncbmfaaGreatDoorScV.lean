/- The kit's comparison of policies, where both read as the same. Conditions: both read as the policy. -/
import Derived.Test.YtfdinncgncbmfaaGreatDoorScU
import Derived.Test.YtfdinncgncbmfaaGreatDoorKitE
import Derived.Test.YtfdinncgncbmfaaGreatDoorMix
import Derived.Deep.CutBlock
import Derived.Deep.CutRange
import Derived.Deep.RegionWith
set_option linter.unusedVariables false
set_option linter.unusedSimpArgs false
set_option linter.unnecessarySimpa false
namespace Go.Proofs.YtfdinncgncbmfaaGreatDoor
open Go.ChangeShapes Go.WideShapes Go.ChangeAt Go.RowKit
/-- A slice reads as a list of things of k cells each. -/
def RdZ {α : Type} (f : α → List Value) (k : Nat) (w : World) (v : Value) (l : List α) : Prop := ∃ a c, v = .slice a l.length c ∧ (l.length ≤ 1000000000 ∧ l.length ≤ c) ∧ ∀ i x, l[i]? = some x → ∃ b o, a = some ⟨b, o, none⟩ ∧ ∀ j u, (f x)[j]? = some u → w.cell? ⟨b, o + i * k + j, none⟩ = some u
theorem RdZ.keep {α : Type} {f : α → List Value} {k : Nat} {w w' : World} {v : Value} {l : List α} (h : RdZ f k w v l) (hb : Below w.heap.size w w') : RdZ f k w' v l := by
  obtain ⟨a, c, e, hl, hr⟩ := h
  exact ⟨a, c, e, hl, fun i x hi => by
    obtain ⟨b, o, ha, hc⟩ := hr i x hi
    exact ⟨b, o, ha, fun j u hj => cell_keep hb (hc j u hj)⟩⟩
theorem RdZ.own {α : Type} {f : α → List Value} {k : Nat} {e : TypeId} {w : World} {base : Nat} {v : Value} {l : List α} (hf : ∀ x, (f x).length = k) (h : w.ownsRow base e k v l.length (l.flatMap f)) (hl : l.length ≤ 1000000000) (hk : 0 < k) : RdZ f k w v l := by
  obtain ⟨a, c, rfl, _⟩ := own_read h
  refine ⟨a, c, rfl, ⟨hl, own_cap h⟩, fun i x hi => ?_⟩
  have hil := (List.getElem?_eq_some_iff.1 hi).1
  obtain ⟨g, gc, hge, -, hgc⟩ := own_at h (by rw [flat_length f k hf]; exact Nat.mul_pos (by omega) hk)
  simp only [Value.slice.injEq] at hge
  obtain ⟨rfl, -, -⟩ := hge
  refine ⟨g, 0, rfl, fun j u hj => ?_⟩
  have hjk : j < k := by have := (List.getElem?_eq_some_iff.1 hj).1; rw [hf] at this; exact this
  have := hgc (i * k + j) u (by rw [flat_get f k hf l i j x hi hjk]; exact hj)
  simpa [Nat.add_assoc] using this
def pairZ (x : Int × Int) : List Value := [.int .i64 x.1, .int .i64 x.2]
def bindC (x : BindZ) : List Value := [.string x.name, .int .i64 x.level]
theorem eqPairZ (a b c d : Int) (w : World) : (Op.equalIn 10000 74 (.agg #[.int .i64 a, .int .i64 b]) (.agg #[.int .i64 c, .int .i64 d])).run Tryz.prog w = .ok (a == c && b == d) w := by
  have u3 := Tryz.underlying3
  have a3 := Tryz.isAgg3
  have z3 := Tryz.sizeOf3
  rw [show (10000 : Nat) = 9999 + 1 from rfl, Op.equalIn]
  simp only [Sem.run_bind, run_underlying Tryz.underlying74, Result.andThen_ok]
  simp only [Std.Legacy.Range.forIn_eq_forIn_range', Std.Legacy.Range.size, Nat.sub_zero, Nat.add_sub_cancel, Nat.div_one, List.range'_succ, List.range'_zero, List.forIn_cons, List.forIn_nil]
  go_simp
  by_cases h1 : a = c <;> by_cases h2 : b = d <;> simp [h1, h2]
set_option maxRecDepth 100000 in
set_option maxHeartbeats 1600000 in
theorem pairsSame (v u : Value) (l : List (Int × Int)) (w : World) (h : RdZ pairZ 2 w v l) (g : RdZ pairZ 2 w u l) :
    Calls Tryz.prog 18 #[v, u] w fun e w' => e = .returned (.bool true) ∧ Below w.heap.size w w' := by
  obtain ⟨a, c, rfl, ⟨hl, -⟩, hr⟩ := h
  obtain ⟨b, d, rfl, -, hs⟩ := g
  have HR := Lib.hid hr
  have HS := Lib.hid hs
  obtain ⟨n, hn⟩ : ∃ n, l.length = n := ⟨_, rfl⟩
  rw [hn] at hl ⊢
  have HN := Lib.hid hn
  clear hr hs hn
  go_enter Tryz.func18, Tryz.ntmps18
  go_wp2_with fail
  go_loopw [5] (fun i wr => ∃ k : Nat, k ≤ n ∧ i = .int .i64 k ∧ Below w.heap.size w wr) (fun i _ => n - (intOf i).toNat)
  case atStart => exact ⟨0, Nat.zero_le _, rfl, Below.refl _ _⟩
  case round =>
    obtain ⟨k, hk, rfl, hb⟩ := hrel
    obtain ⟨w1, rfl⟩ : ∃ x : World, x = wr := ⟨_, rfl⟩
    have HB := Lib.hid hb
    by_cases hlt : k < n
    · have hlt1 : (k : Int) < (n : Int) := by omega
      obtain ⟨⟨x1, x2⟩, hx⟩ : ∃ x, l[k]? = some x := ⟨_, List.getElem?_eq_getElem (by have := HN.out; omega)⟩
      obtain ⟨ga, oa, rfl, hca⟩ := HR.out k _ hx
      obtain ⟨gb, ob, rfl, hcb⟩ := HS.out k _ hx
      have e0 := ext_cell (cell_keep hb (hca 0 _ rfl))
      have e1 := ext_cell (cell_keep hb (hca 1 _ rfl))
      have e2 := ext_cell (cell_keep hb (hcb 0 _ rfl))
      have e3 := ext_cell (cell_keep hb (hcb 1 _ rfl))
      simp only [Nat.add_zero] at e0 e2
      clear hb hca hcb hx
      have heq := fun z => eqPairZ x1 x2 x1 x2 z
      go_upto_region 6 with fail
      (refine wp_region_calm (by kernel_rfl) (by kernel_rfl) ?_; (repeat (go_big_quiet_step (fail))); refine wpQuiet_nil ?_; intro wc hwc)
      clear e0 e1 e2 e3
      go_wp2_with fail
      go_roundw
      case rel => exact ⟨k + 1, by omega, by go_num, HB.out.trans (hwc.mono HB.out.size)⟩
      case measure => simp [intOf]; omega
    · have hlt1 : ¬ (k : Int) < (n : Int) := by omega
      go_wp2_with fail
      go_ret
      exact ⟨rfl, hb⟩
set_option maxRecDepth 100000 in
set_option maxHeartbeats 1600000 in
theorem bindsSame (v u : Value) (l : List BindZ) (w : World) (h : RdZ bindC 2 w v l) (g : RdZ bindC 2 w u l) :
    Calls Tryz.prog 19 #[v, u] w fun e w' => e = .returned (.bool true) ∧ Below w.heap.size w w' := by
  obtain ⟨a, c, rfl, ⟨hl, -⟩, hr⟩ := h
  obtain ⟨b, d, rfl, -, hs⟩ := g
  have HR := Lib.hid hr
  have HS := Lib.hid hs
  obtain ⟨n, hn⟩ : ∃ n, l.length = n := ⟨_, rfl⟩
  rw [hn] at hl ⊢
  have HN := Lib.hid hn
  clear hr hs hn
  go_enter Tryz.func19, Tryz.ntmps19
  go_wp2_with fail
  go_loopw [5] (fun i wr => ∃ k : Nat, k ≤ n ∧ i = .int .i64 k ∧ Below w.heap.size w wr) (fun i _ => n - (intOf i).toNat)
  case atStart => exact ⟨0, Nat.zero_le _, rfl, Below.refl _ _⟩
  case round =>
    obtain ⟨k, hk, rfl, hb⟩ := hrel
    obtain ⟨w1, rfl⟩ : ∃ x : World, x = wr := ⟨_, rfl⟩
    have HB := Lib.hid hb
    by_cases hlt : k < n
    · have hlt1 : (k : Int) < (n : Int) := by omega
      obtain ⟨⟨x1, x2⟩, hx⟩ : ∃ x, l[k]? = some x := ⟨_, List.getElem?_eq_getElem (by have := HN.out; omega)⟩
      obtain ⟨ga, oa, rfl, hca⟩ := HR.out k _ hx
      obtain ⟨gb, ob, rfl, hcb⟩ := HS.out k _ hx
      have e0 := ext_cell (cell_keep hb (hca 0 _ rfl))
      have e1 := ext_cell (cell_keep hb (hca 1 _ rfl))
      have e2 := ext_cell (cell_keep hb (hcb 0 _ rfl))
      have e3 := ext_cell (cell_keep hb (hcb 1 _ rfl))
      simp only [Nat.add_zero] at e0 e2
      clear hb hca hcb hx
      go_upto_region 6 with fail
      (refine wp_region_calm (by kernel_rfl) (by kernel_rfl) ?_; (repeat (go_big_quiet_step (fail))); refine wpQuiet_nil ?_; intro wc hwc)
      clear e0 e1 e2 e3
      go_wp2_with fail
      go_roundw
      case rel => exact ⟨k + 1, by omega, by go_num, HB.out.trans (hwc.mono HB.out.size)⟩
      case measure => simp [intOf]; omega
    · have hlt1 : ¬ (k : Int) < (n : Int) := by omega
      go_wp2_with fail
      go_ret
      exact ⟨rfl, hb⟩
theorem heap_alloc2_oldZ (w : World) (A B : Obj) : ((w.alloc A).alloc B).heap[w.heap.size]? = some A := by
  have h := ((Below.refl (w.alloc A).heap.size (w.alloc A)).alloc (Nat.le_refl _) B).block w.heap.size (by simp)
  exact h.trans (heap_alloc_new w A)
theorem heap_alloc2_newZ (w : World) (A B : Obj) : ((w.alloc A).alloc B).heap[w.heap.size + 1]? = some B := by
  have h := heap_alloc_new (w.alloc A) B
  rwa [show (w.alloc A).heap.size = w.heap.size + 1 by simp] at h
/-- A policy's four slices read as its lists. -/
structure RdPolZ (w : World) (x : PolZ) (lv ov cv sv : Value) : Prop where
  lv : RdStrs none w lv x.levels
  ov : RdZ pairZ 2 w ov x.order
  cv : RdZ bindC 2 w cv x.chans
  sv : RdZ bindC 2 w sv x.sites
theorem RdPolZ.keep {w w' : World} {x : PolZ} {lv ov cv sv : Value} (h : RdPolZ w x lv ov cv sv) (hb : Below w.heap.size w w') : RdPolZ w' x lv ov cv sv := ⟨h.lv.keep hb, h.ov.keep hb, h.cv.keep hb, h.sv.keep hb⟩
abbrev polZV (x : PolZ) (lv ov cv sv : Value) : Value := .agg #[lv, ov, cv, sv, .bool x.sens, .int .i64 x.steps, .int .i64 x.paths, .int .i64 x.nodes, .int .i64 x.confs]
theorem eqS_self : ∀ l : List ByteArray, eqL eqS l l = true
  | [] => rfl
  | x :: r => by rw [eqL, eqS_self r]; simp [eqS]
set_option maxRecDepth 100000 in
set_option maxHeartbeats 3200000 in
theorem policySame (x : PolZ) (lv ov cv sv lu ou cu su : Value) (w : World) (h : RdPolZ w x lv ov cv sv) (g : RdPolZ w x lu ou cu su) :
    Calls Tryz.prog 7 #[polZV x lv ov cv sv, polZV x lu ou cu su] w fun e w' => e = .returned (.bool true) ∧ Below w.heap.size w w' := by
  obtain ⟨a1, c1, rfl, -, -⟩ := id h.lv
  obtain ⟨a2, c2, rfl, -, -⟩ := id h.ov
  obtain ⟨a3, c3, rfl, -, -⟩ := id h.cv
  obtain ⟨a4, c4, rfl, -, -⟩ := id h.sv
  obtain ⟨b1, d1, rfl, -, -⟩ := id g.lv
  obtain ⟨b2, d2, rfl, -, -⟩ := id g.ov
  obtain ⟨b3, d3, rfl, -, -⟩ := id g.cv
  obtain ⟨b4, d4, rfl, -, -⟩ := id g.sv
  have H := Lib.hid h
  have G := Lib.hid g
  clear h g
  obtain ⟨xl, xo, xc, xs, x4, x5, x6, x7, x8⟩ := x
  have hb0 : Hid (Below w.heap.size w ((w.alloc (.cells #[.slice a1 xl.length c1, .slice a2 xo.length c2, .slice a3 xc.length c3, .slice a4 xs.length c4, .bool x4, .int .i64 x5, .int .i64 x6, .int .i64 x7, .int .i64 x8] 34)).alloc (.cells #[.slice b1 xl.length d1, .slice b2 xo.length d2, .slice b3 xc.length d3, .slice b4 xs.length d4, .bool x4, .int .i64 x5, .int .i64 x6, .int .i64 x7, .int .i64 x8] 34))) := (((Below.refl _ _).alloc (Nat.le_refl _) _).alloc (by simp) _)
  have e0 := heap_alloc2_oldZ w (.cells #[.slice a1 xl.length c1, .slice a2 xo.length c2, .slice a3 xc.length c3, .slice a4 xs.length c4, .bool x4, .int .i64 x5, .int .i64 x6, .int .i64 x7, .int .i64 x8] 34) (.cells #[.slice b1 xl.length d1, .slice b2 xo.length d2, .slice b3 xc.length d3, .slice b4 xs.length d4, .bool x4, .int .i64 x5, .int .i64 x6, .int .i64 x7, .int .i64 x8] 34)
  have e1 := heap_alloc2_newZ w (.cells #[.slice a1 xl.length c1, .slice a2 xo.length c2, .slice a3 xc.length c3, .slice a4 xs.length c4, .bool x4, .int .i64 x5, .int .i64 x6, .int .i64 x7, .int .i64 x8] 34) (.cells #[.slice b1 xl.length d1, .slice b2 xo.length d2, .slice b3 xc.length d3, .slice b4 xs.length d4, .bool x4, .int .i64 x5, .int .i64 x6, .int .i64 x7, .int .i64 x8] 34)
  go_enter Tryz.func7, Tryz.ntmps7
  go_upto_region 1 with fail
  generalize (w.alloc (.cells #[.slice a1 xl.length c1, .slice a2 xo.length c2, .slice a3 xc.length c3, .slice a4 xs.length c4, .bool x4, .int .i64 x5, .int .i64 x6, .int .i64 x7, .int .i64 x8] 34)).alloc (.cells #[.slice b1 xl.length d1, .slice b2 xo.length d2, .slice b3 xc.length d3, .slice b4 xs.length d4, .bool x4, .int .i64 x5, .int .i64 x6, .int .i64 x7, .int .i64 x8] 34) = W at *
  have H0 := Lib.hid e0
  have H1 := Lib.hid e1
  have HS := equalStrs (.slice a1 xl.length c1) (.slice b1 xl.length d1) xl xl W (H.out.lv.keep hb0.out) (G.out.lv.keep hb0.out)
  rw [eqS_self] at HS
  have HS := Lib.hid HS
  have p0 := row_of H0.out 0 _ rfl
  have q0 := row_of H1.out 0 _ rfl
  clear e0 e1
  go_wp2_with (first | (go_at_call 17; refine HS.out.mono ?_; rintro e z1 ⟨rfl, k1⟩; have K1 := Lib.hid k1; have P2 := Lib.hid (pairsSame (.slice a2 xo.length c2) (.slice b2 xo.length d2) xo z1 ((H.out.ov.keep hb0.out).keep k1) ((G.out.ov.keep hb0.out).keep k1)); have hk0 := (K1.out.block _ (Array.getElem?_eq_some_iff.1 H0.out).1).trans H0.out; have hk1 := (K1.out.block _ (Array.getElem?_eq_some_iff.1 H1.out).1).trans H1.out; have p1 := row_of hk0 1 _ rfl; have q1 := row_of hk1 1 _ rfl; clear hk0 hk1; clear k1) | (go_at_call 18; refine P2.out.mono ?_; rintro e z2 ⟨rfl, k2⟩; have K2 := Lib.hid (bcomp K1.out k2); have P3 := Lib.hid (bindsSame (.slice a3 xc.length c3) (.slice b3 xc.length d3) xc z2 ((H.out.cv.keep hb0.out).keep K2.out) ((G.out.cv.keep hb0.out).keep K2.out)); have hk0 := (K2.out.block _ (Array.getElem?_eq_some_iff.1 H0.out).1).trans H0.out; have hk1 := (K2.out.block _ (Array.getElem?_eq_some_iff.1 H1.out).1).trans H1.out; have p2 := row_of hk0 2 _ rfl; have q2 := row_of hk1 2 _ rfl; clear hk0 hk1; clear k2) | (go_at_call_of 19 (Value.slice a3 xc.length c3); refine P3.out.mono ?_; rintro e z3 ⟨rfl, k3⟩; have K3 := Lib.hid (bcomp K2.out k3); have P4 := Lib.hid (bindsSame (.slice a4 xs.length c4) (.slice b4 xs.length d4) xs z3 ((H.out.sv.keep hb0.out).keep K3.out) ((G.out.sv.keep hb0.out).keep K3.out)); have hk0 := (K3.out.block _ (Array.getElem?_eq_some_iff.1 H0.out).1).trans H0.out; have hk1 := (K3.out.block _ (Array.getElem?_eq_some_iff.1 H1.out).1).trans H1.out; have p3 := row_of hk0 3 _ rfl; have q3 := row_of hk1 3 _ rfl; clear hk0 hk1; clear k3) | (go_at_call_of 19 (Value.slice a4 xs.length c4); refine P4.out.mono ?_; rintro e z4 ⟨rfl, k4⟩; have K4 := Lib.hid (bcomp K3.out k4); have hk0 := (K4.out.block _ (Array.getElem?_eq_some_iff.1 H0.out).1).trans H0.out; have hk1 := (K4.out.block _ (Array.getElem?_eq_some_iff.1 H1.out).1).trans H1.out; have p4 := row_of hk0 4 _ rfl; have q4 := row_of hk1 4 _ rfl; have p5 := row_of hk0 5 _ rfl; have q5 := row_of hk1 5 _ rfl; have p6 := row_of hk0 6 _ rfl; have q6 := row_of hk1 6 _ rfl; have p7 := row_of hk0 7 _ rfl; have q7 := row_of hk1 7 _ rfl; have p8 := row_of hk0 8 _ rfl; have q8 := row_of hk1 8 _ rfl; clear hk0 hk1; clear k4))
  go_ret
  exact ⟨rfl, bcomp hb0.out K4.out⟩
end Go.Proofs.YtfdinncgncbmfaaGreatDoor
