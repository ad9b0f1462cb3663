/- witness.Make where it gives a witness, with what keeps the two copies apart. Condition: what comes in reads as the plain data; the tables hold what they are laid with. The walk of WitnessLong. Condition: what comes in reads as the plain data; the tables hold what they are laid with. -/
import Derived.Test.YtkjkpddajjmloaaDoorWtR
import Derived.Test.YtkjkpddajjmloaaDoorBmp
set_option linter.unnecessarySimpa false
set_option linter.unusedVariables false
set_option linter.unusedSimpArgs false
namespace Go.Proofs.YtkjkpddajjmloaaDoor
open Go.ChangeShapes Go.WideShapes Go.ChangeAt Go.RowKit
/-- The rows of a list of lists lie below a mark. -/
def RowsLt (n1 : Nat) (v : Value) (vs : List Value) : Prop := (∀ b, v.ownBlock = some b → b < n1) ∧ ∀ (j : Nat) (u : Value) (b : Nat), vs[j]? = some u → u.ownBlock = some b → b < n1
set_option maxRecDepth 100000 in
set_option maxHeartbeats 3200000 in
theorem make_apart (f : FlatD) (q : PolD) (cF cP : Array Value) (level : Int) (av bv : Value) (A B : List (List Int)) (w : World) (hF : FlatC w f cF) (hP : PolC w q cP) (hL : Laid w) (hT : BitsAt w) (hlv : InI64 level) (ha : RdLists none w av A) (hb : RdLists none w bv B) (hzA : ∀ l ∈ A, l.length ≤ 1000000) (hzB : ∀ l ∈ B, l.length ≤ 1000000) (hE : makeE f q level A B = 0) :
    Calls Tryd.prog 32 #[.agg cF, .agg cP, .int .i64 level, av, bv] w fun e w' => ∃ va vsa vb vsb n1, e = .returned (.tuple #[.agg #[.int .i64 level, va, vb, .bool (implB (runT f A q.steps) (runT f B q.steps))], .int .i64 0]) ∧ OwnL w.heap.size w' va vsa A ∧ OwnL n1 w' vb vsb B ∧ w.heap.size ≤ n1 ∧ n1 ≤ w'.heap.size ∧ RowsLt n1 va vsa ∧ Below w.heap.size w w' := by
  obtain ⟨hE1, hV⟩ := makeE_zero hE
  obtain ⟨er1, er2, hnA, hnB⟩ := runs_fine hE1
  obtain ⟨aa, ac, rfl⟩ := ha.is
  obtain ⟨ba, bc, rfl⟩ := hb.is
  have hal := (((Below.refl w.heap.size w).alloc (Nat.le_refl _) (.cells cF 43)).alloc (by simp) (.cells cP 46)).alloc (by simp; omega) (.cells #[.int .i64 0, .slice none 0 0, .slice none 0 0, .bool false] 65)
  have hx := heap2_of (w := w) (A := .cells cF 43 (0, 0)) (B := .cells cP 46 (0, 0)) ((Below.refl ((w.alloc (.cells cF 43)).alloc (.cells cP 46)).heap.size ((w.alloc (.cells cF 43)).alloc (.cells cP 46))).alloc (Nat.le_refl _) (.cells #[.int .i64 0, .slice none 0 0, .slice none 0 0, .bool false] 65))
  have hw3 : (((w.alloc (.cells cF 43)).alloc (.cells cP 46)).alloc (.cells #[.int .i64 0, .slice none 0 0, .slice none 0 0, .bool false] 65)).heap[w.heap.size + 1 + 1]? = some (.cells #[.int .i64 0, .slice none 0 0, .slice none 0 0, .bool false] 65 (0, 0)) := by
    have := heap_alloc_new ((w.alloc (.cells cF 43)).alloc (.cells cP 46)) (.cells #[.int .i64 0, .slice none 0 0, .slice none 0 0, .bool false] 65)
    simpa using this
  have HB := Lib.hid hal
  have HGF := Lib.hid hx.1
  have HGP := Lib.hid hx.2.1
  have HGW := Lib.hid hw3
  have HFI := Lib.hid hF.info
  have HPI := Lib.hid hP.info
  have hqs : InI64 q.steps := by obtain ⟨_, _, _, _, _, g⟩ := hP; exact g.2.2.2.2.1
  have HQS := Lib.hid hqs
  have hk := leaks_any f q cF cP level _ _ A B _ (hF.keep hal) (hP.keep hal) (hL.keep hal) (hT.keep hal) hlv (ha.keep hal) (hb.keep hal) hzA hzB
  rw [hV, hE1] at hk
  have HK := Lib.hid hk
  have HF := Lib.hid (hF.keep hal)
  have HP := Lib.hid (hP.keep hal)
  have HL := Lib.hid (hL.keep hal)
  have HA := Lib.hid (ha.keep hal)
  have HBB := Lib.hid (hb.keep hal)
  have HZA := Lib.hid hzA
  have HZB := Lib.hid hzB
  have HER := Lib.hid (And.intro er1 er2)
  clear hal hx hw3 hk hF hP hL hT ha hb hV hE1 hE hlv hzA hzB hqs er1 er2
  go_enter Tryd.func32, Tryd.ntmps32
  go_upto_region 1 with fail
  generalize ((w.alloc (.cells cF 43)).alloc (.cells cP 46)).alloc (.cells #[.int .i64 0, .slice none 0 0, .slice none 0 0, .bool false] 65) = W at *
  have hsz : w.heap.size + 1 + 1 < W.heap.size := (Array.getElem?_eq_some_iff.1 HGW.out).1
  go_upto_region 6 with (first | (refine wpList_load_row rfl 43 (.tmp 5) rfl w.heap.size rfl 43 cF (0, 0) _ ?l1 Tryd.underlying43 rfl ?i1 ?_; exact HGF.out; exact HFI.out) | (refine wpList_load_row rfl 46 (.tmp 6) rfl (w.heap.size + 1) rfl 46 cP (0, 0) _ ?l2 Tryd.underlying46 rfl ?i2 ?_; exact HGP.out; exact HPI.out) | (go_at_call 22; refine HK.out.mono ?_; rintro e z1 ⟨rfl, hz⟩; have BZ := Lib.hid hz; have HGZ := Lib.hid ((hz.block _ hsz).trans HGW.out); clear hz))
  have HGF1 := Lib.hid ((BZ.out.block _ (by omega)).trans HGF.out)
  have HGP1 := Lib.hid ((BZ.out.block _ (by omega)).trans HGP.out)
  have hal2 := (Below.refl z1.heap.size z1).alloc (Nat.le_refl _) (.cells #[.slice aa A.length ac, .slice ba B.length bc] 47)
  have hb2 := bcomp BZ.out hal2
  have hrn := runs_any f q cF cP _ [A, B] _ (HF.out.keep hb2) (HP.out.keep hb2) (runs_two (heap_alloc_new z1 (.cells #[.slice aa A.length ac, .slice ba B.length bc] 47)) (HA.out.keep hb2) (HBB.out.keep hb2)) (HL.out.keep hb2) (by simp) HQS.out (by intro X hX; simp at hX; rcases hX with rfl | rfl <;> assumption) (by intro X hX; simp at hX; rcases hX with rfl | rfl; exact HER.out.1; exact HER.out.2)
  have HRN := Lib.hid hrn
  have HB2 := Lib.hid hb2
  clear hrn hal2 hb2 HK HGF HGP HER
  go_upto_region 9 with (first | (refine wpList_load_row rfl 43 (.tmp 5) rfl w.heap.size rfl 43 cF (0, 0) _ ?l3 Tryd.underlying43 rfl ?i3 ?_; exact HGF1.out; exact HFI.out) | (refine wpList_load_row rfl 46 (.tmp 6) rfl (w.heap.size + 1) rfl 46 cP (0, 0) _ ?l4 Tryd.underlying46 rfl ?i4 ?_; exact HGP1.out; exact HPI.out) | (go_at_call 58; refine HRN.out.mono ?_; rintro e z2 ⟨rv, cs, rfl, hru, hz⟩; have HRU := Lib.hid hru; have B2 := Lib.hid (bcomp HB2.out hz); obtain ⟨rg, rc, x0, x1, x2, x3, x4, x5, y0, y1, y2, y3, y4, y5, rfl, hgl, k0, k1, k2, k3, k4, k5, k6, k7, k8, k9, k10, k11, hX, hY⟩ := runs_pair hru; have HX := Lib.hid hX; have HY := Lib.hid hY; clear hru hz hX hY))
  have s0 := keepS_cell (S := [rg]) (by simp) k0
  have s1 := keepS_cell (S := [rg]) (by simp) k1
  have s2 := keepS_cell (S := [rg]) (by simp) k2
  have s3 := keepS_cell (S := [rg]) (by simp) k3
  have s4 := keepS_cell (S := [rg]) (by simp) k4
  have s5 := keepS_cell (S := [rg]) (by simp) k5
  have s6 := keepS_cell (S := [rg]) (by simp) k6
  have s7 := keepS_cell (S := [rg]) (by simp) k7
  have s8 := keepS_cell (S := [rg]) (by simp) k8
  have s9 := keepS_cell (S := [rg]) (by simp) k9
  have s10 := keepS_cell (S := [rg]) (by simp) k10
  have s11 := keepS_cell (S := [rg]) (by simp) k11
  have HDR : Hid (∀ b : Nat, z2.drew.heap[b]? = z2.heap[b]?) := fun _ => rfl
  have HBD := Lib.hid (bcomp B2.out (Below.refl z2.heap.size z2).drew)
  have HDD := Lib.hid (Below.refl z2.heap.size z2).drew
  have hl3 : rg < z2.drew.heap.size := hgl
  clear k0 k1 k2 k3 k4 k5 k6 k7 k8 k9 k10 k11
  refine wp_region_mixS [rg] (.one [0, 1, 3, 5, 6, 7, 8, 9, 10] 2 (.one [] 4 (.one [] 11 (tailOf [12, 13, 14])))) (fun j => decide (12 ≤ j)) (by kernel_rfl) (by kernel_rfl) rfl (by kernel_rfl) (fun _ d _ _ _ h => by cases d <;> exact h) ?_
  generalize z2.drew = w3 at *
  have HX3 := Lib.hid (HX.out.keep HDD.out)
  have HY3 := Lib.hid (HY.out.keep HDD.out)
  have HC1 := Lib.hid (copied_any _ A w3 (HA.out.keep HBD.out) HZA.out)
  refine mix_one (by simp only [opsOf, List.filterMap_cons, List.filterMap_nil, List.getElem?_toArray, List.getElem?_cons_succ, List.getElem?_cons_zero]; rfl) ⟨_, keepS_of (fun b _ => HDR.out b)⟩ ?_
  change wpQuiet _ _ _ _ [_, _, _, _, _, _, _, _, _] _
  (repeat (go_big_quiet_step (fail)))
  refine wpQuiet_nil ?_
  refine mix_step rfl ?_
  go_wp2_with (go_at_call 59; refine HC1.out.mono ?_; rintro e w4 ⟨va, vsa, rfl, ho, hz⟩; obtain ⟨ya, yc, rfl, -⟩ := own_read ho.own; have HO1 := Lib.hid ho; have B4 := Lib.hid hz; clear ho hz)
  have HRL : Hid (RowsLt w4.heap.size (.slice ya vsa.length yc) vsa) := ⟨fun b hb => own_lt HO1.out.own b hb, fun j u b hj hb => by
    obtain ⟨l, hl⟩ : ∃ l, A[j]? = some l := ⟨_, List.getElem?_eq_getElem (by rw [← HO1.out.len]; exact (List.getElem?_eq_some_iff.1 hj).1)⟩
    exact own_lt (HO1.out.rows j u l hj hl) b hb⟩
  have hl4 : rg < w4.heap.size := by have := B4.out.size; omega
  have HK4 : Hid (∀ b ∈ [rg], w4.heap[b]? = z2.heap[b]?) := fun b hb => by simp at hb; subst hb; exact (B4.out.block _ hl3).trans (HDR.out _)
  have HC2 := Lib.hid (copied_any _ B w4 (HBB.out.keep (bcomp HBD.out B4.out)) HZB.out)
  refine ⟨fun _ => ⟨_, keepS_of HK4.out⟩, ?_⟩
  refine mix_now ?_
  refine mix_step rfl ?_
  go_wp2_with (go_at_call 59; refine HC2.out.mono ?_; rintro e w5 ⟨vb, vsb, rfl, ho, hz⟩; obtain ⟨yb, yd, rfl, -⟩ := own_read ho.own; have HO2 := Lib.hid ho; have B5 := Lib.hid hz; clear ho hz)
  have HK5 : Hid (∀ b ∈ [rg], w5.heap[b]? = z2.heap[b]?) := fun b hb => by have hb2 := hb; simp at hb; subst hb; exact (B5.out.block _ hl4).trans (HK4.out _ hb2)
  have hl5 : rg < w5.heap.size := by have := B5.out.size; omega
  have HIM := Lib.hid (implicit_any _ _ _ _ w5 (HX3.out.keep (bcomp B4.out B5.out)) (HY3.out.keep (bcomp B4.out B5.out)))
  refine ⟨fun _ => ⟨_, keepS_of HK5.out⟩, ?_⟩
  refine mix_now ?_
  refine mix_step rfl ?_
  go_wp2_with (go_at_call 39; refine HIM.out.mono ?_; rintro e w6 ⟨rfl, hz⟩; have B6 := Lib.hid hz; clear hz)
  have HK6 : Hid (∀ b ∈ [rg], w6.heap[b]? = z2.heap[b]?) := fun b hb => by have hb2 := hb; simp at hb; subst hb; exact (B6.out.block _ hl5).trans (HK5.out _ hb2)
  have HBW := Lib.hid (bcomp HBD.out (bcomp B4.out (bcomp B5.out B6.out)))
  have HGZ6 := Lib.hid ((HBW.out.block _ hsz).trans HGW.out)
  have hs6 := HBW.out.size
  refine ⟨fun _ => ⟨_, keepS_of HK6.out⟩, ?_⟩
  refine mix_tail [12, 13, 14] [_, _, _] _ _ rfl rfl ?_
  simp only [Act.put, List.setIfInBounds_toArray, List.set_cons_succ, List.set_cons_zero, List.getElem_toArray, List.getElem_cons_succ, List.getElem_cons_zero]
  go_wp2_with (refine wpList_store_row rfl 65 (.tmp 10) (.tmp 56) rfl (w.heap.size + 1 + 1) #[.int .i64 level, .slice ya vsa.length yc, .slice yb vsb.length yd, .bool (implB (runT f A q.steps) (runT f B q.steps))] rfl rfl 65 #[.int .i64 0, .slice none 0 0, .slice none 0 0, .bool false] ?h5 (by as_aux_lemma => kernel_rfl) (by as_aux_lemma => kernel_rfl) (by as_aux_lemma => kernel_rfl) ?_; exact HGZ6.out)
  have hfin : ∀ b, b ≠ w.heap.size + 1 + 1 → (w6.setRow (w.heap.size + 1 + 1) #[.int .i64 level, .slice ya vsa.length yc, .slice yb vsb.length yd, .bool (implB (runT f A q.steps) (runT f B q.steps))]).heap[b]? = w6.heap[b]? := fun b hne => setRow_other _ _ _ _ hne
  have HO1F := Lib.hid (((HO1.out.keep (bcomp B5.out B6.out)).same (w' := w6.setRow (w.heap.size + 1 + 1) #[.int .i64 level, .slice ya vsa.length yc, .slice yb vsb.length yd, .bool (implB (runT f A q.steps) (runT f B q.steps))]) (fun b hb hl => hfin b (by have := HBD.out.size; omega))).up (n0 := w.heap.size) (by have := HBD.out.size; omega))
  have HO2F := Lib.hid (((HO2.out.keep B6.out).same (w' := w6.setRow (w.heap.size + 1 + 1) #[.int .i64 level, .slice ya vsa.length yc, .slice yb vsb.length yd, .bool (implB (runT f A q.steps) (runT f B q.steps))]) (fun b hb hl => hfin b (by have := HBD.out.size; have := B4.out.size; omega))))
  have HBF := Lib.hid (bcomp HB.out HBW.out)
  refine bodyPost_ret (v := .tuple #[.agg #[.int .i64 level, .slice ya vsa.length yc, .slice yb vsb.length yd, .bool (implB (runT f A q.steps) (runT f B q.steps))], .int .i64 0]) ?_ rfl ⟨_, _, _, _, w4.heap.size, rfl, HO1F.out, HO2F.out, by have := HBD.out.size; have := B4.out.size; omega, by rw [setRow_size]; have := B5.out.size; have := B6.out.size; omega, HRL.out, below_row HBF.out (by omega) _⟩
  try simp only [Act.put]
  exact results_cell_two (P := Tryd.prog) (fn := Tryd.f32) rfl _ _ (w.heap.size + 1 + 1) 65 #[.int .i64 level, .slice ya vsa.length yc, .slice yb vsb.length yd, .bool (implB (runT f A q.steps) (runT f B q.steps))] (0, 0) _ rfl (setRow_heap _ _ _ _ _ _ HGZ6.out) Tryd.underlying65 rfl (by kernel_rfl)
open Go.ChangeShapes Go.WideShapes Go.ChangeAt Go.RowKit
theorem FlatC.width {w : World} {f : FlatD} {c : Array Value} (h : FlatC w f c) : c[0]? = some (.int .i64 f.width) := by obtain ⟨a, b, d, e, rfl, _⟩ := h; rfl
theorem zeros_num (m : Nat) : (Builtin.zeroCells (Value.int .u64 0).cells m).toList = (List.replicate m (0 : Int)).flatMap cellsNum := by
  have h : ∀ m : Nat, (List.replicate m (0 : Int)).flatMap cellsNum = List.replicate m (.int .u64 0) := fun m => by
    induction m with
    | zero => rfl
    | succ m ih => rw [List.replicate_succ, List.flatMap_cons, ih]; rfl
  rw [h]
  refine List.ext_getElem? fun i => ?_
  have e : (Builtin.zeroCells (Value.int .u64 0).cells m).toList = (List.range m).map fun _ => Value.int .u64 0 := by
    show ((Array.range (m * 1)).map fun i => (#[Value.int .u64 0] : Array Value)[i % 1]!).toList = _
    rw [Nat.mul_one]
    simp [Nat.mod_one]
  rw [e, List.getElem?_map, List.getElem?_replicate]
  by_cases hi : i < m
  · rw [List.getElem?_eq_getElem (by simpa using hi), if_pos hi]; rfl
  · rw [List.getElem?_eq_none (by simpa using hi), if_neg hi]; rfl
theorem zeros_one (m : Nat) : ∀ u ∈ (Builtin.zeroCells (Value.int .u64 0).cells m).toList, u.oneCell' = true := by
  intro u hu
  rw [zeros_num] at hu
  obtain ⟨x, hx, hu⟩ := List.mem_flatMap.1 hu
  simp [cellsNum] at hu
  subst hu; rfl
theorem check_long {f : FlatD} {q : PolD} {lv : Int} {A B : List (List Int)} (h : makeE f q lv A B = 0) (T : Int) (z : Nat) : checkE f q lv (bumpA T f.width z A) B (implB (runT f A q.steps) (runT f B q.steps)) = 0 := by
  obtain ⟨h1, h2⟩ := makeE_zero h
  have hs : sideErr f q = 0 := by
    unfold leaksErr at h1
    by_cases h0 : sideErr f q = 0
    · exact h0
    · rw [if_pos h0] at h1; exact absurd h1 h0
  have hok := (sideP hs).ok
  have hr : ¬ rangeBad f q lv A B := fun k => by unfold leaksErr at h1; rw [if_neg (fun k => k hs), if_pos k] at h1; cases h1
  have hA : A.length ≤ f.chans.length := by unfold rangeBad at hr; omega
  obtain ⟨b1, b2⟩ := bump_leaks (q := q) (lv := lv) (A := A) (B := B) hok T z
  have h3 : makeE f q lv (bumpA T f.width z A) B = 0 := makeE_good (b2 ▸ h1) (b1 ▸ h2)
  unfold checkE
  rw [if_neg (fun k => k h3), bump_run hok hA T z, if_pos rfl]
theorem made_ok {f : FlatD} {q : PolD} {lv : Int} {A B : List (List Int)} (h : makeE f q lv A B = 0) : flatOk f = true := by
  obtain ⟨h1, _⟩ := makeE_zero h
  have hs : sideErr f q = 0 := by
    unfold leaksErr at h1
    by_cases h0 : sideErr f q = 0
    · exact h0
    · rw [if_pos h0] at h1; exact absurd h1 h0
  exact (sideP hs).ok
def LoR (n1 m : Nat) (vs : List Value) : Prop := ∀ (j : Nat) (u : Value) (b : Nat), vs[j]? = some u → u.ownBlock = some b → b < n1 ∨ m ≤ b
theorem LoR.set {n1 m n : Nat} {vs : List Value} {v : Value} (h : LoR n1 m vs) (hv : ∀ b, v.ownBlock = some b → b < n1 ∨ m ≤ b) : LoR n1 m (vs.set n v) := by
  intro j u b hj hb
  rcases set_at hj with ⟨_, rfl, _⟩ | ⟨_, h2⟩
  · exact hv b hb
  · exact h j u b h2 hb
def SameN (n1 : Nat) (W wr : World) : Prop := W.heap.size ≤ wr.heap.size ∧ ∀ b, n1 ≤ b → b < W.heap.size → wr.heap[b]? = W.heap[b]?
theorem SameN.below {n1 : Nat} {W w w' : World} (h : SameN n1 W w) (k : Below w.heap.size w w') : SameN n1 W w' :=
  ⟨Nat.le_trans h.1 k.size, fun b h1 h2 => (k.block b (Nat.lt_of_lt_of_le h2 h.1)).trans (h.2 b h1 h2)⟩
theorem SameN.setCell {n1 : Nat} {W w : World} (h : SameN n1 W w) {g k : Nat} (hg : g < n1 ∨ W.heap.size ≤ g) (v : Value) : SameN n1 W (w.setCell ⟨g, k, none⟩ v) :=
  ⟨by have := h.1; simpa using this, fun b h1 h2 => (heap_setCell_other _ _ _ _ (by show b ≠ g; omega)).trans (h.2 b h1 h2)⟩
set_option maxRecDepth 100000 in
set_option maxHeartbeats 3200000 in
theorem long_walk (f : FlatD) (cF : Array Value) (q : PolD) (cP : Array Value) (level : Int) (av : Value) (A : List (List Int)) (bv : Value) (B : List (List Int)) (zeros times : Int) (w : World) (hF : FlatC w f cF) (hP : PolC w q cP) (hlv : InI64 level) (ha : RdLists none w av A) (hb : RdLists none w bv B) (hz8 : InU8 zeros) (ht8 : InU8 times) (hL : Laid w) (hT : BitsAt w) :
    Calls Tryd.prog 11 #[.agg cF, .agg cP, .int .i64 level, av, bv, .int .u8 zeros, .int .u8 times] w fun e w' => e = .returned (.bool true) ∧ Below w.heap.size w w' := by
  obtain ⟨zz, rfl⟩ : ∃ zz : Nat, zeros = zz := ⟨zeros.toNat, by have := hz8.1; omega⟩
  have hzb : zz ≤ 255 := by have := hz8.2; omega
  have ht0 := ht8.1
  have ht1 := ht8.2
  clear ht8 hz8
  obtain ⟨aa, ac, rfl⟩ := ha.is
  obtain ⟨ba, bc, rfl⟩ := hb.is
  have HFI := Lib.hid hF.info
  have HPI := Lib.hid hP.info
  have HF := Lib.hid hF
  have HP := Lib.hid hP
  have HA := Lib.hid ha
  have HBB := Lib.hid hb
  have HL := Lib.hid hL
  have HT := Lib.hid hT
  have HLV := Lib.hid hlv
  clear hF hP ha hb hL hT hlv
  have hal := ((Below.refl w.heap.size w).alloc (Nat.le_refl _) (.cells cF 43)).alloc (by simp) (.cells cP 46)
  have hx := heap2_of (w := w) (A := .cells cF 43 (0, 0)) (B := .cells cP 46 (0, 0)) (Below.refl _ _)
  have B0 := Lib.hid hal
  have HGF0 := Lib.hid hx.1
  have HGP0 := Lib.hid hx.2.1
  clear hal hx
  go_enter Tryd.func11, Tryd.ntmps11
  go_upto_region 1 with fail
  generalize (w.alloc (.cells cF 43)).alloc (.cells cP 46) = W at *
  have hsz : w.heap.size + 1 < W.heap.size := (Array.getElem?_eq_some_iff.1 HGP0.out).1
  have hal2 := (Below.refl W.heap.size W).alloc (Nat.le_refl _) (.cells #[.slice aa A.length ac, .slice ba B.length bc] 47)
  have hb2 := bcomp B0.out hal2
  have HFN := Lib.hid (fine7_any f q cF cP _ [A, B] _ (HF.out.keep hb2) (HP.out.keep hb2) (runs_two (heap_alloc_new W (.cells #[.slice aa A.length ac, .slice ba B.length bc] 47)) (HA.out.keep hb2) (HBB.out.keep hb2)) (by simp))
  have BX := Lib.hid hal2
  have B00 := Lib.hid hb2
  clear hal2 hb2
  by_cases hfi : fine7 f q [A, B] = true
  case neg =>
    rw [Bool.eq_false_iff.2 hfi] at HFN
    go_wp2_with (first | (refine wpList_load_row rfl 43 (.tmp 7) rfl w.heap.size rfl 43 cF (0, 0) _ ?l1 Tryd.underlying43 rfl ?i1 ?_; exact HGF0.out; exact HFI.out) | (refine wpList_load_row rfl 46 (.tmp 8) rfl (w.heap.size + 1) rfl 46 cP (0, 0) _ ?l2 Tryd.underlying46 rfl ?i2 ?_; exact HGP0.out; exact HPI.out) | (go_at_call 34; refine HFN.out.mono ?_; rintro e z1 ⟨rfl, hz⟩; have B1 := Lib.hid (bcomp B00.out hz); have HAW := Lib.hid (awake7_any z1 (HL.out.keep B1.out) (HT.out.keep B1.out)); clear hz) | (go_at_call 33; refine HAW.out.mono ?_; rintro e z2 ⟨rfl, hz⟩; have B2 := Lib.hid (bcomp B1.out hz); clear hz))
    go_ret
    exact ⟨rfl, B2.out⟩
  rw [hfi] at HFN
  have hsA := short_fits (fine7_short hfi (A := A) (by simp))
  have hsB := short_fits (fine7_short hfi (A := B) (by simp))
  have hlA : A.length ≤ 1000000 := by have := (fine7_short hfi (A := A) (by simp)).1; omega
  have hlB : B.length ≤ 1000000 := by have := (fine7_short hfi (A := B) (by simp)).1; omega
  have hs20 : ∀ l ∈ A, l.length ≤ 20 := (fine7_short hfi (A := A) (by simp)).2
  have HS20 := Lib.hid hs20
  clear hs20
  have HSA := Lib.hid hsA
  have HSB := Lib.hid hsB
  have HLA := Lib.hid hlA
  have HLB := Lib.hid hlB
  have HA40 : Hid (A.length ≤ 40) := (fine7_short hfi (A := A) (by simp)).1
  clear hfi hsA hsB hlA hlB
  go_upto_region 3 with (first | (refine wpList_load_row rfl 43 (.tmp 7) rfl w.heap.size rfl 43 cF (0, 0) _ ?l3 Tryd.underlying43 rfl ?i3 ?_; exact HGF0.out; exact HFI.out) | (refine wpList_load_row rfl 46 (.tmp 8) rfl (w.heap.size + 1) rfl 46 cP (0, 0) _ ?l4 Tryd.underlying46 rfl ?i4 ?_; exact HGP0.out; exact HPI.out) | (go_at_call 34; refine HFN.out.mono ?_; rintro e z1 ⟨rfl, hz⟩; have BZ0 := Lib.hid (bcomp BX.out hz); clear hz))
  have B1 := Lib.hid (bcomp B0.out BZ0.out)
  have HGF1 := Lib.hid ((BZ0.out.block _ (Array.getElem?_eq_some_iff.1 HGF0.out).1).trans HGF0.out)
  have HGP1 := Lib.hid ((BZ0.out.block _ (Array.getElem?_eq_some_iff.1 HGP0.out).1).trans HGP0.out)
  clear HFN BX B00 BZ0 HGF0 HGP0
  obtain ⟨E, hE⟩ : ∃ E, makeE f q level A B = E := ⟨_, rfl⟩
  by_cases h0 : E = 0
  case neg =>
    have hE1 : (E != 0) = true := by simpa using h0
    have HM := Lib.hid (make_bad f q cF cP level _ _ A B z1 (HF.out.keep B1.out) (HP.out.keep B1.out) (HL.out.keep B1.out) (HT.out.keep B1.out) HLV.out (HA.out.keep B1.out) (HBB.out.keep B1.out) HSA.out HSB.out hE h0)
    clear hE
    go_wp2_with (first | (refine wpList_load_row rfl 43 (.tmp 7) rfl w.heap.size rfl 43 cF (0, 0) _ ?l5 Tryd.underlying43 rfl ?i5 ?_; exact HGF1.out; exact HFI.out) | (refine wpList_load_row rfl 46 (.tmp 8) rfl (w.heap.size + 1) rfl 46 cP (0, 0) _ ?l6 Tryd.underlying46 rfl ?i6 ?_; exact HGP1.out; exact HPI.out) | (go_at_call 32; refine HM.out.mono ?_; rintro e z2 ⟨rfl, hz⟩; have BZ1 := Lib.hid hz; clear hz; have B2 := Lib.hid (bcomp B1.out (bcomp BZ1.out ((Below.refl z2.heap.size z2).alloc (Nat.le_refl _) (.cells witZ 65)))); have HAW := Lib.hid (awake7_any (z2.alloc (.cells witZ 65)) (HL.out.keep B2.out) (HT.out.keep B2.out))) | (go_at_call 33; refine HAW.out.mono ?_; rintro e z9 ⟨rfl, hz⟩; have B9 := Lib.hid (bcomp B2.out hz); clear hz))
    go_ret
    exact ⟨rfl, B9.out⟩
  subst h0
  obtain ⟨I, hI⟩ : ∃ I, implB (runT f A q.steps) (runT f B q.steps) = I := ⟨_, rfl⟩
  have hok := made_ok hE
  have hw1 : 1 ≤ f.width := (headP hok).w1
  have hw2 : f.width ≤ 64 := (headP hok).w2
  obtain ⟨m, hm⟩ : ∃ m : Nat, zz % 6 = m := ⟨_, rfl⟩
  have hm5 : m < 6 := by omega
  have HZM : Hid ((zz : Int) % 6 = (m : Int)) := by show _ = _; omega
  have hmk := make_apart f q cF cP level _ _ A B z1 (HF.out.keep B1.out) (HP.out.keep B1.out) (HL.out.keep B1.out) (HT.out.keep B1.out) HLV.out (HA.out.keep B1.out) (HBB.out.keep B1.out) HSA.out HSB.out hE
  have hck := check_long hE times m
  rw [hI] at hmk hck
  have HM := Lib.hid hmk
  have HCK0 := Lib.hid hck
  obtain ⟨i1, hj, hy0, hy1, hy2⟩ := info_parts infoNum
  have hb0 : ((0 : Int) != 0) = false := rfl
  clear hE hok hI hmk hck hm
  go_upto_region 6 with (first | (refine wpList_load_row rfl 43 (.tmp 7) rfl w.heap.size rfl 43 cF (0, 0) _ ?l7 Tryd.underlying43 rfl ?i7 ?_; exact HGF1.out; exact HFI.out) | (refine wpList_load_row rfl 46 (.tmp 8) rfl (w.heap.size + 1) rfl 46 cP (0, 0) _ ?l8 Tryd.underlying46 rfl ?i8 ?_; exact HGP1.out; exact HPI.out) | (go_at_call 32; refine HM.out.mono ?_; rintro e z2 ⟨va, vs, vb, vsb, n1, rfl, ho1, ho2, hn1a, hn1b, hrl, hz⟩; obtain ⟨la, lc, rfl, -⟩ := own_read ho1.own; obtain ⟨ya, yc, rfl, -⟩ := own_read ho2.own; have HO1 := Lib.hid ho1; have HO2 := Lib.hid ho2; have BZ1 := Lib.hid hz; have HRL := Lib.hid hrl; clear ho1 ho2 hz hrl))
  try simp only [Act.put]
  have hal3 := (Below.refl z2.heap.size z2).alloc (Nat.le_refl _) (.cells #[.int .i64 level, .slice la vs.length lc, .slice ya vsb.length yc, .bool I] 65)
  have hgw := heap_alloc_new z2 (.cells #[.int .i64 level, .slice la vs.length lc, .slice ya vsb.length yc, .bool I] 65)
  have HO := Lib.hid (HO1.out.keep hal3)
  have HQB := Lib.hid ((HO2.out.keep hal3).rd HLB.out HSB.out)
  have HBW := Lib.hid (bcomp BZ1.out hal3)
  have HGW := Lib.hid hgw
  have HVL : Hid (vs.length = A.length) := HO1.out.len
  have hlt0 : w.heap.size < z1.heap.size := (Array.getElem?_eq_some_iff.1 HGF1.out).1
  have hA40 : A.length ≤ 40 := HA40.out
  have HAL := Lib.hid (bumpA_len times f.width m A)
  clear HM BZ1 hal3 hgw HO1 HO2
  generalize z2.alloc (.cells #[.int .i64 level, .slice la vs.length lc, .slice ya vsb.length yc, .bool I] 65) = W2 at *
  have hgl2 : z2.heap.size < W2.heap.size := (Array.getElem?_eq_some_iff.1 HGW.out).1
  have HKW : Hid (∀ wr, SameN n1 W2 wr → wr.heap[z2.heap.size]? = some (.cells #[.int .i64 level, .slice la vs.length lc, .slice ya vsb.length yc, .bool I] 65 (0, 0))) := fun wr h => (h.2 _ hn1b hgl2).trans HGW.out
  have HK : Hid (∀ w', Below z1.heap.size z1 w' → w'.cell? ⟨w.heap.size, 0, none⟩ = some (.int .i64 f.width)) := fun w' hb => row_of ((hb.block _ hlt0).trans HGF1.out) 0 _ HF.out.width
  go_wp2_with fail
  go_loopw [17, 18] (fun i _ wr => ∃ n : Nat, n ≤ A.length ∧ i = .int .i64 n ∧ (∃ vs' : List Value, vs'.length = vs.length ∧ OwnL z1.heap.size wr (.slice la vs.length lc) vs' (midI (bumpA times f.width m A) A n) ∧ LoR n1 W2.heap.size vs') ∧ SameN n1 W2 wr ∧ Below z1.heap.size z1 wr) (fun i _ _ => A.length - (intOf i).toNat)
  case atStart => exact ⟨0, Nat.zero_le _, rfl, ⟨vs, rfl, by simpa [midI] using HO.out, fun j u b hj hb => .inl (HRL.out.2 j u b hj hb)⟩, ⟨Nat.le_refl _, fun _ _ _ => rfl⟩, HBW.out⟩
  case round =>
    obtain ⟨n, hn, rfl, ⟨vs2, hv2, ho, hlo⟩, hsn, hb⟩ := hrel
    obtain ⟨w9, rfl⟩ : ∃ x : World, x = wr := ⟨_, rfl⟩
    have HV2 := Lib.hid hv2
    have HB9 := Lib.hid hb
    have HO9 := Lib.hid ho
    have HLO := Lib.hid hlo
    have HSN9 := Lib.hid hsn
    have k1 := row_of (HKW.out w9 hsn) 1 (.slice la vs.length lc) rfl
    clear hv2 hb hlo hsn
    by_cases hlt : n < A.length
    · obtain ⟨l0, hl0⟩ : ∃ l0, A[n]? = some l0 := ⟨_, List.getElem?_eq_getElem hlt⟩
      have hl20 : l0.length ≤ 20 := HS20.out l0 (List.mem_of_getElem? hl0)
      have hln : (midI (bumpA times f.width m A) A n)[n]? = some l0 := by rw [midI_at HAL.out hlt]; exact hl0
      have hn1 : (n : Int) < (vs.length : Int) := by have := HVL.out; omega
      have hn40 : n ≤ 40 := by omega
      have HAN := Lib.hid (bumpA_at (T := times) (W := f.width) (z := m) hl0)
      have HLN := Lib.hid hln
      have HML := Lib.hid (bumpM_len times f.width l0)
      clear hln hl0
      obtain ⟨g, gc, u, e1, hu, hcu, hfu, hur, hgn, hgl, hug⟩ := ho.at HLN.out
      rw [HV2.out] at e1
      simp only [Value.slice.injEq, true_and] at e1
      obtain ⟨rfl, rfl⟩ := e1
      obtain ⟨ua, uc, rfl, -⟩ := own_read hur
      have HGN1 : Hid (g < n1) := HRL.out.1 g rfl
      have HU := Lib.hid hu
      have HSET0 : Hid ((midI (bumpA times f.width m A) A n).set n l0 = midI (bumpA times f.width m A) A n) := set_same HLN.out
      clear ho hcu hfu hur hug hu
      go_wp2_with fail
      go_loopw [18] (fun kv wr => ∃ k : Nat, k ≤ l0.length ∧ kv = .int .i64 k ∧ OwnL z1.heap.size wr (.slice (some ⟨g, 0, none⟩) vs.length lc) vs2 ((midI (bumpA times f.width m A) A n).set n (midL (bumpM times f.width l0) l0 k)) ∧ SameN n1 W2 wr ∧ Below z1.heap.size z1 wr) (fun kv _ => l0.length - (intOf kv).toNat)
      case atStart => exact ⟨0, Nat.zero_le _, rfl, by rw [midL_zero, HSET0.out]; exact HO9.out, HSN9.out, HB9.out⟩
      case round =>
        clear k1
        obtain ⟨k, hk, rfl, ho, hsn, hb⟩ := hrel
        obtain ⟨w10, rfl⟩ : ∃ x : World, x = wr := ⟨_, rfl⟩
        have HLK := Lib.hid (midL_len HML.out hk)
        have hat : ((midI (bumpA times f.width m A) A n).set n (midL (bumpM times f.width l0) l0 k))[n]? = some (midL (bumpM times f.width l0) l0 k) := List.getElem?_set_self (by rw [midI_len HAL.out hn]; exact hlt)
        obtain ⟨g', gc', u', e1, hu', hcu, hfu, hur, hgn', hgl', hug⟩ := ho.at hat
        rw [HV2.out] at e1
        simp only [Value.slice.injEq, Option.some.injEq, Addr.mk.injEq, and_true, true_and] at e1
        obtain ⟨rfl, rfl⟩ := e1
        rw [HU.out] at hu'
        cases hu'
        have y0 := HK.out w10 hb
        have k1 := row_of (HKW.out w10 hsn) 1 (.slice (some ⟨g, 0, none⟩) vs.length lc) rfl
        have HO10 := Lib.hid ho
        have HB10 := Lib.hid hb
        have HUR := Lib.hid hur
        have HAT := Lib.hid hat
        have HSN10 := Lib.hid hsn
        clear ho hb hur hat hfu hsn
        by_cases hk0 : k < l0.length
        · have hk1 : (k : Int) < (l0.length : Int) := by omega
          obtain ⟨x0, hx0⟩ : ∃ x0, l0[k]? = some x0 := ⟨_, List.getElem?_eq_getElem hk0⟩
          have hmk : (midL (bumpM times f.width l0) l0 k)[k]? = some x0 := by rw [midL_at HML.out hk0]; exact hx0
          have HMS := Lib.hid (midL_set HML.out (bumpM_at (T := times) (W := f.width) hx0))
          have HADD : Hid (bumpN times f.width x0 = IntKind.u64.wrap (x0 + IntKind.u64.wrap (times * 2 ^ f.width.toNat))) := rfl
          obtain ⟨ub, uc2, cur, e2, hcur, hub, hcl, hfr⟩ := own_in HUR.out (by rw [kNum_len, HLK.out]; omega)
          rw [HLK.out] at e2
          simp only [Value.slice.injEq, true_and] at e2
          obtain ⟨rfl, rfl⟩ := e2
          have HUB : Hid (ub < n1 ∨ W2.heap.size ≤ ub) := HLO.out n _ ub HU.out rfl
          have hcur' := Lib.hid hcur
          have HCL := Lib.hid (hcl k _ (kNum_at hmk))
          have hx0in : InU64 x0 := HO10.out.ok _ (List.mem_of_getElem? HAT.out) x0 (List.mem_of_getElem? hmk)
          have hx00 := hx0in.1
          have hx01 := hx0in.2
          have hu64 : IntKind.u64.wrap times = times := by rw [IntKind.wrap_u64]; omega
          clear hmk hx0 hcl hfr hcur hug hgl' hgn' hx0in
          go_upto_region 12 with fail
          have i1c := ext_cell hcu
          have i2c := ext_cell y0
          have i3c := ext_cell k1
          have i4c := ext_cell HCL.out
          clear hcu y0 k1
          by_cases h64 : f.width < 64
          · (refine wp_region_calm_tail 16 (by kernel_rfl) (by kernel_rfl) ?_; simp only [List.take_succ_cons, List.take_zero, List.drop_succ_cons, List.drop_zero]; (repeat (go_big_quiet_step (fail))); refine wpQuiet_nil ?_; intro wc hwc)
            have hcw := (hwc.block ub (Array.getElem?_eq_some_iff.1 hcur'.out).1).trans hcur'.out
            have c1 := cell_keep hwc HCL.out
            have f1 := frozen_of_row wc ub k _ _ hcw
            have hse := (HO10.out.keep hwc).setElem HU.out HAT.out k (bumpN times f.width x0) (wrap_in _)
            rw [set_twice, HMS.out, HADD.out] at hse
            have HSE := Lib.hid hse
            have HBE : Hid (Below z1.heap.size z1 (wc.setCell ⟨ub, k, none⟩ (.int .u64 (IntKind.u64.wrap (x0 + IntKind.u64.wrap (times * 2 ^ f.width.toNat)))))) := (HB10.out.trans (hwc.mono (by have := HB10.out.size; omega))).setCell hub _
            have HSS := Lib.hid ((HSN10.out.below hwc).setCell (k := k) HUB.out (.int .u64 (IntKind.u64.wrap (x0 + IntKind.u64.wrap (times * 2 ^ f.width.toNat)))))
            clear hse hcw i1c i2c i3c i4c
            go_wp2_with fail
            go_roundw
            case rel => exact ⟨k + 1, by omega, by go_num, HSE.out, HSS.out, HBE.out⟩
            case measure => simp [intOf]; omega
          · have h64e : f.width = 64 := by omega
            have i2d : ∀ x, (ext w10 x).cell? ⟨w.heap.size, 0, none⟩ = some (.int .i64 64) := fun x => by have h := i2c x; rw [h64e] at h; exact h
            have HB0 : Hid (bumpN times f.width x0 = IntKind.u64.wrap (x0 + IntKind.u64.wrap (times * 18446744073709551616))) := by show _ = _; rw [h64e]; rfl
            have hse0 := fun (w : World) (hw : Below w10.heap.size w10 w) => (HO10.out.keep hw).setElem HU.out HAT.out k (bumpN times f.width x0) (wrap_in _)
            have HS0 : Hid (∀ w, Below w10.heap.size w10 w → OwnL z1.heap.size (w.setCell ⟨ub, k, none⟩ (.int .u64 (IntKind.u64.wrap (x0 + IntKind.u64.wrap (times * 18446744073709551616))))) (.slice (some ⟨g, 0, none⟩) vs.length lc) vs2 ((midI (bumpA times f.width m A) A n).set n (midL (bumpM times f.width l0) l0 (k + 1)))) := fun w hw => by have h := hse0 w hw; rw [set_twice, HMS.out, HB0.out] at h; exact h
            clear i2c h64 h64e hse0 hw1 hw2
            (refine wp_region_calm_tail 16 (by kernel_rfl) (by kernel_rfl) ?_; simp only [List.take_succ_cons, List.take_zero, List.drop_succ_cons, List.drop_zero]; (repeat (go_big_quiet_step (fail))); refine wpQuiet_nil ?_; intro wc hwc)
            have hcw := (hwc.block ub (Array.getElem?_eq_some_iff.1 hcur'.out).1).trans hcur'.out
            have c1 := cell_keep hwc HCL.out
            have f1 := frozen_of_row wc ub k _ _ hcw
            have HSE := Lib.hid (HS0.out wc hwc)
            have HBE : Hid (Below z1.heap.size z1 (wc.setCell ⟨ub, k, none⟩ (.int .u64 (IntKind.u64.wrap (x0 + IntKind.u64.wrap (times * 18446744073709551616)))))) := (HB10.out.trans (hwc.mono (by have := HB10.out.size; omega))).setCell hub _
            have HSS := Lib.hid ((HSN10.out.below hwc).setCell (k := k) HUB.out (.int .u64 (IntKind.u64.wrap (x0 + IntKind.u64.wrap (times * 18446744073709551616)))))
            clear hcw i1c i2d i3c i4c
            go_wp2_with fail
            go_roundw
            case rel => exact ⟨k + 1, by omega, by go_num, HSE.out, HSS.out, HBE.out⟩
            case measure => simp [intOf]; omega
        · have hk1 : ¬ (k : Int) < (l0.length : Int) := by omega
          obtain rfl : k = l0.length := by omega
          have hend : midL (bumpM times f.width l0) l0 l0.length = bumpM times f.width l0 := midL_end HML.out
          have hur2 := HUR.out
          have HAT2 := HAT
          have HO11 := HO10
          rw [hend] at hur2 HAT2 HO11
          have hur3 : w10.ownsRow z1.heap.size 55 1 (.slice ua l0.length uc) l0.length ((bumpM times f.width l0).flatMap cellsNum) := by have h := hur2; rw [HML.out] at h; exact h
          have HU3 := Lib.hid hur3
          have hsz : z1.heap.size ≤ w10.heap.size := by have := HB10.out.size; omega
          have hz5 := HZM.out
          have HGC : Hid (w10.cell? ⟨g, n, none⟩ = some (.slice ua l0.length uc)) := hcu
          have HUG := Lib.hid hug
          have HGL := Lib.hid hgl'
          have HGN := Lib.hid hgn'
          have hgl2' : z2.heap.size < w10.heap.size := by have := HSN10.out.1; omega
          have HS2L : Hid (∀ b ∈ [g, z2.heap.size], b < w10.heap.size) := by
            intro b hb
            simp only [List.mem_cons, List.not_mem_nil, or_false] at hb
            rcases hb with rfl | rfl
            · exact HGL.out
            · exact hgl2'
          have HS2N : Hid (∀ b ∈ [g, z2.heap.size], (Value.slice ua l0.length uc).ownBlock ≠ some b) := by
            intro b hb
            simp only [List.mem_cons, List.not_mem_nil, or_false] at hb
            rcases hb with rfl | rfl
            · exact HUG.out
            · intro e; rcases HLO.out n _ _ HU.out e with h | h <;> omega
          clear HO10 HUR HAT hend hur2 hk hur3 hug hgl' hgn' y0
          go_upto_region 13 with fail
          have s1 := keepS_cell (S := [g, z2.heap.size]) (by simp) hcu
          have s2 := keepS_cell (S := [g, z2.heap.size]) (by simp) k1
          refine wp_region_mixS [g, z2.heap.size] (.one [0, 1, 2, 3, 4, 5, 6, 7, 8, 9, 10] 11 (tailOf [12, 13])) (fun j => decide (12 ≤ j)) (by kernel_rfl) (by kernel_rfl) rfl (by kernel_rfl) (fun _ d _ _ _ h => by cases d <;> exact h) ?_
          have HBd2 : Hid (Below w10.heap.size w10 w10.drew) := (Below.refl _ _).drew
          have M0 : Hid (∀ b ∈ [g, z2.heap.size], w10.drew.heap[b]? = w10.heap[b]?) := fun b _ => rfl
          have HSZ0 : Hid (w10.drew.heap.size = w10.heap.size) := rfl
          have HU30 := Lib.hid (own_below HU3.out HBd2.out)
          generalize w10.drew = w0 at *
          refine mix_one (by simp only [opsOf, List.filterMap_cons, List.filterMap_nil, List.getElem?_toArray, List.getElem?_cons_succ, List.getElem?_cons_zero]; rfl) ⟨_, keepS_of M0.out⟩ ?_
          change wpQuiet _ _ _ _ [_, _, _, _, _, _, _, _, _, _, _] _
          (repeat (go_big_quiet_step (fail)))
          refine wpQuiet_nil ?_
          clear s1 s2
          refine mix_step rfl ?_
          try (simp only [Act.put, List.setIfInBounds_toArray, List.set_cons_succ, List.set_cons_zero, List.getElem_toArray, List.getElem_cons_succ, List.getElem_cons_zero])
          refine wpList_append_zeros_own rfl (.tmp 79) (.tmp 82) 54 3 rfl z1.heap.size 55 i1 (.int .u64 0) 1 8 .i64 .i64 Tryd.underlying54 Tryd.underlying3 hj hy0 hy1 hy2 rfl (by decide) _ _ _ rfl HU30.out m rfl (zeros_one m) (by unfold maxLen; omega) (by omega) (by have := HSZ0.out; omega) ?_
          intro v' w4 hown' hgrow hblk
          rw [zeros_num, ← List.flatMap_append] at hown'
          have hkk : ∀ b, b < w10.heap.size → (Value.slice ua l0.length uc).ownBlock ≠ some b → w4.heap[b]? = w10.heap[b]? := fun b hbl hne => (hgrow.block b (by have := HSZ0.out; omega) (fun e => hne e.symm)).trans (HBd2.out.block b hbl)
          have hbk : ∀ b, v'.ownBlock = some b → (Value.slice ua l0.length uc).ownBlock = some b ∨ w10.heap.size ≤ b := fun b hb => by
            rcases hblk with e | e
            · left; rw [e] at hb; exact hb
            · right; rw [hb] at e; simp at e; have := HSZ0.out; omega
          have hown2 : w4.ownsRow z1.heap.size 55 1 v' (bumpM times f.width l0 ++ List.replicate m 0).length ((bumpM times f.width l0 ++ List.replicate m 0).flatMap cellsNum) := by rw [List.length_append, HML.out, List.length_replicate]; exact hown'
          have hokl : ∀ y ∈ bumpM times f.width l0, InU64 y := HO11.out.ok _ (List.mem_of_getElem? HAT2.out)
          have HOc0 := (HV2.out ▸ HO11.out : OwnL z1.heap.size w10 (.slice (some ⟨g, 0, none⟩) vs2.length lc) vs2 ((midI (bumpA times f.width m A) A n).set n (bumpM times f.width l0)))
          have hN := HOc0.put (i := n) HU.out hkk hown2 hbk (fun y hy => by rcases List.mem_append.1 hy with h | h; exact hokl y h; rw [(List.mem_replicate.1 h).2]; exact ⟨by decide, by decide⟩)
          rw [set_twice, midI_set HAL.out HAN.out] at hN
          have hN2 : OwnL z1.heap.size (w4.setCell ⟨g, n, none⟩ v') (.slice (some ⟨g, 0, none⟩) vs.length lc) (vs2.set n v') (midI (bumpA times f.width m A) A (n + 1)) := by rw [← HV2.out]; exact hN
          have HN := Lib.hid hN2
          have hB4 : Below z1.heap.size z1 w4 := (HB10.out.trans (HBd2.out.mono hsz)).grown hgrow (by have := HSZ0.out; omega) (own_row_le HU30.out)
          have HBN : Hid (Below z1.heap.size z1 (w4.setCell ⟨g, n, none⟩ v')) := hB4.setCell HGN.out _
          have hs4 : SameN n1 W2 w4 := ⟨by have := HSN10.out.1; have := hgrow.size; have := HSZ0.out; omega, fun b h1 h2 => (hkk b (by have := HSN10.out.1; omega) (fun e => by rcases HLO.out n _ _ HU.out e with h | h <;> omega)).trans (HSN10.out.2 b h1 h2)⟩
          have HSS := Lib.hid (hs4.setCell (g := g) (k := n) (.inl HGN1.out) v')
          have HLR : Hid (LoR n1 W2.heap.size (vs2.set n v')) := HLO.out.set (fun b hb => by
            rcases hbk b hb with e | e
            · exact HLO.out n _ _ HU.out e
            · right; have := HSN10.out.1; omega)
          have hbx4 : ∀ b ∈ [g, z2.heap.size], w4.heap[b]? = w10.heap[b]? := fun b hb => hkk b (HS2L.out b hb) (HS2N.out b hb)
          have c4 : w4.cell? ⟨g, n, none⟩ = some (.slice ua l0.length uc) := by rw [World.cell?_of_block (hbx4 g (by simp))]; exact HGC.out
          obtain ⟨cur, hcur⟩ : ∃ cur, w4.heap[g]? = some (.cells cur 54 (0, 0)) := by
            obtain ⟨cs, hr⟩ := own_row HO11.out.own (b := g) rfl; exact ⟨cs, (hbx4 g (by simp)).trans hr⟩
          have f4 := frozen_of_row w4 g n _ _ hcur
          obtain ⟨ub4, uc4, rfl, -⟩ := own_read hown'
          clear hown2 hN hokl hcur HOc0 hown' hbk hgrow hblk hN2 hs4
          go_wp2_with fail
          refine ⟨by first | exact ⟨_, keepS_of hbx4⟩ | exact fun _ => ⟨_, keepS_of hbx4⟩, ?_⟩
          clear hbx4 hkk hB4
          refine mix_tail [12, 13] [_, _] _ _ rfl rfl ?_
          simp only [Act.put, List.setIfInBounds_toArray, List.set_cons_succ, List.set_cons_zero, List.getElem_toArray, List.getElem_cons_succ, List.getElem_cons_zero]
          go_wp2_with fail
          go_roundw
          case rel => exact ⟨n + 1, by omega, by go_num, ⟨_, by simpa using HV2.out, HN.out, HLR.out⟩, HSS.out, HBN.out⟩
          case measure => simp [intOf]; omega
    · obtain rfl : n = A.length := by omega
      have hn1 : ¬ ((A.length : Nat) : Int) < (vs.length : Int) := by have := HVL.out; omega
      have hoe : OwnL z1.heap.size w9 (.slice la vs.length lc) vs2 (bumpA times f.width m A) := by have h := ho; rw [midI_end HAL.out] at h; exact h
      have hA1 : (bumpA times f.width m A).length ≤ 1000000 := by rw [HAL.out]; omega
      have hzA1 : ∀ l ∈ (bumpA times f.width m A), l.length ≤ 1000000 := by
        intro l hl
        unfold bumpA at hl
        obtain ⟨l1, h1, rfl⟩ := List.mem_map.1 hl
        have := HS20.out l1 h1
        unfold bumpL
        rw [List.length_append, bumpM_len, List.length_replicate]; omega
      have HWC : Hid (WitC w9 level (bumpA times f.width m A) B I #[.int .i64 level, .slice la vs.length lc, .slice ya vsb.length yc, .bool I]) := ⟨_, _, rfl, (hoe.rd hA1 hzA1).forget, (HQB.out.same (fun b hb hl => HSN9.out.2 b hb hl) (fun _ _ k => k)).forget⟩
      have HGW9 := Lib.hid (HKW.out w9 HSN9.out)
      have HSA1 := Lib.hid hzA1
      have HWI : Hid ((Tryd.prog.info? 65).map (·.size) = some (#[.int .i64 level, .slice la vs.length lc, .slice ya vsb.length yc, .bool I] : Array Value).size) := by show _ = _; kernel_rfl
      clear hoe ho hA1 hzA1 HO HK HV2 hlt hn HO9 HLO HKW
      have B2 := Lib.hid (bcomp B1.out HB9.out)
      have HGF2 := Lib.hid ((HB9.out.block _ (Array.getElem?_eq_some_iff.1 HGF1.out).1).trans HGF1.out)
      have HGP2 := Lib.hid ((HB9.out.block _ (Array.getElem?_eq_some_iff.1 HGP1.out).1).trans HGP1.out)
      have HCK := Lib.hid (check_any f q cF cP _ level (bumpA times f.width m A) B I w9 (HF.out.keep B2.out) (HP.out.keep B2.out) HWC.out (HL.out.keep B2.out) (HT.out.keep B2.out) HLV.out HSA1.out HSB.out)
      rw [HCK0.out] at HCK
      clear HGF1 HGP1 HCK0 HQB
      go_wp2_with (first | (refine wpList_load_row rfl 43 (.tmp 7) rfl w.heap.size rfl 43 cF (0, 0) _ ?l9 Tryd.underlying43 rfl ?i9 ?_; exact HGF2.out; exact HFI.out) | (refine wpList_load_row rfl 46 (.tmp 8) rfl (w.heap.size + 1) rfl 46 cP (0, 0) _ ?l10 Tryd.underlying46 rfl ?i10 ?_; exact HGP2.out; exact HPI.out) | (refine wpList_load_row rfl 65 (.tmp 15) rfl z2.heap.size rfl 65 #[.int .i64 level, .slice la vs.length lc, .slice ya vsb.length yc, .bool I] (0, 0) _ ?l11 Tryd.underlying65 rfl ?i11 ?_; exact HGW9.out; exact HWI.out) | (go_at_call 31; refine HCK.out.mono ?_; rintro e z4 ⟨rfl, hz⟩; have B4 := Lib.hid (bcomp B2.out hz); clear hz; have HAW := Lib.hid (awake7_any z4 (HL.out.keep B4.out) (HT.out.keep B4.out))) | (go_at_call 33; refine HAW.out.mono ?_; rintro e z5 ⟨rfl, hz⟩; have B5 := Lib.hid (bcomp B4.out hz); clear hz))
      go_ret
      exact ⟨rfl, B5.out⟩
end Go.Proofs.YtkjkpddajjmloaaDoor
