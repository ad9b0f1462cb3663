/- Contracts of the reference's Fields, ref and Check of flat programs: called in whatever memory they return what the plain functions say, and write nothing that was there. Condition: what comes in reads as a flat program. -/
import Derived.Test.YtgcfdbhpophnjaaDoorMFc
import Derived.Test.YtgcfdbhpophnjaaDoorMixK
set_option linter.unusedVariables false
set_option linter.unusedSimpArgs false
namespace Go.Proofs.YtgcfdbhpophnjaaDoor
open Go.ChangeShapes Go.WideShapes Go.ChangeAt Go.RowKit
def nK (k : Int) : Bool := decide (2 ≤ k) && decide (k ≤ 8)
def mostR (f : FlatD) (k : Int) : Int := if nK k then mostF f k else 0
abbrev usesV (d n a b : Bool) (m : Int) : Value := .agg #[.bool d, .bool n, .bool a, .bool b, .int .i64 m]
/-- Whether a kind is one, with an operator where it wants one. -/
def isK (k op : Int) : Bool := decide (k ≤ 9) && (k != 1 || (decide (2 ≤ op) && decide (op ≤ 20)))
def bR (k op : Int) : Bool := k == 3 || (k == 1 && arityZ op == 2)
theorem results_cell_tmp {P : Program} {fn : Func} {p u : Tmp} {ty : TypeId} (h : fn.results = #[.cell p ty, .tmp u]) (tmps : Array Value) (w : World) (g : Nat) (t : TypeId) (cs : Array Value) (fr : Nat × Nat) (d : TypeDesc)
    (hp : tmps.getD p undef = .pointer (some ⟨g, 0, none⟩)) (hg : w.heap[g]? = some (.cells cs t fr))
    (hu : P.underlying ty = some d) (hd : (match d with | .struct _ | .array _ _ => true | _ => false) = true) (hi : (P.info? ty).map (·.size) = some cs.size) :
    (results fn tmps).run P w = .ok (.tuple #[.agg cs, tmps.getD u undef]) w := by
  have hp' : tmps[p]?.getD undef = .pointer (some ⟨g, 0, none⟩) := by simpa using hp
  simp [results, h, hp', asAddr, run_loadVar_row w g t ty cs fr d hg hu hd hi]
abbrev noUses : Array Value := #[.bool false, .bool false, .bool false, .bool false, .int .i64 0]
set_option maxRecDepth 100000 in
set_option maxHeartbeats 800000 in
theorem fields0 (f : FlatD) (c : CodeD) (cv sv av kv : Value) (w : World) (hF : RdFlat none w f cv sv av kv) (hk : c.kind = 0) :
    Calls Tryd.prog 54 #[flatV f cv sv av kv, codeV c] w fun e w' => e = .returned (.tuple #[usesV true false true false 0, .bool true]) ∧ Below w.heap.size w w' := by
  obtain ⟨ca, cc, rfl⟩ := hF.1.is
  obtain ⟨sa, sc, rfl⟩ := hF.2.1.is
  obtain ⟨aa, ac, rfl⟩ := hF.2.2.1.is
  obtain ⟨ka, kc, rfl⟩ := hF.2.2.2.1.is
  clear hF
  obtain ⟨ck, co, cd, cn, cra, crb⟩ := c
  simp only at hk
  subst hk
  have H0 : Hid ((((w.alloc (.cells #[.int .i64 f.width, .int .i64 f.regs, .slice ca f.chans.length cc, .slice sa f.sites.length sc, .slice aa f.arrays.length ac, .slice ka f.code.length kc] 32)).alloc (.cells #[.int .u8 0, .int .u8 co, .int .i64 cd, .int .i64 cn, .int .i64 cra.reg, .int .u64 cra.num, .int .i64 crb.reg, .int .u64 crb.num] 48)).alloc (.cells noUses 100)).heap[w.heap.size + 1 + 1]? = some (.cells noUses 100 (0, 0))) := heap3_2 _ _ _ _
  have hb0 : Hid (Below w.heap.size w (((w.alloc (.cells #[.int .i64 f.width, .int .i64 f.regs, .slice ca f.chans.length cc, .slice sa f.sites.length sc, .slice aa f.arrays.length ac, .slice ka f.code.length kc] 32)).alloc (.cells #[.int .u8 0, .int .u8 co, .int .i64 cd, .int .i64 cn, .int .i64 cra.reg, .int .u64 cra.num, .int .i64 crb.reg, .int .u64 crb.num] 48)).alloc (.cells noUses 100))) := (((Below.refl _ _).alloc (Nat.le_refl _) _).alloc (by simp) _).alloc (by simp; omega) _
  go_enter Tryd.func54, Tryd.ntmps54
  go_wp2_with (refine wpList_store_row rfl 100 (.tmp 4) (.tmp 12) rfl (w.heap.size + 1 + 1) #[.bool true, .bool false, .bool true, .bool false, .int .i64 0] rfl rfl 100 noUses ?h2 (by as_aux_lemma => kernel_rfl) (by as_aux_lemma => kernel_rfl) (by as_aux_lemma => kernel_rfl) ?_; exact H0.out)
  refine bodyPost_ret (v := .tuple #[.agg #[.bool true, .bool false, .bool true, .bool false, .int .i64 0], .bool true]) ?_ rfl ⟨rfl, below_row hb0.out (by omega) _⟩
  exact results_cell_tmp (P := Tryd.prog) (fn := Tryd.f54) rfl _ _ (w.heap.size + 1 + 1) 100 #[.bool true, .bool false, .bool true, .bool false, .int .i64 0] (0, 0) _ rfl (setRow_heap _ _ _ _ _ _ H0.out) Tryd.underlying100 rfl (by as_aux_lemma => kernel_rfl)
set_option maxRecDepth 100000 in
set_option maxHeartbeats 800000 in
theorem fields2 (f : FlatD) (c : CodeD) (cv sv av kv : Value) (w : World) (hF : RdFlat none w f cv sv av kv) (hk : c.kind = 2) :
    Calls Tryd.prog 54 #[flatV f cv sv av kv, codeV c] w fun e w' => e = .returned (.tuple #[usesV true true true false f.arrays.length, .bool true]) ∧ Below w.heap.size w w' := by
  obtain ⟨ca, cc, rfl⟩ := hF.1.is
  obtain ⟨sa, sc, rfl⟩ := hF.2.1.is
  obtain ⟨aa, ac, rfl⟩ := hF.2.2.1.is
  obtain ⟨ka, kc, rfl⟩ := hF.2.2.2.1.is
  clear hF
  obtain ⟨ck, co, cd, cn, cra, crb⟩ := c
  simp only at hk
  subst hk
  have H0 : Hid ((((w.alloc (.cells #[.int .i64 f.width, .int .i64 f.regs, .slice ca f.chans.length cc, .slice sa f.sites.length sc, .slice aa f.arrays.length ac, .slice ka f.code.length kc] 32)).alloc (.cells #[.int .u8 2, .int .u8 co, .int .i64 cd, .int .i64 cn, .int .i64 cra.reg, .int .u64 cra.num, .int .i64 crb.reg, .int .u64 crb.num] 48)).alloc (.cells noUses 100)).heap[w.heap.size + 1 + 1]? = some (.cells noUses 100 (0, 0))) := heap3_2 _ _ _ _
  have hb0 : Hid (Below w.heap.size w (((w.alloc (.cells #[.int .i64 f.width, .int .i64 f.regs, .slice ca f.chans.length cc, .slice sa f.sites.length sc, .slice aa f.arrays.length ac, .slice ka f.code.length kc] 32)).alloc (.cells #[.int .u8 2, .int .u8 co, .int .i64 cd, .int .i64 cn, .int .i64 cra.reg, .int .u64 cra.num, .int .i64 crb.reg, .int .u64 crb.num] 48)).alloc (.cells noUses 100))) := (((Below.refl _ _).alloc (Nat.le_refl _) _).alloc (by simp) _).alloc (by simp; omega) _
  go_enter Tryd.func54, Tryd.ntmps54
  go_wp2_with (refine wpList_store_row rfl 100 (.tmp 4) (.tmp 41) rfl (w.heap.size + 1 + 1) #[.bool true, .bool true, .bool true, .bool false, .int .i64 f.arrays.length] rfl rfl 100 noUses ?h2 (by as_aux_lemma => kernel_rfl) (by as_aux_lemma => kernel_rfl) (by as_aux_lemma => kernel_rfl) ?_; exact H0.out)
  refine bodyPost_ret (v := .tuple #[.agg #[.bool true, .bool true, .bool true, .bool false, .int .i64 f.arrays.length], .bool true]) ?_ rfl ⟨rfl, below_row hb0.out (by omega) _⟩
  exact results_cell_tmp (P := Tryd.prog) (fn := Tryd.f54) rfl _ _ (w.heap.size + 1 + 1) 100 #[.bool true, .bool true, .bool true, .bool false, .int .i64 f.arrays.length] (0, 0) _ rfl (setRow_heap _ _ _ _ _ _ H0.out) Tryd.underlying100 rfl (by as_aux_lemma => kernel_rfl)
set_option maxRecDepth 100000 in
set_option maxHeartbeats 800000 in
theorem fields3 (f : FlatD) (c : CodeD) (cv sv av kv : Value) (w : World) (hF : RdFlat none w f cv sv av kv) (hk : c.kind = 3) :
    Calls Tryd.prog 54 #[flatV f cv sv av kv, codeV c] w fun e w' => e = .returned (.tuple #[usesV false true true true f.arrays.length, .bool true]) ∧ Below w.heap.size w w' := by
  obtain ⟨ca, cc, rfl⟩ := hF.1.is
  obtain ⟨sa, sc, rfl⟩ := hF.2.1.is
  obtain ⟨aa, ac, rfl⟩ := hF.2.2.1.is
  obtain ⟨ka, kc, rfl⟩ := hF.2.2.2.1.is
  clear hF
  obtain ⟨ck, co, cd, cn, cra, crb⟩ := c
  simp only at hk
  subst hk
  have H0 : Hid ((((w.alloc (.cells #[.int .i64 f.width, .int .i64 f.regs, .slice ca f.chans.length cc, .slice sa f.sites.length sc, .slice aa f.arrays.length ac, .slice ka f.code.length kc] 32)).alloc (.cells #[.int .u8 3, .int .u8 co, .int .i64 cd, .int .i64 cn, .int .i64 cra.reg, .int .u64 cra.num, .int .i64 crb.reg, .int .u64 crb.num] 48)).alloc (.cells noUses 100)).heap[w.heap.size + 1 + 1]? = some (.cells noUses 100 (0, 0))) := heap3_2 _ _ _ _
  have hb0 : Hid (Below w.heap.size w (((w.alloc (.cells #[.int .i64 f.width, .int .i64 f.regs, .slice ca f.chans.length cc, .slice sa f.sites.length sc, .slice aa f.arrays.length ac, .slice ka f.code.length kc] 32)).alloc (.cells #[.int .u8 3, .int .u8 co, .int .i64 cd, .int .i64 cn, .int .i64 cra.reg, .int .u64 cra.num, .int .i64 crb.reg, .int .u64 crb.num] 48)).alloc (.cells noUses 100))) := (((Below.refl _ _).alloc (Nat.le_refl _) _).alloc (by simp) _).alloc (by simp; omega) _
  go_enter Tryd.func54, Tryd.ntmps54
  go_wp2_with (refine wpList_store_row rfl 100 (.tmp 4) (.tmp 47) rfl (w.heap.size + 1 + 1) #[.bool false, .bool true, .bool true, .bool true, .int .i64 f.arrays.length] rfl rfl 100 noUses ?h2 (by as_aux_lemma => kernel_rfl) (by as_aux_lemma => kernel_rfl) (by as_aux_lemma => kernel_rfl) ?_; exact H0.out)
  refine bodyPost_ret (v := .tuple #[.agg #[.bool false, .bool true, .bool true, .bool true, .int .i64 f.arrays.length], .bool true]) ?_ rfl ⟨rfl, below_row hb0.out (by omega) _⟩
  exact results_cell_tmp (P := Tryd.prog) (fn := Tryd.f54) rfl _ _ (w.heap.size + 1 + 1) 100 #[.bool false, .bool true, .bool true, .bool true, .int .i64 f.arrays.length] (0, 0) _ rfl (setRow_heap _ _ _ _ _ _ H0.out) Tryd.underlying100 rfl (by as_aux_lemma => kernel_rfl)
set_option maxRecDepth 100000 in
set_option maxHeartbeats 800000 in
theorem fields4 (f : FlatD) (c : CodeD) (cv sv av kv : Value) (w : World) (hF : RdFlat none w f cv sv av kv) (hk : c.kind = 4) :
    Calls Tryd.prog 54 #[flatV f cv sv av kv, codeV c] w fun e w' => e = .returned (.tuple #[usesV true true false false f.chans.length, .bool true]) ∧ Below w.heap.size w w' := by
  obtain ⟨ca, cc, rfl⟩ := hF.1.is
  obtain ⟨sa, sc, rfl⟩ := hF.2.1.is
  obtain ⟨aa, ac, rfl⟩ := hF.2.2.1.is
  obtain ⟨ka, kc, rfl⟩ := hF.2.2.2.1.is
  clear hF
  obtain ⟨ck, co, cd, cn, cra, crb⟩ := c
  simp only at hk
  subst hk
  have H0 : Hid ((((w.alloc (.cells #[.int .i64 f.width, .int .i64 f.regs, .slice ca f.chans.length cc, .slice sa f.sites.length sc, .slice aa f.arrays.length ac, .slice ka f.code.length kc] 32)).alloc (.cells #[.int .u8 4, .int .u8 co, .int .i64 cd, .int .i64 cn, .int .i64 cra.reg, .int .u64 cra.num, .int .i64 crb.reg, .int .u64 crb.num] 48)).alloc (.cells noUses 100)).heap[w.heap.size + 1 + 1]? = some (.cells noUses 100 (0, 0))) := heap3_2 _ _ _ _
  have hb0 : Hid (Below w.heap.size w (((w.alloc (.cells #[.int .i64 f.width, .int .i64 f.regs, .slice ca f.chans.length cc, .slice sa f.sites.length sc, .slice aa f.arrays.length ac, .slice ka f.code.length kc] 32)).alloc (.cells #[.int .u8 4, .int .u8 co, .int .i64 cd, .int .i64 cn, .int .i64 cra.reg, .int .u64 cra.num, .int .i64 crb.reg, .int .u64 crb.num] 48)).alloc (.cells noUses 100))) := (((Below.refl _ _).alloc (Nat.le_refl _) _).alloc (by simp) _).alloc (by simp; omega) _
  go_enter Tryd.func54, Tryd.ntmps54
  go_wp2_with (refine wpList_store_row rfl 100 (.tmp 4) (.tmp 53) rfl (w.heap.size + 1 + 1) #[.bool true, .bool true, .bool false, .bool false, .int .i64 f.chans.length] rfl rfl 100 noUses ?h2 (by as_aux_lemma => kernel_rfl) (by as_aux_lemma => kernel_rfl) (by as_aux_lemma => kernel_rfl) ?_; exact H0.out)
  refine bodyPost_ret (v := .tuple #[.agg #[.bool true, .bool true, .bool false, .bool false, .int .i64 f.chans.length], .bool true]) ?_ rfl ⟨rfl, below_row hb0.out (by omega) _⟩
  exact results_cell_tmp (P := Tryd.prog) (fn := Tryd.f54) rfl _ _ (w.heap.size + 1 + 1) 100 #[.bool true, .bool true, .bool false, .bool false, .int .i64 f.chans.length] (0, 0) _ rfl (setRow_heap _ _ _ _ _ _ H0.out) Tryd.underlying100 rfl (by as_aux_lemma => kernel_rfl)
set_option maxRecDepth 100000 in
set_option maxHeartbeats 800000 in
theorem fields5 (f : FlatD) (c : CodeD) (cv sv av kv : Value) (w : World) (hF : RdFlat none w f cv sv av kv) (hk : c.kind = 5) :
    Calls Tryd.prog 54 #[flatV f cv sv av kv, codeV c] w fun e w' => e = .returned (.tuple #[usesV false true true false f.chans.length, .bool true]) ∧ Below w.heap.size w w' := by
  obtain ⟨ca, cc, rfl⟩ := hF.1.is
  obtain ⟨sa, sc, rfl⟩ := hF.2.1.is
  obtain ⟨aa, ac, rfl⟩ := hF.2.2.1.is
  obtain ⟨ka, kc, rfl⟩ := hF.2.2.2.1.is
  clear hF
  obtain ⟨ck, co, cd, cn, cra, crb⟩ := c
  simp only at hk
  subst hk
  have H0 : Hid ((((w.alloc (.cells #[.int .i64 f.width, .int .i64 f.regs, .slice ca f.chans.length cc, .slice sa f.sites.length sc, .slice aa f.arrays.length ac, .slice ka f.code.length kc] 32)).alloc (.cells #[.int .u8 5, .int .u8 co, .int .i64 cd, .int .i64 cn, .int .i64 cra.reg, .int .u64 cra.num, .int .i64 crb.reg, .int .u64 crb.num] 48)).alloc (.cells noUses 100)).heap[w.heap.size + 1 + 1]? = some (.cells noUses 100 (0, 0))) := heap3_2 _ _ _ _
  have hb0 : Hid (Below w.heap.size w (((w.alloc (.cells #[.int .i64 f.width, .int .i64 f.regs, .slice ca f.chans.length cc, .slice sa f.sites.length sc, .slice aa f.arrays.length ac, .slice ka f.code.length kc] 32)).alloc (.cells #[.int .u8 5, .int .u8 co, .int .i64 cd, .int .i64 cn, .int .i64 cra.reg, .int .u64 cra.num, .int .i64 crb.reg, .int .u64 crb.num] 48)).alloc (.cells noUses 100))) := (((Below.refl _ _).alloc (Nat.le_refl _) _).alloc (by simp) _).alloc (by simp; omega) _
  go_enter Tryd.func54, Tryd.ntmps54
  go_wp2_with (refine wpList_store_row rfl 100 (.tmp 4) (.tmp 59) rfl (w.heap.size + 1 + 1) #[.bool false, .bool true, .bool true, .bool false, .int .i64 f.chans.length] rfl rfl 100 noUses ?h2 (by as_aux_lemma => kernel_rfl) (by as_aux_lemma => kernel_rfl) (by as_aux_lemma => kernel_rfl) ?_; exact H0.out)
  refine bodyPost_ret (v := .tuple #[.agg #[.bool false, .bool true, .bool true, .bool false, .int .i64 f.chans.length], .bool true]) ?_ rfl ⟨rfl, below_row hb0.out (by omega) _⟩
  exact results_cell_tmp (P := Tryd.prog) (fn := Tryd.f54) rfl _ _ (w.heap.size + 1 + 1) 100 #[.bool false, .bool true, .bool true, .bool false, .int .i64 f.chans.length] (0, 0) _ rfl (setRow_heap _ _ _ _ _ _ H0.out) Tryd.underlying100 rfl (by as_aux_lemma => kernel_rfl)
set_option maxRecDepth 100000 in
set_option maxHeartbeats 800000 in
theorem fields6 (f : FlatD) (c : CodeD) (cv sv av kv : Value) (w : World) (hF : RdFlat none w f cv sv av kv) (hk : c.kind = 6) :
    Calls Tryd.prog 54 #[flatV f cv sv av kv, codeV c] w fun e w' => e = .returned (.tuple #[usesV true true true false f.sites.length, .bool true]) ∧ Below w.heap.size w w' := by
  obtain ⟨ca, cc, rfl⟩ := hF.1.is
  obtain ⟨sa, sc, rfl⟩ := hF.2.1.is
  obtain ⟨aa, ac, rfl⟩ := hF.2.2.1.is
  obtain ⟨ka, kc, rfl⟩ := hF.2.2.2.1.is
  clear hF
  obtain ⟨ck, co, cd, cn, cra, crb⟩ := c
  simp only at hk
  subst hk
  have H0 : Hid ((((w.alloc (.cells #[.int .i64 f.width, .int .i64 f.regs, .slice ca f.chans.length cc, .slice sa f.sites.length sc, .slice aa f.arrays.length ac, .slice ka f.code.length kc] 32)).alloc (.cells #[.int .u8 6, .int .u8 co, .int .i64 cd, .int .i64 cn, .int .i64 cra.reg, .int .u64 cra.num, .int .i64 crb.reg, .int .u64 crb.num] 48)).alloc (.cells noUses 100)).heap[w.heap.size + 1 + 1]? = some (.cells noUses 100 (0, 0))) := heap3_2 _ _ _ _
  have hb0 : Hid (Below w.heap.size w (((w.alloc (.cells #[.int .i64 f.width, .int .i64 f.regs, .slice ca f.chans.length cc, .slice sa f.sites.length sc, .slice aa f.arrays.length ac, .slice ka f.code.length kc] 32)).alloc (.cells #[.int .u8 6, .int .u8 co, .int .i64 cd, .int .i64 cn, .int .i64 cra.reg, .int .u64 cra.num, .int .i64 crb.reg, .int .u64 crb.num] 48)).alloc (.cells noUses 100))) := (((Below.refl _ _).alloc (Nat.le_refl _) _).alloc (by simp) _).alloc (by simp; omega) _
  go_enter Tryd.func54, Tryd.ntmps54
  go_wp2_with (refine wpList_store_row rfl 100 (.tmp 4) (.tmp 65) rfl (w.heap.size + 1 + 1) #[.bool true, .bool true, .bool true, .bool false, .int .i64 f.sites.length] rfl rfl 100 noUses ?h2 (by as_aux_lemma => kernel_rfl) (by as_aux_lemma => kernel_rfl) (by as_aux_lemma => kernel_rfl) ?_; exact H0.out)
  refine bodyPost_ret (v := .tuple #[.agg #[.bool true, .bool true, .bool true, .bool false, .int .i64 f.sites.length], .bool true]) ?_ rfl ⟨rfl, below_row hb0.out (by omega) _⟩
  exact results_cell_tmp (P := Tryd.prog) (fn := Tryd.f54) rfl _ _ (w.heap.size + 1 + 1) 100 #[.bool true, .bool true, .bool true, .bool false, .int .i64 f.sites.length] (0, 0) _ rfl (setRow_heap _ _ _ _ _ _ H0.out) Tryd.underlying100 rfl (by as_aux_lemma => kernel_rfl)
set_option maxRecDepth 100000 in
set_option maxHeartbeats 800000 in
theorem fields7 (f : FlatD) (c : CodeD) (cv sv av kv : Value) (w : World) (hF : RdFlat none w f cv sv av kv) (hk : c.kind = 7) :
    Calls Tryd.prog 54 #[flatV f cv sv av kv, codeV c] w fun e w' => e = .returned (.tuple #[usesV false true false false f.code.length, .bool true]) ∧ Below w.heap.size w w' := by
  obtain ⟨ca, cc, rfl⟩ := hF.1.is
  obtain ⟨sa, sc, rfl⟩ := hF.2.1.is
  obtain ⟨aa, ac, rfl⟩ := hF.2.2.1.is
  obtain ⟨ka, kc, rfl⟩ := hF.2.2.2.1.is
  clear hF
  obtain ⟨ck, co, cd, cn, cra, crb⟩ := c
  simp only at hk
  subst hk
  have H0 : Hid ((((w.alloc (.cells #[.int .i64 f.width, .int .i64 f.regs, .slice ca f.chans.length cc, .slice sa f.sites.length sc, .slice aa f.arrays.length ac, .slice ka f.code.length kc] 32)).alloc (.cells #[.int .u8 7, .int .u8 co, .int .i64 cd, .int .i64 cn, .int .i64 cra.reg, .int .u64 cra.num, .int .i64 crb.reg, .int .u64 crb.num] 48)).alloc (.cells noUses 100)).heap[w.heap.size + 1 + 1]? = some (.cells noUses 100 (0, 0))) := heap3_2 _ _ _ _
  have hb0 : Hid (Below w.heap.size w (((w.alloc (.cells #[.int .i64 f.width, .int .i64 f.regs, .slice ca f.chans.length cc, .slice sa f.sites.length sc, .slice aa f.arrays.length ac, .slice ka f.code.length kc] 32)).alloc (.cells #[.int .u8 7, .int .u8 co, .int .i64 cd, .int .i64 cn, .int .i64 cra.reg, .int .u64 cra.num, .int .i64 crb.reg, .int .u64 crb.num] 48)).alloc (.cells noUses 100))) := (((Below.refl _ _).alloc (Nat.le_refl _) _).alloc (by simp) _).alloc (by simp; omega) _
  go_enter Tryd.func54, Tryd.ntmps54
  go_wp2_with (refine wpList_store_row rfl 100 (.tmp 4) (.tmp 71) rfl (w.heap.size + 1 + 1) #[.bool false, .bool true, .bool false, .bool false, .int .i64 f.code.length] rfl rfl 100 noUses ?h2 (by as_aux_lemma => kernel_rfl) (by as_aux_lemma => kernel_rfl) (by as_aux_lemma => kernel_rfl) ?_; exact H0.out)
  refine bodyPost_ret (v := .tuple #[.agg #[.bool false, .bool true, .bool false, .bool false, .int .i64 f.code.length], .bool true]) ?_ rfl ⟨rfl, below_row hb0.out (by omega) _⟩
  exact results_cell_tmp (P := Tryd.prog) (fn := Tryd.f54) rfl _ _ (w.heap.size + 1 + 1) 100 #[.bool false, .bool true, .bool false, .bool false, .int .i64 f.code.length] (0, 0) _ rfl (setRow_heap _ _ _ _ _ _ H0.out) Tryd.underlying100 rfl (by as_aux_lemma => kernel_rfl)
set_option maxRecDepth 100000 in
set_option maxHeartbeats 800000 in
theorem fields8 (f : FlatD) (c : CodeD) (cv sv av kv : Value) (w : World) (hF : RdFlat none w f cv sv av kv) (hk : c.kind = 8) :
    Calls Tryd.prog 54 #[flatV f cv sv av kv, codeV c] w fun e w' => e = .returned (.tuple #[usesV false true true false f.code.length, .bool true]) ∧ Below w.heap.size w w' := by
  obtain ⟨ca, cc, rfl⟩ := hF.1.is
  obtain ⟨sa, sc, rfl⟩ := hF.2.1.is
  obtain ⟨aa, ac, rfl⟩ := hF.2.2.1.is
  obtain ⟨ka, kc, rfl⟩ := hF.2.2.2.1.is
  clear hF
  obtain ⟨ck, co, cd, cn, cra, crb⟩ := c
  simp only at hk
  subst hk
  have H0 : Hid ((((w.alloc (.cells #[.int .i64 f.width, .int .i64 f.regs, .slice ca f.chans.length cc, .slice sa f.sites.length sc, .slice aa f.arrays.length ac, .slice ka f.code.length kc] 32)).alloc (.cells #[.int .u8 8, .int .u8 co, .int .i64 cd, .int .i64 cn, .int .i64 cra.reg, .int .u64 cra.num, .int .i64 crb.reg, .int .u64 crb.num] 48)).alloc (.cells noUses 100)).heap[w.heap.size + 1 + 1]? = some (.cells noUses 100 (0, 0))) := heap3_2 _ _ _ _
  have hb0 : Hid (Below w.heap.size w (((w.alloc (.cells #[.int .i64 f.width, .int .i64 f.regs, .slice ca f.chans.length cc, .slice sa f.sites.length sc, .slice aa f.arrays.length ac, .slice ka f.code.length kc] 32)).alloc (.cells #[.int .u8 8, .int .u8 co, .int .i64 cd, .int .i64 cn, .int .i64 cra.reg, .int .u64 cra.num, .int .i64 crb.reg, .int .u64 crb.num] 48)).alloc (.cells noUses 100))) := (((Below.refl _ _).alloc (Nat.le_refl _) _).alloc (by simp) _).alloc (by simp; omega) _
  go_enter Tryd.func54, Tryd.ntmps54
  go_wp2_with (refine wpList_store_row rfl 100 (.tmp 4) (.tmp 77) rfl (w.heap.size + 1 + 1) #[.bool false, .bool true, .bool true, .bool false, .int .i64 f.code.length] rfl rfl 100 noUses ?h2 (by as_aux_lemma => kernel_rfl) (by as_aux_lemma => kernel_rfl) (by as_aux_lemma => kernel_rfl) ?_; exact H0.out)
  refine bodyPost_ret (v := .tuple #[.agg #[.bool false, .bool true, .bool true, .bool false, .int .i64 f.code.length], .bool true]) ?_ rfl ⟨rfl, below_row hb0.out (by omega) _⟩
  exact results_cell_tmp (P := Tryd.prog) (fn := Tryd.f54) rfl _ _ (w.heap.size + 1 + 1) 100 #[.bool false, .bool true, .bool true, .bool false, .int .i64 f.code.length] (0, 0) _ rfl (setRow_heap _ _ _ _ _ _ H0.out) Tryd.underlying100 rfl (by as_aux_lemma => kernel_rfl)
set_option maxRecDepth 100000 in
set_option maxHeartbeats 800000 in
theorem fields9 (f : FlatD) (c : CodeD) (cv sv av kv : Value) (w : World) (hF : RdFlat none w f cv sv av kv) (hk : c.kind = 9) :
    Calls Tryd.prog 54 #[flatV f cv sv av kv, codeV c] w fun e w' => e = .returned (.tuple #[usesV false false false false 0, .bool true]) ∧ Below w.heap.size w w' := by
  obtain ⟨ca, cc, rfl⟩ := hF.1.is
  obtain ⟨sa, sc, rfl⟩ := hF.2.1.is
  obtain ⟨aa, ac, rfl⟩ := hF.2.2.1.is
  obtain ⟨ka, kc, rfl⟩ := hF.2.2.2.1.is
  clear hF
  obtain ⟨ck, co, cd, cn, cra, crb⟩ := c
  simp only at hk
  subst hk
  have H0 : Hid ((((w.alloc (.cells #[.int .i64 f.width, .int .i64 f.regs, .slice ca f.chans.length cc, .slice sa f.sites.length sc, .slice aa f.arrays.length ac, .slice ka f.code.length kc] 32)).alloc (.cells #[.int .u8 9, .int .u8 co, .int .i64 cd, .int .i64 cn, .int .i64 cra.reg, .int .u64 cra.num, .int .i64 crb.reg, .int .u64 crb.num] 48)).alloc (.cells noUses 100)).heap[w.heap.size + 1 + 1]? = some (.cells noUses 100 (0, 0))) := heap3_2 _ _ _ _
  have hb0 : Hid (Below w.heap.size w (((w.alloc (.cells #[.int .i64 f.width, .int .i64 f.regs, .slice ca f.chans.length cc, .slice sa f.sites.length sc, .slice aa f.arrays.length ac, .slice ka f.code.length kc] 32)).alloc (.cells #[.int .u8 9, .int .u8 co, .int .i64 cd, .int .i64 cn, .int .i64 cra.reg, .int .u64 cra.num, .int .i64 crb.reg, .int .u64 crb.num] 48)).alloc (.cells noUses 100))) := (((Below.refl _ _).alloc (Nat.le_refl _) _).alloc (by simp) _).alloc (by simp; omega) _
  go_enter Tryd.func54, Tryd.ntmps54
  go_wp2_with (refine wpList_store_row rfl 100 (.tmp 4) (.tmp 80) rfl (w.heap.size + 1 + 1) #[.bool false, .bool false, .bool false, .bool false, .int .i64 0] rfl rfl 100 noUses ?h2 (by as_aux_lemma => kernel_rfl) (by as_aux_lemma => kernel_rfl) (by as_aux_lemma => kernel_rfl) ?_; exact H0.out)
  refine bodyPost_ret (v := .tuple #[.agg #[.bool false, .bool false, .bool false, .bool false, .int .i64 0], .bool true]) ?_ rfl ⟨rfl, below_row hb0.out (by omega) _⟩
  exact results_cell_tmp (P := Tryd.prog) (fn := Tryd.f54) rfl _ _ (w.heap.size + 1 + 1) 100 #[.bool false, .bool false, .bool false, .bool false, .int .i64 0] (0, 0) _ rfl (setRow_heap _ _ _ _ _ _ H0.out) Tryd.underlying100 rfl (by as_aux_lemma => kernel_rfl)
set_option maxRecDepth 100000 in
set_option maxHeartbeats 1600000 in
theorem fields1a (f : FlatD) (co cd cn : Int) (cra crb : RefD) (cv sv av kv : Value) (w : World) (hF : RdFlat none w f cv sv av kv) (hco : 0 ≤ co) (ho : co < 2) :
    Calls Tryd.prog 54 #[flatV f cv sv av kv, codeV ⟨1, co, cd, cn, cra, crb⟩] w fun e w' => e = .returned (.tuple #[usesV true false true (arityZ co == 2) 0, .bool false]) ∧ Below w.heap.size w w' := by
  obtain ⟨ca, cc, rfl⟩ := hF.1.is
  obtain ⟨sa, sc, rfl⟩ := hF.2.1.is
  obtain ⟨aa, ac, rfl⟩ := hF.2.2.1.is
  obtain ⟨ka, kc, rfl⟩ := hF.2.2.2.1.is
  clear hF
  have q1 : (arityErr co == 0) = true := by unfold arityErr; rw [if_neg (by omega)]; rfl
  have q2 : decide (2 ≤ co) = false := decide_eq_false (by omega)
  have H0 : Hid ((((w.alloc (.cells #[.int .i64 f.width, .int .i64 f.regs, .slice ca f.chans.length cc, .slice sa f.sites.length sc, .slice aa f.arrays.length ac, .slice ka f.code.length kc] 32)).alloc (.cells #[.int .u8 1, .int .u8 co, .int .i64 cd, .int .i64 cn, .int .i64 cra.reg, .int .u64 cra.num, .int .i64 crb.reg, .int .u64 crb.num] 48)).alloc (.cells noUses 100)).heap[w.heap.size + 1 + 1]? = some (.cells noUses 100 (0, 0))) := heap3_2 _ _ _ _
  have g1 := heap3_1 w (.cells #[.int .i64 f.width, .int .i64 f.regs, .slice ca f.chans.length cc, .slice sa f.sites.length sc, .slice aa f.arrays.length ac, .slice ka f.code.length kc] 32) (.cells #[.int .u8 1, .int .u8 co, .int .i64 cd, .int .i64 cn, .int .i64 cra.reg, .int .u64 cra.num, .int .i64 crb.reg, .int .u64 crb.num] 48) (.cells noUses 100)
  have hb0 : Hid (Below w.heap.size w (((w.alloc (.cells #[.int .i64 f.width, .int .i64 f.regs, .slice ca f.chans.length cc, .slice sa f.sites.length sc, .slice aa f.arrays.length ac, .slice ka f.code.length kc] 32)).alloc (.cells #[.int .u8 1, .int .u8 co, .int .i64 cd, .int .i64 cn, .int .i64 cra.reg, .int .u64 cra.num, .int .i64 crb.reg, .int .u64 crb.num] 48)).alloc (.cells noUses 100))) := (((Below.refl _ _).alloc (Nat.le_refl _) _).alloc (by simp) _).alloc (by simp; omega) _
  generalize hy : arityZ co = y at *
  generalize hx : (y == 2) = xb at *
  go_enter Tryd.func54, Tryd.ntmps54
  go_upto_region 1 with fail
  have e0 := row_of g1 0 (.int .u8 1) rfl
  have e1 := row_of g1 1 (.int .u8 co) rfl
  clear g1
  generalize (((w.alloc (.cells #[.int .i64 f.width, .int .i64 f.regs, .slice ca f.chans.length cc, .slice sa f.sites.length sc, .slice aa f.arrays.length ac, .slice ka f.code.length kc] 32)).alloc (.cells #[.int .u8 1, .int .u8 co, .int .i64 cd, .int .i64 cn, .int .i64 cra.reg, .int .u64 cra.num, .int .i64 crb.reg, .int .u64 crb.num] 48)).alloc (.cells noUses 100)) = W0 at *
  go_upto_region 6 with (go_at_call 85; refine (refArity _ _).mono ?_; rintro e w2 ⟨rfl, rfl⟩; rw [hy])
  refine wp_region_mixK (w.heap.size + 1) (.one [0, 1, 2, 3, 4, 5, 6, 7, 8, 9, 10, 11, 12, 13, 14] 15 (tailOf [16])) (fun j => decide (16 ≤ j)) (by kernel_rfl) (by kernel_rfl) rfl (by kernel_rfl) (fun _ d _ _ _ h => by cases d <;> exact h) ?_
  have l1 := keepB_cell e1
  have G := Lib.hid H0.out
  have HB : Hid (Below w.heap.size w W0.drew) := bcomp hb0.out (Below.refl _ _).drew
  refine mix_one (by simp only [opsOf, List.filterMap_cons, List.filterMap_nil, List.getElem?_toArray, List.getElem?_cons_succ, List.getElem?_cons_zero]; rfl) ⟨_, keepB_of rfl⟩ ?_
  change wpQuiet _ _ _ _ [_, _, _, _, _, _, _, _, _, _, _, _, _, _, _] _
  (repeat (go_big_quiet_step (fail)))
  refine wpQuiet_nil ?_
  refine mix_step rfl ?_
  go_wp2_with (refine wpList_store_row rfl 100 (.tmp 4) (.tmp 23) rfl (w.heap.size + 1 + 1) #[.bool true, .bool false, .bool true, .bool xb, .int .i64 0] rfl rfl 100 noUses ?h2 (by as_aux_lemma => kernel_rfl) (by as_aux_lemma => kernel_rfl) (by as_aux_lemma => kernel_rfl) ?_; exact G.out)
  refine ⟨fun _ => ⟨_, keepB_of (setRow_other _ _ _ _ (by omega))⟩, ?_⟩
  refine mix_tail [16] [_] _ _ rfl rfl ?_
  go_wp2_with fail
  refine bodyPost_ret (v := .tuple #[.agg #[.bool true, .bool false, .bool true, .bool xb, .int .i64 0], .bool false]) ?_ rfl ⟨rfl, below_row HB.out (by omega) _⟩
  exact results_cell_tmp (P := Tryd.prog) (fn := Tryd.f54) rfl _ _ (w.heap.size + 1 + 1) 100 #[.bool true, .bool false, .bool true, .bool xb, .int .i64 0] (0, 0) _ rfl (setRow_heap _ _ _ _ _ _ G.out) Tryd.underlying100 rfl (by as_aux_lemma => kernel_rfl)
set_option maxRecDepth 100000 in
set_option maxHeartbeats 1600000 in
theorem fields1b (f : FlatD) (co cd cn : Int) (cra crb : RefD) (cv sv av kv : Value) (w : World) (hF : RdFlat none w f cv sv av kv) (hco : 0 ≤ co) (ho : 2 ≤ co ∧ co ≤ 20) :
    Calls Tryd.prog 54 #[flatV f cv sv av kv, codeV ⟨1, co, cd, cn, cra, crb⟩] w fun e w' => e = .returned (.tuple #[usesV true false true (arityZ co == 2) 0, .bool true]) ∧ Below w.heap.size w w' := by
  obtain ⟨ca, cc, rfl⟩ := hF.1.is
  obtain ⟨sa, sc, rfl⟩ := hF.2.1.is
  obtain ⟨aa, ac, rfl⟩ := hF.2.2.1.is
  obtain ⟨ka, kc, rfl⟩ := hF.2.2.2.1.is
  clear hF
  have q1 : (arityErr co == 0) = true := by unfold arityErr; rw [if_neg (by omega)]; rfl
  have q2 : decide (2 ≤ co) = true := decide_eq_true ho.1
  have q3 : decide (co ≤ 20) = true := decide_eq_true ho.2
  have H0 : Hid ((((w.alloc (.cells #[.int .i64 f.width, .int .i64 f.regs, .slice ca f.chans.length cc, .slice sa f.sites.length sc, .slice aa f.arrays.length ac, .slice ka f.code.length kc] 32)).alloc (.cells #[.int .u8 1, .int .u8 co, .int .i64 cd, .int .i64 cn, .int .i64 cra.reg, .int .u64 cra.num, .int .i64 crb.reg, .int .u64 crb.num] 48)).alloc (.cells noUses 100)).heap[w.heap.size + 1 + 1]? = some (.cells noUses 100 (0, 0))) := heap3_2 _ _ _ _
  have g1 := heap3_1 w (.cells #[.int .i64 f.width, .int .i64 f.regs, .slice ca f.chans.length cc, .slice sa f.sites.length sc, .slice aa f.arrays.length ac, .slice ka f.code.length kc] 32) (.cells #[.int .u8 1, .int .u8 co, .int .i64 cd, .int .i64 cn, .int .i64 cra.reg, .int .u64 cra.num, .int .i64 crb.reg, .int .u64 crb.num] 48) (.cells noUses 100)
  have hb0 : Hid (Below w.heap.size w (((w.alloc (.cells #[.int .i64 f.width, .int .i64 f.regs, .slice ca f.chans.length cc, .slice sa f.sites.length sc, .slice aa f.arrays.length ac, .slice ka f.code.length kc] 32)).alloc (.cells #[.int .u8 1, .int .u8 co, .int .i64 cd, .int .i64 cn, .int .i64 cra.reg, .int .u64 cra.num, .int .i64 crb.reg, .int .u64 crb.num] 48)).alloc (.cells noUses 100))) := (((Below.refl _ _).alloc (Nat.le_refl _) _).alloc (by simp) _).alloc (by simp; omega) _
  generalize hy : arityZ co = y at *
  generalize hx : (y == 2) = xb at *
  go_enter Tryd.func54, Tryd.ntmps54
  go_upto_region 1 with fail
  have e0 := row_of g1 0 (.int .u8 1) rfl
  have e1 := row_of g1 1 (.int .u8 co) rfl
  clear g1
  generalize (((w.alloc (.cells #[.int .i64 f.width, .int .i64 f.regs, .slice ca f.chans.length cc, .slice sa f.sites.length sc, .slice aa f.arrays.length ac, .slice ka f.code.length kc] 32)).alloc (.cells #[.int .u8 1, .int .u8 co, .int .i64 cd, .int .i64 cn, .int .i64 cra.reg, .int .u64 cra.num, .int .i64 crb.reg, .int .u64 crb.num] 48)).alloc (.cells noUses 100)) = W0 at *
  go_upto_region 6 with (go_at_call 85; refine (refArity _ _).mono ?_; rintro e w2 ⟨rfl, rfl⟩; rw [hy])
  refine wp_region_mixK (w.heap.size + 1) (.one [0, 1, 2, 3, 4, 5, 6, 7, 8, 9, 10, 11, 12, 13, 14] 15 (tailOf [16])) (fun j => decide (16 ≤ j)) (by kernel_rfl) (by kernel_rfl) rfl (by kernel_rfl) (fun _ d _ _ _ h => by cases d <;> exact h) ?_
  have l1 := keepB_cell e1
  have G := Lib.hid H0.out
  have HB : Hid (Below w.heap.size w W0.drew) := bcomp hb0.out (Below.refl _ _).drew
  refine mix_one (by simp only [opsOf, List.filterMap_cons, List.filterMap_nil, List.getElem?_toArray, List.getElem?_cons_succ, List.getElem?_cons_zero]; rfl) ⟨_, keepB_of rfl⟩ ?_
  change wpQuiet _ _ _ _ [_, _, _, _, _, _, _, _, _, _, _, _, _, _, _] _
  (repeat (go_big_quiet_step (fail)))
  refine wpQuiet_nil ?_
  refine mix_step rfl ?_
  go_wp2_with (refine wpList_store_row rfl 100 (.tmp 4) (.tmp 23) rfl (w.heap.size + 1 + 1) #[.bool true, .bool false, .bool true, .bool xb, .int .i64 0] rfl rfl 100 noUses ?h2 (by as_aux_lemma => kernel_rfl) (by as_aux_lemma => kernel_rfl) (by as_aux_lemma => kernel_rfl) ?_; exact G.out)
  refine ⟨fun _ => ⟨_, keepB_of (setRow_other _ _ _ _ (by omega))⟩, ?_⟩
  refine mix_tail [16] [_] _ _ rfl rfl ?_
  go_wp2_with fail
  refine bodyPost_ret (v := .tuple #[.agg #[.bool true, .bool false, .bool true, .bool xb, .int .i64 0], .bool true]) ?_ rfl ⟨rfl, below_row HB.out (by omega) _⟩
  exact results_cell_tmp (P := Tryd.prog) (fn := Tryd.f54) rfl _ _ (w.heap.size + 1 + 1) 100 #[.bool true, .bool false, .bool true, .bool xb, .int .i64 0] (0, 0) _ rfl (setRow_heap _ _ _ _ _ _ G.out) Tryd.underlying100 rfl (by as_aux_lemma => kernel_rfl)
set_option maxRecDepth 100000 in
set_option maxHeartbeats 1600000 in
theorem fields1c (f : FlatD) (co cd cn : Int) (cra crb : RefD) (cv sv av kv : Value) (w : World) (hF : RdFlat none w f cv sv av kv) (hco : 0 ≤ co) (ho : 20 < co ∧ co ≤ 21) :
    Calls Tryd.prog 54 #[flatV f cv sv av kv, codeV ⟨1, co, cd, cn, cra, crb⟩] w fun e w' => e = .returned (.tuple #[usesV true false true (arityZ co == 2) 0, .bool false]) ∧ Below w.heap.size w w' := by
  obtain ⟨ca, cc, rfl⟩ := hF.1.is
  obtain ⟨sa, sc, rfl⟩ := hF.2.1.is
  obtain ⟨aa, ac, rfl⟩ := hF.2.2.1.is
  obtain ⟨ka, kc, rfl⟩ := hF.2.2.2.1.is
  clear hF
  have q1 : (arityErr co == 0) = true := by unfold arityErr; rw [if_neg (by omega)]; rfl
  have q2 : decide (2 ≤ co) = true := decide_eq_true (by omega)
  have q3 : decide (co ≤ 20) = false := decide_eq_false (by omega)
  have H0 : Hid ((((w.alloc (.cells #[.int .i64 f.width, .int .i64 f.regs, .slice ca f.chans.length cc, .slice sa f.sites.length sc, .slice aa f.arrays.length ac, .slice ka f.code.length kc] 32)).alloc (.cells #[.int .u8 1, .int .u8 co, .int .i64 cd, .int .i64 cn, .int .i64 cra.reg, .int .u64 cra.num, .int .i64 crb.reg, .int .u64 crb.num] 48)).alloc (.cells noUses 100)).heap[w.heap.size + 1 + 1]? = some (.cells noUses 100 (0, 0))) := heap3_2 _ _ _ _
  have g1 := heap3_1 w (.cells #[.int .i64 f.width, .int .i64 f.regs, .slice ca f.chans.length cc, .slice sa f.sites.length sc, .slice aa f.arrays.length ac, .slice ka f.code.length kc] 32) (.cells #[.int .u8 1, .int .u8 co, .int .i64 cd, .int .i64 cn, .int .i64 cra.reg, .int .u64 cra.num, .int .i64 crb.reg, .int .u64 crb.num] 48) (.cells noUses 100)
  have hb0 : Hid (Below w.heap.size w (((w.alloc (.cells #[.int .i64 f.width, .int .i64 f.regs, .slice ca f.chans.length cc, .slice sa f.sites.length sc, .slice aa f.arrays.length ac, .slice ka f.code.length kc] 32)).alloc (.cells #[.int .u8 1, .int .u8 co, .int .i64 cd, .int .i64 cn, .int .i64 cra.reg, .int .u64 cra.num, .int .i64 crb.reg, .int .u64 crb.num] 48)).alloc (.cells noUses 100))) := (((Below.refl _ _).alloc (Nat.le_refl _) _).alloc (by simp) _).alloc (by simp; omega) _
  generalize hy : arityZ co = y at *
  generalize hx : (y == 2) = xb at *
  go_enter Tryd.func54, Tryd.ntmps54
  go_upto_region 1 with fail
  have e0 := row_of g1 0 (.int .u8 1) rfl
  have e1 := row_of g1 1 (.int .u8 co) rfl
  clear g1
  generalize (((w.alloc (.cells #[.int .i64 f.width, .int .i64 f.regs, .slice ca f.chans.length cc, .slice sa f.sites.length sc, .slice aa f.arrays.length ac, .slice ka f.code.length kc] 32)).alloc (.cells #[.int .u8 1, .int .u8 co, .int .i64 cd, .int .i64 cn, .int .i64 cra.reg, .int .u64 cra.num, .int .i64 crb.reg, .int .u64 crb.num] 48)).alloc (.cells noUses 100)) = W0 at *
  go_upto_region 6 with (go_at_call 85; refine (refArity _ _).mono ?_; rintro e w2 ⟨rfl, rfl⟩; rw [hy])
  refine wp_region_mixK (w.heap.size + 1) (.one [0, 1, 2, 3, 4, 5, 6, 7, 8, 9, 10, 11, 12, 13, 14] 15 (tailOf [16])) (fun j => decide (16 ≤ j)) (by kernel_rfl) (by kernel_rfl) rfl (by kernel_rfl) (fun _ d _ _ _ h => by cases d <;> exact h) ?_
  have l1 := keepB_cell e1
  have G := Lib.hid H0.out
  have HB : Hid (Below w.heap.size w W0.drew) := bcomp hb0.out (Below.refl _ _).drew
  refine mix_one (by simp only [opsOf, List.filterMap_cons, List.filterMap_nil, List.getElem?_toArray, List.getElem?_cons_succ, List.getElem?_cons_zero]; rfl) ⟨_, keepB_of rfl⟩ ?_
  change wpQuiet _ _ _ _ [_, _, _, _, _, _, _, _, _, _, _, _, _, _, _] _
  (repeat (go_big_quiet_step (fail)))
  refine wpQuiet_nil ?_
  refine mix_step rfl ?_
  go_wp2_with (refine wpList_store_row rfl 100 (.tmp 4) (.tmp 23) rfl (w.heap.size + 1 + 1) #[.bool true, .bool false, .bool true, .bool xb, .int .i64 0] rfl rfl 100 noUses ?h2 (by as_aux_lemma => kernel_rfl) (by as_aux_lemma => kernel_rfl) (by as_aux_lemma => kernel_rfl) ?_; exact G.out)
  refine ⟨fun _ => ⟨_, keepB_of (setRow_other _ _ _ _ (by omega))⟩, ?_⟩
  refine mix_tail [16] [_] _ _ rfl rfl ?_
  go_wp2_with fail
  refine bodyPost_ret (v := .tuple #[.agg #[.bool true, .bool false, .bool true, .bool xb, .int .i64 0], .bool false]) ?_ rfl ⟨rfl, below_row HB.out (by omega) _⟩
  exact results_cell_tmp (P := Tryd.prog) (fn := Tryd.f54) rfl _ _ (w.heap.size + 1 + 1) 100 #[.bool true, .bool false, .bool true, .bool xb, .int .i64 0] (0, 0) _ rfl (setRow_heap _ _ _ _ _ _ G.out) Tryd.underlying100 rfl (by as_aux_lemma => kernel_rfl)
set_option maxRecDepth 100000 in
set_option maxHeartbeats 1600000 in
theorem fields1d (f : FlatD) (co cd cn : Int) (cra crb : RefD) (cv sv av kv : Value) (w : World) (hF : RdFlat none w f cv sv av kv) (hco : 0 ≤ co) (ho : 21 < co) :
    Calls Tryd.prog 54 #[flatV f cv sv av kv, codeV ⟨1, co, cd, cn, cra, crb⟩] w fun e w' => e = .returned (.tuple #[usesV true false true (arityZ co == 2) 0, .bool false]) ∧ Below w.heap.size w w' := by
  obtain ⟨ca, cc, rfl⟩ := hF.1.is
  obtain ⟨sa, sc, rfl⟩ := hF.2.1.is
  obtain ⟨aa, ac, rfl⟩ := hF.2.2.1.is
  obtain ⟨ka, kc, rfl⟩ := hF.2.2.2.1.is
  clear hF
  have q1 : (arityErr co == 0) = false := by unfold arityErr; rw [if_pos (by omega)]; rfl
  have H0 : Hid ((((w.alloc (.cells #[.int .i64 f.width, .int .i64 f.regs, .slice ca f.chans.length cc, .slice sa f.sites.length sc, .slice aa f.arrays.length ac, .slice ka f.code.length kc] 32)).alloc (.cells #[.int .u8 1, .int .u8 co, .int .i64 cd, .int .i64 cn, .int .i64 cra.reg, .int .u64 cra.num, .int .i64 crb.reg, .int .u64 crb.num] 48)).alloc (.cells noUses 100)).heap[w.heap.size + 1 + 1]? = some (.cells noUses 100 (0, 0))) := heap3_2 _ _ _ _
  have g1 := heap3_1 w (.cells #[.int .i64 f.width, .int .i64 f.regs, .slice ca f.chans.length cc, .slice sa f.sites.length sc, .slice aa f.arrays.length ac, .slice ka f.code.length kc] 32) (.cells #[.int .u8 1, .int .u8 co, .int .i64 cd, .int .i64 cn, .int .i64 cra.reg, .int .u64 cra.num, .int .i64 crb.reg, .int .u64 crb.num] 48) (.cells noUses 100)
  have hb0 : Hid (Below w.heap.size w (((w.alloc (.cells #[.int .i64 f.width, .int .i64 f.regs, .slice ca f.chans.length cc, .slice sa f.sites.length sc, .slice aa f.arrays.length ac, .slice ka f.code.length kc] 32)).alloc (.cells #[.int .u8 1, .int .u8 co, .int .i64 cd, .int .i64 cn, .int .i64 cra.reg, .int .u64 cra.num, .int .i64 crb.reg, .int .u64 crb.num] 48)).alloc (.cells noUses 100))) := (((Below.refl _ _).alloc (Nat.le_refl _) _).alloc (by simp) _).alloc (by simp; omega) _
  generalize hy : arityZ co = y at *
  generalize hx : (y == 2) = xb at *
  go_enter Tryd.func54, Tryd.ntmps54
  go_upto_region 1 with fail
  have e0 := row_of g1 0 (.int .u8 1) rfl
  have e1 := row_of g1 1 (.int .u8 co) rfl
  clear g1
  generalize (((w.alloc (.cells #[.int .i64 f.width, .int .i64 f.regs, .slice ca f.chans.length cc, .slice sa f.sites.length sc, .slice aa f.arrays.length ac, .slice ka f.code.length kc] 32)).alloc (.cells #[.int .u8 1, .int .u8 co, .int .i64 cd, .int .i64 cn, .int .i64 cra.reg, .int .u64 cra.num, .int .i64 crb.reg, .int .u64 crb.num] 48)).alloc (.cells noUses 100)) = W0 at *
  go_upto_region 6 with (go_at_call 85; refine (refArity _ _).mono ?_; rintro e w2 ⟨rfl, rfl⟩; rw [hy])
  refine wp_region_mixK (w.heap.size + 1) (.one [0, 1, 2, 3, 4, 5, 6, 7, 8, 9, 10, 11, 12, 13, 14] 15 (tailOf [16])) (fun j => decide (16 ≤ j)) (by kernel_rfl) (by kernel_rfl) rfl (by kernel_rfl) (fun _ d _ _ _ h => by cases d <;> exact h) ?_
  have l1 := keepB_cell e1
  have G := Lib.hid H0.out
  have HB : Hid (Below w.heap.size w W0.drew) := bcomp hb0.out (Below.refl _ _).drew
  refine mix_one (by simp only [opsOf, List.filterMap_cons, List.filterMap_nil, List.getElem?_toArray, List.getElem?_cons_succ, List.getElem?_cons_zero]; rfl) ⟨_, keepB_of rfl⟩ ?_
  change wpQuiet _ _ _ _ [_, _, _, _, _, _, _, _, _, _, _, _, _, _, _] _
  (repeat (go_big_quiet_step (fail)))
  refine wpQuiet_nil ?_
  refine mix_step rfl ?_
  go_wp2_with (refine wpList_store_row rfl 100 (.tmp 4) (.tmp 23) rfl (w.heap.size + 1 + 1) #[.bool true, .bool false, .bool true, .bool xb, .int .i64 0] rfl rfl 100 noUses ?h2 (by as_aux_lemma => kernel_rfl) (by as_aux_lemma => kernel_rfl) (by as_aux_lemma => kernel_rfl) ?_; exact G.out)
  refine ⟨fun _ => ⟨_, keepB_of (setRow_other _ _ _ _ (by omega))⟩, ?_⟩
  refine mix_tail [16] [_] _ _ rfl rfl ?_
  go_wp2_with fail
  refine bodyPost_ret (v := .tuple #[.agg #[.bool true, .bool false, .bool true, .bool xb, .int .i64 0], .bool false]) ?_ rfl ⟨rfl, below_row HB.out (by omega) _⟩
  exact results_cell_tmp (P := Tryd.prog) (fn := Tryd.f54) rfl _ _ (w.heap.size + 1 + 1) 100 #[.bool true, .bool false, .bool true, .bool xb, .int .i64 0] (0, 0) _ rfl (setRow_heap _ _ _ _ _ _ G.out) Tryd.underlying100 rfl (by as_aux_lemma => kernel_rfl)
set_option maxRecDepth 100000 in
set_option maxHeartbeats 1600000 in
theorem fieldsNo (f : FlatD) (c : CodeD) (cv sv av kv : Value) (w : World) (hF : RdFlat none w f cv sv av kv) (hk : 10 ≤ c.kind) :
    Calls Tryd.prog 54 #[flatV f cv sv av kv, codeV c] w fun e w' => e = .returned (.tuple #[usesV false false false false 0, .bool false]) ∧ Below w.heap.size w w' := by
  obtain ⟨ca, cc, rfl⟩ := hF.1.is
  obtain ⟨sa, sc, rfl⟩ := hF.2.1.is
  obtain ⟨aa, ac, rfl⟩ := hF.2.2.1.is
  obtain ⟨ka, kc, rfl⟩ := hF.2.2.2.1.is
  clear hF
  obtain ⟨ck, co, cd, cn, cra, crb⟩ := c
  simp only at hk
  have H0 : Hid ((((w.alloc (.cells #[.int .i64 f.width, .int .i64 f.regs, .slice ca f.chans.length cc, .slice sa f.sites.length sc, .slice aa f.arrays.length ac, .slice ka f.code.length kc] 32)).alloc (.cells #[.int .u8 ck, .int .u8 co, .int .i64 cd, .int .i64 cn, .int .i64 cra.reg, .int .u64 cra.num, .int .i64 crb.reg, .int .u64 crb.num] 48)).alloc (.cells noUses 100)).heap[w.heap.size + 1 + 1]? = some (.cells noUses 100 (0, 0))) := heap3_2 _ _ _ _
  have hb0 : Hid (Below w.heap.size w (((w.alloc (.cells #[.int .i64 f.width, .int .i64 f.regs, .slice ca f.chans.length cc, .slice sa f.sites.length sc, .slice aa f.arrays.length ac, .slice ka f.code.length kc] 32)).alloc (.cells #[.int .u8 ck, .int .u8 co, .int .i64 cd, .int .i64 cn, .int .i64 cra.reg, .int .u64 cra.num, .int .i64 crb.reg, .int .u64 crb.num] 48)).alloc (.cells noUses 100))) := (((Below.refl _ _).alloc (Nat.le_refl _) _).alloc (by simp) _).alloc (by simp; omega) _
  have b0 : (ck == 0) = false := by rw [beq_eq_false_iff_ne]; omega
  have b1 : (ck == 1) = false := by rw [beq_eq_false_iff_ne]; omega
  have b2 : (ck == 2) = false := by rw [beq_eq_false_iff_ne]; omega
  have b3 : (ck == 3) = false := by rw [beq_eq_false_iff_ne]; omega
  have b4 : (ck == 4) = false := by rw [beq_eq_false_iff_ne]; omega
  have b5 : (ck == 5) = false := by rw [beq_eq_false_iff_ne]; omega
  have b6 : (ck == 6) = false := by rw [beq_eq_false_iff_ne]; omega
  have b7 : (ck == 7) = false := by rw [beq_eq_false_iff_ne]; omega
  have b8 : (ck == 8) = false := by rw [beq_eq_false_iff_ne]; omega
  have b9 : (ck == 9) = false := by rw [beq_eq_false_iff_ne]; omega
  go_enter Tryd.func54, Tryd.ntmps54
  go_wp2_with (refine wpList_store_row rfl 100 (.tmp 4) (.tmp 81) rfl (w.heap.size + 1 + 1) noUses rfl rfl 100 noUses ?h2 (by as_aux_lemma => kernel_rfl) (by as_aux_lemma => kernel_rfl) (by as_aux_lemma => kernel_rfl) ?_; exact H0.out)
  refine bodyPost_ret (v := .tuple #[.agg noUses, .bool false]) ?_ rfl ⟨rfl, below_row hb0.out (by omega) _⟩
  exact results_cell_tmp (P := Tryd.prog) (fn := Tryd.f54) rfl _ _ (w.heap.size + 1 + 1) 100 noUses (0, 0) _ rfl (setRow_heap _ _ _ _ _ _ H0.out) Tryd.underlying100 rfl (by as_aux_lemma => kernel_rfl)
theorem refFieldsM (f : FlatD) (c : CodeD) (cv sv av kv : Value) (w : World) (hF : RdFlat none w f cv sv av kv) (hc : kCode.ok c) :
    Calls Tryd.prog 54 #[flatV f cv sv av kv, codeV c] w fun e w' => e = .returned (.tuple #[usesV (dstK c.kind) (nK c.kind) (aK c.kind) (bR c.kind c.op) (mostR f c.kind), .bool (isK c.kind c.op)]) ∧ Below w.heap.size w w' := by
  have h0 : 0 ≤ c.kind := hc.1.1
  have h1 : 0 ≤ c.op := hc.2.1.1
  rcases Int.lt_or_le 9 c.kind with h | h
  · have e : ∀ n : Int, n ≤ 9 → (c.kind == n) = false := fun n hn => by rw [beq_eq_false_iff_ne]; omega
    have := fieldsNo f c cv sv av kv w hF h
    have e1 : dstK c.kind = false := by unfold dstK; rw [e 0 (by decide), e 1 (by decide), e 2 (by decide), e 4 (by decide), e 6 (by decide)]; rfl
    have e2 : nK c.kind = false := by unfold nK; rw [decide_eq_false (p := c.kind ≤ 8) (by omega), Bool.and_false]
    have e3 : aK c.kind = false := by unfold aK; rw [e 0 (by decide), e 1 (by decide), e 2 (by decide), e 3 (by decide), e 5 (by decide), e 6 (by decide), e 8 (by decide)]; rfl
    have e4 : bR c.kind c.op = false := by unfold bR; rw [e 3 (by decide), e 1 (by decide)]; rfl
    have e5 : mostR f c.kind = 0 := by unfold mostR; rw [e2]; rfl
    have e6 : isK c.kind c.op = false := by unfold isK; rw [decide_eq_false (by omega)]; rfl
    rw [e1, e2, e3, e4, e5, e6]
    exact this
  · have hk : c.kind = 0 ∨ c.kind = 1 ∨ c.kind = 2 ∨ c.kind = 3 ∨ c.kind = 4 ∨ c.kind = 5 ∨ c.kind = 6 ∨ c.kind = 7 ∨ c.kind = 8 ∨ c.kind = 9 := by omega
    rcases hk with h | h | h | h | h | h | h | h | h | h
    · rw [show dstK c.kind = true by rw [h]; rfl, show nK c.kind = false by rw [h]; rfl, show aK c.kind = true by rw [h]; rfl, show bR c.kind c.op = false by rw [h]; rfl, show mostR f c.kind = 0 by rw [h]; rfl, show isK c.kind c.op = true by rw [h]; rfl]; exact fields0 f c cv sv av kv w hF h
    · obtain ⟨ck, co, cd, cn, cra, crb⟩ := c
      simp only at h h1
      subst h
      show Calls Tryd.prog _ _ w fun e w' => e = .returned (.tuple #[usesV true false true (arityZ co == 2) 0, .bool (decide (2 ≤ co) && decide (co ≤ 20))]) ∧ _
      rcases Int.lt_or_le co 2 with g | g
      · rw [decide_eq_false (by omega)]; exact fields1a f co cd cn cra crb cv sv av kv w hF h1 g
      · rcases Int.lt_or_le 20 co with g' | g'
        · rw [decide_eq_false (p := co ≤ 20) (by omega), Bool.and_false]
          rcases Int.lt_or_le 21 co with g2 | g2
          · exact fields1d f co cd cn cra crb cv sv av kv w hF h1 g2
          · exact fields1c f co cd cn cra crb cv sv av kv w hF h1 ⟨g', g2⟩
        · rw [decide_eq_true g, decide_eq_true g']; exact fields1b f co cd cn cra crb cv sv av kv w hF h1 ⟨g, g'⟩
    · rw [show dstK c.kind = true by rw [h]; rfl, show nK c.kind = true by rw [h]; rfl, show aK c.kind = true by rw [h]; rfl, show bR c.kind c.op = false by rw [h]; rfl, show mostR f c.kind = f.arrays.length by rw [h]; rfl, show isK c.kind c.op = true by rw [h]; rfl]; exact fields2 f c cv sv av kv w hF h
    · rw [show dstK c.kind = false by rw [h]; rfl, show nK c.kind = true by rw [h]; rfl, show aK c.kind = true by rw [h]; rfl, show bR c.kind c.op = true by rw [h]; rfl, show mostR f c.kind = f.arrays.length by rw [h]; rfl, show isK c.kind c.op = true by rw [h]; rfl]; exact fields3 f c cv sv av kv w hF h
    · rw [show dstK c.kind = true by rw [h]; rfl, show nK c.kind = true by rw [h]; rfl, show aK c.kind = false by rw [h]; rfl, show bR c.kind c.op = false by rw [h]; rfl, show mostR f c.kind = f.chans.length by rw [h]; rfl, show isK c.kind c.op = true by rw [h]; rfl]; exact fields4 f c cv sv av kv w hF h
    · rw [show dstK c.kind = false by rw [h]; rfl, show nK c.kind = true by rw [h]; rfl, show aK c.kind = true by rw [h]; rfl, show bR c.kind c.op = false by rw [h]; rfl, show mostR f c.kind = f.chans.length by rw [h]; rfl, show isK c.kind c.op = true by rw [h]; rfl]; exact fields5 f c cv sv av kv w hF h
    · rw [show dstK c.kind = true by rw [h]; rfl, show nK c.kind = true by rw [h]; rfl, show aK c.kind = true by rw [h]; rfl, show bR c.kind c.op = false by rw [h]; rfl, show mostR f c.kind = f.sites.length by rw [h]; rfl, show isK c.kind c.op = true by rw [h]; rfl]; exact fields6 f c cv sv av kv w hF h
    · rw [show dstK c.kind = false by rw [h]; rfl, show nK c.kind = true by rw [h]; rfl, show aK c.kind = false by rw [h]; rfl, show bR c.kind c.op = false by rw [h]; rfl, show mostR f c.kind = f.code.length by rw [h]; rfl, show isK c.kind c.op = true by rw [h]; rfl]; exact fields7 f c cv sv av kv w hF h
    · rw [show dstK c.kind = false by rw [h]; rfl, show nK c.kind = true by rw [h]; rfl, show aK c.kind = true by rw [h]; rfl, show bR c.kind c.op = false by rw [h]; rfl, show mostR f c.kind = f.code.length by rw [h]; rfl, show isK c.kind c.op = true by rw [h]; rfl]; exact fields8 f c cv sv av kv w hF h
    · rw [show dstK c.kind = false by rw [h]; rfl, show nK c.kind = false by rw [h]; rfl, show aK c.kind = false by rw [h]; rfl, show bR c.kind c.op = false by rw [h]; rfl, show mostR f c.kind = 0 by rw [h]; rfl, show isK c.kind c.op = true by rw [h]; rfl]; exact fields9 f c cv sv av kv w hF h
set_option maxRecDepth 100000 in
set_option maxHeartbeats 1600000 in
theorem refRef (f : FlatD) (r : RefD) (has : Bool) (cv sv av kv : Value) (w : World) (hw1 : 1 ≤ f.width) (hw2 : f.width ≤ 64) (hr0 : InI64 r.reg) (hr1 : InU64 r.num) (hg : InI64 f.regs) :
    Calls Tryd.prog 55 #[flatV f cv sv av kv, refVM r, .bool has] w fun e w' => e = .returned (.bool (refOk f r has)) ∧ Below w.heap.size w w' := by
  obtain ⟨fw, fr, fch, fsi, far, fco⟩ := f
  obtain ⟨rr, rn⟩ := r
  obtain ⟨n, rfl⟩ : ∃ n : Nat, fw = n := ⟨fw.toNat, by simp only at hw1; omega⟩
  simp only at hw1 hw2 hr0 hr1 hg
  obtain ⟨hr1a, hr1b⟩ := hr1
  obtain ⟨hr0a, hr0b⟩ := hr0
  obtain ⟨hga, hgb⟩ := hg
  have hb0 : Hid (Below w.heap.size w ((w.alloc (.cells #[.int .i64 n, .int .i64 fr, cv, sv, av, kv] 32)).alloc (.cells #[.int .i64 rr, .int .u64 rn] 45))) := ((Below.refl _ _).alloc (Nat.le_refl _) _).alloc (by simp) _
  cases has
  · by_cases h1 : rr = 0
    · by_cases h2 : rn = 0
      · have HV : Hid (refOk ⟨n, fr, fch, fsi, far, fco⟩ ⟨rr, rn⟩ false = true) := by show _ = _; simp [refOk, h1, h2]
        subst h1; subst h2
        go_enter Tryd.func55, Tryd.ntmps55
        go_wp2
        go_ret
        exact ⟨by rw [HV.out]; rfl, hb0.out⟩
      · have HV : Hid (refOk ⟨n, fr, fch, fsi, far, fco⟩ ⟨rr, rn⟩ false = false) := by show _ = _; simp [refOk, h1, h2]
        subst h1
        go_enter Tryd.func55, Tryd.ntmps55
        go_wp2
        go_ret
        exact ⟨by rw [HV.out]; rfl, hb0.out⟩
    · have HV : Hid (refOk ⟨n, fr, fch, fsi, far, fco⟩ ⟨rr, rn⟩ false = false) := by show _ = _; simp [refOk, h1]
      go_enter Tryd.func55, Tryd.ntmps55
      go_wp2
      go_ret
      exact ⟨by rw [HV.out]; rfl, hb0.out⟩
  · by_cases h1 : rr = -1
    · subst h1
      have HT := Lib.hid (refTrim n rn (by omega) (by omega) ⟨hr1a, hr1b⟩)
      have HV : Hid ((rn % 2 ^ n == rn) = refOk ⟨n, fr, fch, fsi, far, fco⟩ ⟨-1, rn⟩ true) := by
        show _ = decide (rn < (2 : Int) ^ (n : Int).toNat)
        have hp0 : (0 : Int) < 2 ^ n := Int.pow_pos (by decide)
        rw [Int.toNat_natCast]
        by_cases h : rn < 2 ^ n
        · rw [Int.emod_eq_of_lt hr1a h, decide_eq_true h]; simp
        · rw [decide_eq_false h, beq_eq_false_iff_ne]
          have := Int.emod_lt_of_pos rn hp0
          omega
      go_enter Tryd.func55, Tryd.ntmps55
      go_wp2_with (go_at_call 86; refine (HT.out _).mono ?_; rintro e w1 ⟨rfl, rfl⟩)
      go_ret
      exact ⟨by rw [← HV.out]; rfl, hb0.out⟩
    · have q : (rr == -1) = false := by rw [beq_eq_false_iff_ne]; exact h1
      by_cases h2 : 0 ≤ rr
      · by_cases h3 : rr < fr
        · have HV : Hid ((rn == 0) = refOk ⟨n, fr, fch, fsi, far, fco⟩ ⟨rr, rn⟩ true) := by show _ = _; simp [refOk, h1, h2, h3]
          clear h1
          go_enter Tryd.func55, Tryd.ntmps55
          go_wp2
          go_ret
          exact ⟨by rw [← HV.out]; rfl, hb0.out⟩
        · have HV : Hid (refOk ⟨n, fr, fch, fsi, far, fco⟩ ⟨rr, rn⟩ true = false) := by show _ = _; simp [refOk, h1, h3]
          have h4 : fr ≤ rr := by omega
          have h5 : decide (rr < fr) = false := decide_eq_false h3
          clear h1
          go_enter Tryd.func55, Tryd.ntmps55
          go_wp2
          go_ret
          exact ⟨by rw [HV.out]; rfl, hb0.out⟩
      · have HV : Hid (refOk ⟨n, fr, fch, fsi, far, fco⟩ ⟨rr, rn⟩ true = false) := by show _ = _; simp [refOk, h1, h2]
        have h4 : rr < 0 := by omega
        have h5 : decide (0 ≤ rr) = false := decide_eq_false h2
        clear h1
        go_enter Tryd.func55, Tryd.ntmps55
        go_wp2
        go_ret
        exact ⟨by rw [HV.out]; rfl, hb0.out⟩
end Go.Proofs.YtgcfdbhpophnjaaDoor
