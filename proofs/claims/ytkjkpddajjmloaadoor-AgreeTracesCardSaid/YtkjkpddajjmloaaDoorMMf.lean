/- Contracts of the program's store, read, write, release and branch of a run. Conditions: the run lies at the pointer, and the instruction is one that may be done. -/
import Derived.Test.YtkjkpddajjmloaaDoorMMe
set_option linter.unusedVariables false
set_option linter.unusedSimpArgs false
namespace Go.Proofs.YtkjkpddajjmloaaDoor
open Go.ChangeShapes Go.WideShapes Go.ChangeAt Go.RowKit
/-- An element of an array is written, in the box's run. -/
theorem MachAt.setArr {G I : Nat → Prop} {w : World} {bm : Nat} {f : FlatD} {ins : List (List Int)} {m : MachD} {c8 c9 c10 kv iv av ov rv bv : Value} {gb db : Nat} {bs : List Nat} (h : MachAt G I w bm f ins m c8 c9 c10 kv iv av ov rv bv gb db bs) (n i : Nat) (v : Int) {x : Nat} (hx : bs[n]? = some x) : MachAt G I (w.setCell ⟨x, i, none⟩ (.int .u64 v)) bm f ins (putA m n i v) c8 c9 c10 kv iv av ov rv bv gb db bs := by
  obtain ⟨_, l0, _, _, hr0⟩ := zip_rows h.mem (List.mem_of_getElem? hx)
  exact ⟨h.mem.setArr n i v hx, by rw [heap_setCell_other _ _ _ _ (by simpa using row_ne h.box hr0 (by decide)), h.box]; rfl, h.bG⟩
/-- A count of inputs is written, in the box's run. -/
theorem MachAt.setRead {G I : Nat → Prop} {w : World} {bm : Nat} {f : FlatD} {ins : List (List Int)} {m : MachD} {c8 c9 c10 kv iv av ov rv bv : Value} {gb db : Nat} {bs : List Nat} (h : MachAt G I w bm f ins m c8 c9 c10 kv iv av ov rv bv gb db bs) (d : Nat) (v : Int) : MachAt G I (w.setCell ⟨db, d, none⟩ (.int .i64 v)) bm f ins { m with t := { m.t with reads := m.t.reads.set d v } } c8 c9 c10 kv iv av ov rv bv gb db bs :=
  ⟨h.mem.setRead d v, by rw [heap_setCell_other _ _ _ _ (by simpa using row_ne h.box h.mem.reads (by decide)), h.box]; simp [cellsP], h.bG⟩
set_option maxRecDepth 100000 in
set_option maxHeartbeats 1600000 in
theorem machStore {G I : Nat → Prop} {w : World} {bm : Nat} {f : FlatD} {ins : List (List Int)} {m : MachD} {c8 c9 c10 kv iv av ov rv bv : Value} {gb db : Nat} {bs : List Nat} (h : MachAt G I w bm f ins m c8 c9 c10 kv iv av ov rv bv gb db bs) (c : CodeD) (hl : m.regs.length ≤ 2097152) (ha : RefIn m c.a) (hb' : RefIn m c.b) (hv : ∀ x ∈ m.regs, InU64 x) (hp : 0 ≤ m.pc) (hp1 : m.pc ≤ 4096) (hn0 : 0 ≤ c.n) (hn1 : c.n < m.arrs.length) (hla : ∀ l ∈ m.arrs, l.length ≤ 64) :
    Calls Tryd.prog 146 #[.pointer (some ⟨bm, 0, none⟩), codeV c] w fun e w' => e = .returned (.tuple #[]) ∧ Post G w w' bm f ins (doM f ins c m 3) := by
  obtain ⟨ck, co, cd, cn, cra, crb⟩ := c
  have hb : Below w.heap.size w (w.alloc (.cells #[.int .u8 ck, .int .u8 co, .int .i64 cd, .int .i64 cn, .int .i64 cra.reg, .int .u64 cra.num, .int .i64 crb.reg, .int .u64 crb.num] 103)) := (Below.refl _ _).alloc (Nat.le_refl _) _
  have hgb := heap_alloc_new w (.cells #[.int .u8 ck, .int .u8 co, .int .i64 cd, .int .i64 cn, .int .i64 cra.reg, .int .u64 cra.num, .int .i64 crb.reg, .int .u64 crb.num] 103)
  have h1 := h.keep hb
  have hlt : bm < w.heap.size := (Array.getElem?_eq_some_iff.1 h.box).1
  have HE := Lib.hid (machElement h1 ⟨ck, co, cd, cn, cra, crb⟩ hl ha hv hp hp1 hn0 hn1 hla)
  have hres : Hid (doM f ins ⟨ck, co, cd, cn, cra, crb⟩ m 3 = match elemM m ⟨ck, co, cd, cn, cra, crb⟩ with | some _ => putA m cn.toNat (valM m cra).toNat (valM m crb) | none => endM m 1) := rfl
  go_enter Tryd.func146, Tryd.ntmps146
  go_upto_region 1 with fail
  generalize w.alloc (.cells #[.int .u8 ck, .int .u8 co, .int .i64 cd, .int .i64 cn, .int .i64 cra.reg, .int .u64 cra.num, .int .i64 crb.reg, .int .u64 crb.num] 103) = W at *
  have HB := Lib.hid hb
  have HG := Lib.hid hgb
  have k0 := row_of hgb 0 (.int .u8 ck) rfl
  have k1 := row_of hgb 1 (.int .u8 co) rfl
  have k2 := row_of hgb 2 (.int .i64 cd) rfl
  have k3 := row_of hgb 3 (.int .i64 cn) rfl
  have k4 := row_of hgb 4 (.int .i64 cra.reg) rfl
  have k5 := row_of hgb 5 (.int .u64 cra.num) rfl
  have k6 := row_of hgb 6 (.int .i64 crb.reg) rfl
  have k7 := row_of hgb 7 (.int .u64 crb.num) rfl
  have H1 := Lib.hid h1
  have HBR := Lib.hid hb'
  clear h hb hgb h1 ha hb'
  go_upto_region 2 with (go_at_call 155; refine HE.out.mono ?_; intro e w2 hsaid; rcases hsaid with ⟨x, b, hx, hbb, rfl, hb2⟩ | ⟨hx, rfl, hp2⟩)
  · have H2 := Lib.hid (H1.out.keep hb2)
    have HG2 := Lib.hid ((hb2.block _ (Array.getElem?_eq_some_iff.1 HG.out).1).trans HG.out)
    have HB2 := Lib.hid (bcomp HB.out hb2)
    have hres2 : Hid (doM f ins ⟨ck, co, cd, cn, cra, crb⟩ m 3 = putA m cn.toNat (valM m cra).toNat (valM m crb)) := by show _ = _; rw [hres.out, hx]
    have hxl : Hid (∃ l, m.arrs[cn.toNat]? = some l ∧ l[(valM m cra).toNat]? = some x) := by
      show ∃ l, _
      have : ((m.arrs[cn.toNat]?).bind fun l => l[(valM m cra).toNat]?) = some x := hx
      cases hl2 : m.arrs[cn.toNat]? with
      | none => rw [hl2] at this; cases this
      | some l => rw [hl2] at this; exact ⟨l, rfl, this⟩
    have HBB := Lib.hid hbb
    have k6 := row_of HG2.out 6 (.int .i64 crb.reg) rfl
    have k7 := row_of HG2.out 7 (.int .u64 crb.num) rfl
    have HV := Lib.hid (machValue H2.out crb HBR.out hl)
    clear hb2 hx hbb k0 k1 k2 k3 k4 k5
    go_wp2_with (go_at_call 153; refine HV.out.mono ?_; rintro e w3 ⟨rfl, hb3⟩; have H3 := Lib.hid (H2.out.keep hb3); obtain ⟨l, hl2, hl3⟩ := hxl.out; have hrow := H3.out.mem.rows _ b l HBB.out hl2; have cg := row_of hrow _ _ (u64s_get _ _ _ hl3); have fg := frozen_of_row w3 b (valM m cra).toNat _ _ hrow; have HP := Lib.hid (H3.out.setArr cn.toNat (valM m cra).toNat (valM m crb) HBB.out); have hT : Hid (Turn G w (w3.setCell ⟨b, (valM m cra).toNat, none⟩ (.int .u64 (valM m crb)))) := ((Turn.of_below HB2.out).trans (Turn.of_below hb3)).setCell (H3.out.mem.sep.2.2.2.2 b (List.mem_of_getElem? HBB.out)).1 _; clear hrow hl2 hl3 hb3)
    go_end0
    exact ⟨rfl, by rw [hres2.out]; exact post_of HP.out hT.out⟩
  · have hres2 : Hid (doM f ins ⟨ck, co, cd, cn, cra, crb⟩ m 3 = endM m 1) := by show _ = _; rw [hres.out, hx]
    clear hx
    go_wp2
    go_end0
    exact ⟨rfl, by rw [hres2.out]; exact hp2.under HB.out⟩
/-- What is appended to outputs. -/
theorem Mem.setOuts {G I : Nat → Prop} {w w' : World} {f : FlatD} {ins : List (List Int)} {m : MachD} {kv iv av ov rv bv ov' : Value} {gb db : Nat} {bs : List Nat} (h : Mem G I w f ins m kv iv av ov rv bv gb db bs) (x : EvD)
    (how : w'.ownsRow 0 146 2 ov' (m.t.outs.length + 1) (m.t.outs.flatMap cellsEv ++ cellsEv x)) (hg : w.grownBy w' ov.ownBlock) (hn : ov'.ownBlock = ov.ownBlock ∨ ov'.ownBlock = some w.heap.size) :
    Mem (Grow G w w') (fun b => I b ∧ b < w.heap.size) w' f ins { m with t := { m.t with outs := m.t.outs ++ [x] } } kv iv av ov' rv bv gb db bs := by
  have k : ∀ b, b < w.heap.size → ov.ownBlock ≠ some b → w'.heap[b]? = w.heap[b]? := fun b hb hne => hg.block b hb (fun e => hne e.symm)
  have nI : ∀ b, I b → ov.ownBlock ≠ some b := fun b hb e => (h.osep.1 b e).2.1 hb
  have nT : ∀ b cs T, w.heap[b]? = some (.cells cs T (0, 0)) → T ≠ 146 → ov.ownBlock ≠ some b := fun b cs T hb hT e => by obtain ⟨cs', hr⟩ := own_row h.outs e; exact row_ne hb hr hT rfl
  have lt : ∀ b cs T, w.heap[b]? = some (.cells cs T (0, 0)) → b < w.heap.size := fun b cs T hb => (Array.getElem?_eq_some_iff.1 hb).1
  exact {
    iG := fun b hb => .inl (h.iG b hb.1)
    code := h.code.same (fun b hb hl => k b hl (nI b hb)) (fun _ hb x => ⟨x, hb⟩)
    ins := h.ins.same (fun b hb hl => k b hl (nI b hb)) (fun _ hb x => ⟨x, hb⟩)
    regs := (k gb (lt _ _ _ h.regs) (nT _ _ _ h.regs (by decide))).trans h.regs
    reads := (k db (lt _ _ _ h.reads) (nT _ _ _ h.reads (by decide))).trans h.reads
    arrs := h.arrs.same (fun b hb hl => k b hl (nI b hb)) (fun _ hb x => ⟨x, hb⟩)
    rows := fun i b l hb hl => (k b (lt _ _ _ (h.rows i b l hb hl)) (nT _ _ _ (h.rows i b l hb hl) (by decide))).trans (h.rows i b l hb hl)
    blen := h.blen
    nodup := h.nodup
    sep := ⟨.inl h.sep.1, fun e => h.sep.2.1 e.1, .inl h.sep.2.2.1, fun e => h.sep.2.2.2.1 e.1, fun b hb => ⟨.inl (h.sep.2.2.2.2 b hb).1, fun e => (h.sep.2.2.2.2 b hb).2 e.1⟩⟩
    outs := by show w'.ownsRow 0 _ 2 ov' (m.t.outs ++ [x]).length ((m.t.outs ++ [x]).flatMap cellsEv); rw [List.length_append, List.flatMap_append, List.flatMap_singleton]; exact how
    rels := own_same h.rels fun b hb => k b (own_lt h.rels b hb) (fun e => (h.osep.1 b e).2.2 hb)
    brs := own_same h.brs fun b hb => k b (own_lt h.brs b hb) (by obtain ⟨cs, hr⟩ := own_row h.brs hb; exact nT _ _ _ hr (by decide))
    osep := by
      refine ⟨fun b hb => ?_, fun b hb => ⟨.inl (h.osep.2.1 b hb).1, fun e => (h.osep.2.1 b hb).2 e.1⟩, fun b hb => ⟨.inl (h.osep.2.2 b hb).1, fun e => (h.osep.2.2 b hb).2 e.1⟩⟩
      rcases hn with hn | hn
      · rw [hn] at hb
        exact ⟨.inl (h.osep.1 b hb).1, fun e => (h.osep.1 b hb).2.1 e.1, (h.osep.1 b hb).2.2⟩
      · rw [hn] at hb
        simp only [Option.some.injEq] at hb
        subst hb
        exact ⟨.inr ⟨Nat.le_refl _, own_lt how _ hn⟩, fun hi => Nat.lt_irrefl _ hi.2, fun e => Nat.lt_irrefl _ (own_lt h.rels _ e)⟩ }
/-- What is appended to releases. -/
theorem Mem.setRels {G I : Nat → Prop} {w w' : World} {f : FlatD} {ins : List (List Int)} {m : MachD} {kv iv av ov rv bv rv' : Value} {gb db : Nat} {bs : List Nat} (h : Mem G I w f ins m kv iv av ov rv bv gb db bs) (x : EvD)
    (how : w'.ownsRow 0 146 2 rv' (m.t.rels.length + 1) (m.t.rels.flatMap cellsEv ++ cellsEv x)) (hg : w.grownBy w' rv.ownBlock) (hn : rv'.ownBlock = rv.ownBlock ∨ rv'.ownBlock = some w.heap.size) :
    Mem (Grow G w w') (fun b => I b ∧ b < w.heap.size) w' f ins { m with t := { m.t with rels := m.t.rels ++ [x] } } kv iv av ov rv' bv gb db bs := by
  have k : ∀ b, b < w.heap.size → rv.ownBlock ≠ some b → w'.heap[b]? = w.heap[b]? := fun b hb hne => hg.block b hb (fun e => hne e.symm)
  have nI : ∀ b, I b → rv.ownBlock ≠ some b := fun b hb e => (h.osep.2.1 b e).2 hb
  have nT : ∀ b cs T, w.heap[b]? = some (.cells cs T (0, 0)) → T ≠ 146 → rv.ownBlock ≠ some b := fun b cs T hb hT e => by obtain ⟨cs', hr⟩ := own_row h.rels e; exact row_ne hb hr hT rfl
  have lt : ∀ b cs T, w.heap[b]? = some (.cells cs T (0, 0)) → b < w.heap.size := fun b cs T hb => (Array.getElem?_eq_some_iff.1 hb).1
  exact {
    iG := fun b hb => .inl (h.iG b hb.1)
    code := h.code.same (fun b hb hl => k b hl (nI b hb)) (fun _ hb x => ⟨x, hb⟩)
    ins := h.ins.same (fun b hb hl => k b hl (nI b hb)) (fun _ hb x => ⟨x, hb⟩)
    regs := (k gb (lt _ _ _ h.regs) (nT _ _ _ h.regs (by decide))).trans h.regs
    reads := (k db (lt _ _ _ h.reads) (nT _ _ _ h.reads (by decide))).trans h.reads
    arrs := h.arrs.same (fun b hb hl => k b hl (nI b hb)) (fun _ hb x => ⟨x, hb⟩)
    rows := fun i b l hb hl => (k b (lt _ _ _ (h.rows i b l hb hl)) (nT _ _ _ (h.rows i b l hb hl) (by decide))).trans (h.rows i b l hb hl)
    blen := h.blen
    nodup := h.nodup
    sep := ⟨.inl h.sep.1, fun e => h.sep.2.1 e.1, .inl h.sep.2.2.1, fun e => h.sep.2.2.2.1 e.1, fun b hb => ⟨.inl (h.sep.2.2.2.2 b hb).1, fun e => (h.sep.2.2.2.2 b hb).2 e.1⟩⟩
    outs := own_same h.outs fun b hb => k b (own_lt h.outs b hb) (fun e => (h.osep.1 b hb).2.2 e)
    rels := by show w'.ownsRow 0 _ 2 rv' (m.t.rels ++ [x]).length ((m.t.rels ++ [x]).flatMap cellsEv); rw [List.length_append, List.flatMap_append, List.flatMap_singleton]; exact how
    brs := own_same h.brs fun b hb => k b (own_lt h.brs b hb) (by obtain ⟨cs, hr⟩ := own_row h.brs hb; exact nT _ _ _ hr (by decide))
    osep := by
      refine ⟨fun b hb => ⟨.inl (h.osep.1 b hb).1, fun e => (h.osep.1 b hb).2.1 e.1, ?_⟩, fun b hb => ?_, fun b hb => ⟨.inl (h.osep.2.2 b hb).1, fun e => (h.osep.2.2 b hb).2 e.1⟩⟩
      · rcases hn with hn | hn
        · rw [hn]; exact (h.osep.1 b hb).2.2
        · rw [hn]; intro e; simp only [Option.some.injEq] at e; subst e; exact Nat.lt_irrefl _ (own_lt h.outs _ hb)
      · rcases hn with hn | hn
        · rw [hn] at hb
          exact ⟨.inl (h.osep.2.1 b hb).1, fun e => (h.osep.2.1 b hb).2 e.1⟩
        · rw [hn] at hb
          simp only [Option.some.injEq] at hb
          subst hb
          exact ⟨.inr ⟨Nat.le_refl _, own_lt how _ hn⟩, fun hi => Nat.lt_irrefl _ hi.2⟩ }
/-- What is appended to branches. -/
theorem Mem.setBrs {G I : Nat → Prop} {w w' : World} {f : FlatD} {ins : List (List Int)} {m : MachD} {kv iv av ov rv bv bv' : Value} {gb db : Nat} {bs : List Nat} (h : Mem G I w f ins m kv iv av ov rv bv gb db bs) (x : Bool)
    (how : w'.ownsRow 0 4 1 bv' (m.t.brs.length + 1) (m.t.brs.flatMap cellsBool ++ cellsBool x)) (hg : w.grownBy w' bv.ownBlock) (hn : bv'.ownBlock = bv.ownBlock ∨ bv'.ownBlock = some w.heap.size) :
    Mem (Grow G w w') (fun b => I b ∧ b < w.heap.size) w' f ins { m with t := { m.t with brs := m.t.brs ++ [x] } } kv iv av ov rv bv' gb db bs := by
  have k : ∀ b, b < w.heap.size → bv.ownBlock ≠ some b → w'.heap[b]? = w.heap[b]? := fun b hb hne => hg.block b hb (fun e => hne e.symm)
  have nI : ∀ b, I b → bv.ownBlock ≠ some b := fun b hb e => (h.osep.2.2 b e).2 hb
  have nT : ∀ b cs T, w.heap[b]? = some (.cells cs T (0, 0)) → T ≠ 4 → bv.ownBlock ≠ some b := fun b cs T hb hT e => by obtain ⟨cs', hr⟩ := own_row h.brs e; exact row_ne hb hr hT rfl
  have lt : ∀ b cs T, w.heap[b]? = some (.cells cs T (0, 0)) → b < w.heap.size := fun b cs T hb => (Array.getElem?_eq_some_iff.1 hb).1
  exact {
    iG := fun b hb => .inl (h.iG b hb.1)
    code := h.code.same (fun b hb hl => k b hl (nI b hb)) (fun _ hb x => ⟨x, hb⟩)
    ins := h.ins.same (fun b hb hl => k b hl (nI b hb)) (fun _ hb x => ⟨x, hb⟩)
    regs := (k gb (lt _ _ _ h.regs) (nT _ _ _ h.regs (by decide))).trans h.regs
    reads := (k db (lt _ _ _ h.reads) (nT _ _ _ h.reads (by decide))).trans h.reads
    arrs := h.arrs.same (fun b hb hl => k b hl (nI b hb)) (fun _ hb x => ⟨x, hb⟩)
    rows := fun i b l hb hl => (k b (lt _ _ _ (h.rows i b l hb hl)) (nT _ _ _ (h.rows i b l hb hl) (by decide))).trans (h.rows i b l hb hl)
    blen := h.blen
    nodup := h.nodup
    sep := ⟨.inl h.sep.1, fun e => h.sep.2.1 e.1, .inl h.sep.2.2.1, fun e => h.sep.2.2.2.1 e.1, fun b hb => ⟨.inl (h.sep.2.2.2.2 b hb).1, fun e => (h.sep.2.2.2.2 b hb).2 e.1⟩⟩
    outs := own_same h.outs fun b hb => k b (own_lt h.outs b hb) (by obtain ⟨cs, hr⟩ := own_row h.outs hb; exact nT _ _ _ hr (by decide))
    rels := own_same h.rels fun b hb => k b (own_lt h.rels b hb) (by obtain ⟨cs, hr⟩ := own_row h.rels hb; exact nT _ _ _ hr (by decide))
    brs := by show w'.ownsRow 0 _ 1 bv' (m.t.brs ++ [x]).length ((m.t.brs ++ [x]).flatMap cellsBool); rw [List.length_append, List.flatMap_append, List.flatMap_singleton]; exact how
    osep := by
      refine ⟨fun b hb => ⟨.inl (h.osep.1 b hb).1, fun e => (h.osep.1 b hb).2.1 e.1, (h.osep.1 b hb).2.2⟩, fun b hb => ⟨.inl (h.osep.2.1 b hb).1, fun e => (h.osep.2.1 b hb).2 e.1⟩, fun b hb => ?_⟩
      rcases hn with hn | hn
      · rw [hn] at hb
        exact ⟨.inl (h.osep.2.2 b hb).1, fun e => (h.osep.2.2 b hb).2 e.1⟩
      · rw [hn] at hb
        simp only [Option.some.injEq] at hb
        subst hb
        exact ⟨.inr ⟨Nat.le_refl _, own_lt how _ hn⟩, fun hi => Nat.lt_irrefl _ hi.2⟩ }
end Go.Proofs.YtkjkpddajjmloaaDoor
