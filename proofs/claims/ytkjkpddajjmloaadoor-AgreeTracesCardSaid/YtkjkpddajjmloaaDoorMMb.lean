/- How a run of the program's lies in memory, and the contract of a machine's value: called in whatever memory it returns what the plain function valM says, and writes nothing that was there. Condition: the run lies at the pointer. -/
import Derived.Test.YtkjkpddajjmloaaDoorMMa
import Derived.Test.YtkjkpddajjmloaaDoorMixK
set_option linter.unusedVariables false
set_option linter.unusedSimpArgs false
namespace Go.Proofs.YtkjkpddajjmloaaDoor
open Go.ChangeShapes Go.WideShapes Go.ChangeAt Go.RowKit
/-- The rows of a run: what is never written lies in blocks of I, all in blocks of G. -/
structure Mem (G I : Nat → Prop) (w : World) (f : FlatD) (ins : List (List Int)) (m : MachD) (kv iv av ov rv bv : Value) (gb db : Nat) (bs : List Nat) : Prop where
  iG : ∀ b, I b → G b
  code : RdRow kCode (some I) w kv f.code
  ins : RdLists (some I) w iv ins
  regs : w.heap[gb]? = some (.cells (u64s m.regs) 55 (0, 0))
  reads : w.heap[db]? = some (.cells (i64s m.t.reads) 3 (0, 0))
  arrs : RdRow kSlc (some I) w av (bs.zip (m.arrs.map List.length))
  rows : ∀ (i : Nat) b l, bs[i]? = some b → m.arrs[i]? = some l → w.heap[b]? = some (.cells (u64s l) 55 (0, 0))
  blen : bs.length = m.arrs.length
  nodup : (gb :: bs).Nodup
  sep : G gb ∧ ¬ I gb ∧ G db ∧ ¬ I db ∧ (∀ b ∈ bs, G b ∧ ¬ I b)
  outs : w.ownsRow 0 146 2 ov m.t.outs.length (m.t.outs.flatMap cellsEv)
  rels : w.ownsRow 0 146 2 rv m.t.rels.length (m.t.rels.flatMap cellsEv)
  brs : w.ownsRow 0 4 1 bv m.t.brs.length (m.t.brs.flatMap cellsBool)
  osep : (∀ b, ov.ownBlock = some b → G b ∧ ¬ I b ∧ rv.ownBlock ≠ some b) ∧ (∀ b, rv.ownBlock = some b → G b ∧ ¬ I b) ∧ (∀ b, bv.ownBlock = some b → G b ∧ ¬ I b)
abbrev cellsP (f : FlatD) (m : MachD) (c8 c9 c10 kv iv av ov rv bv : Value) (gb db : Nat) : Array Value :=
  #[.int .u8 m.t.status, .int .i64 m.t.steps, ov, rv, bv, .slice (some ⟨db, 0, none⟩) m.t.reads.length m.t.reads.length, .int .i64 f.width, .int .i64 f.regs, c8, c9, c10, kv, iv, .slice (some ⟨gb, 0, none⟩) m.regs.length m.regs.length, av, .int .i64 m.pc, .bool (m.t.status != 2)]
/-- A run of the program's lies in the block bm. -/
structure MachAt (G I : Nat → Prop) (w : World) (bm : Nat) (f : FlatD) (ins : List (List Int)) (m : MachD) (c8 c9 c10 kv iv av ov rv bv : Value) (gb db : Nat) (bs : List Nat) : Prop where
  mem : Mem G I w f ins m kv iv av ov rv bv gb db bs
  box : w.heap[bm]? = some (.cells (cellsP f m c8 c9 c10 kv iv av ov rv bv gb db) 141 (0, 0))
  bG : G bm ∧ ¬ I bm
theorem own_same {w w' : World} {base : Nat} {e : TypeId} {size : Nat} {v : Value} {n : Nat} {xs : List Value} (h : w.ownsRow base e size v n xs) (hb : ∀ b, v.ownBlock = some b → w'.heap[b]? = w.heap[b]?) : w'.ownsRow base e size v n xs := by
  obtain ⟨hl, h | ⟨g, cap, cur, rfl, hg, hc, hr⟩⟩ := h
  · exact ⟨hl, .inl h⟩
  · exact ⟨hl, .inr ⟨g, cap, cur, rfl, hg, (hb g rfl).trans hc, hr⟩⟩
theorem own_lt {w : World} {base : Nat} {e : TypeId} {size : Nat} {v : Value} {n : Nat} {xs : List Value} (h : w.ownsRow base e size v n xs) : ∀ b, v.ownBlock = some b → b < w.heap.size := by
  obtain ⟨_, ⟨rfl, _⟩ | ⟨g, cap, cur, rfl, hg, hc, _⟩⟩ := h
  · intro k hk; simp [Value.ownBlock] at hk
  · intro k hk; simp [Value.ownBlock] at hk; subst hk; exact (Array.getElem?_eq_some_iff.1 hc).1
/-- Where nothing of G turns, a run stays. -/
theorem Mem.same {G I : Nat → Prop} {w w' : World} {f : FlatD} {ins : List (List Int)} {m : MachD} {kv iv av ov rv bv : Value} {gb db : Nat} {bs : List Nat} (h : Mem G I w f ins m kv iv av ov rv bv gb db bs) (k : ∀ b, G b → b < w.heap.size → w'.heap[b]? = w.heap[b]?) : Mem G I w' f ins m kv iv av ov rv bv gb db bs where
  iG := h.iG
  code := h.code.same (fun b hb hl => k b (h.iG b hb) hl) (fun _ _ x => x)
  ins := h.ins.same (fun b hb hl => k b (h.iG b hb) hl) (fun _ _ x => x)
  regs := (k gb h.sep.1 (Array.getElem?_eq_some_iff.1 h.regs).1).trans h.regs
  reads := (k db h.sep.2.2.1 (Array.getElem?_eq_some_iff.1 h.reads).1).trans h.reads
  arrs := h.arrs.same (fun b hb hl => k b (h.iG b hb) hl) (fun _ _ x => x)
  rows := fun i b l hb hl => by have := h.rows i b l hb hl; exact (k b (h.sep.2.2.2.2 b (List.mem_of_getElem? hb)).1 (Array.getElem?_eq_some_iff.1 this).1).trans this
  blen := h.blen
  nodup := h.nodup
  sep := h.sep
  outs := own_same h.outs fun b hb => k b (h.osep.1 b hb).1 (own_lt h.outs b hb)
  rels := own_same h.rels fun b hb => k b (h.osep.2.1 b hb).1 (own_lt h.rels b hb)
  brs := own_same h.brs fun b hb => k b (h.osep.2.2 b hb).1 (own_lt h.brs b hb)
  osep := h.osep
theorem MachAt.same {G I : Nat → Prop} {w w' : World} {bm : Nat} {f : FlatD} {ins : List (List Int)} {m : MachD} {c8 c9 c10 kv iv av ov rv bv : Value} {gb db : Nat} {bs : List Nat} (h : MachAt G I w bm f ins m c8 c9 c10 kv iv av ov rv bv gb db bs) (k : ∀ b, G b → b < w.heap.size → w'.heap[b]? = w.heap[b]?) : MachAt G I w' bm f ins m c8 c9 c10 kv iv av ov rv bv gb db bs :=
  ⟨h.mem.same k, (k bm h.bG.1 (Array.getElem?_eq_some_iff.1 h.box).1).trans h.box, h.bG⟩
theorem MachAt.keep {G I : Nat → Prop} {w w' : World} {bm : Nat} {f : FlatD} {ins : List (List Int)} {m : MachD} {c8 c9 c10 kv iv av ov rv bv : Value} {gb db : Nat} {bs : List Nat} (h : MachAt G I w bm f ins m c8 c9 c10 kv iv av ov rv bv gb db bs) (k : Below w.heap.size w w') : MachAt G I w' bm f ins m c8 c9 c10 kv iv av ov rv bv gb db bs := h.same fun b _ hl => k.block b hl
/-- The blocks of a run but for its box. -/
def NotIn (I : Nat → Prop) (ov rv bv : Value) (gb db : Nat) (bs : List Nat) (x : Nat) : Prop := ¬ I x ∧ x ≠ gb ∧ x ≠ db ∧ x ∉ bs ∧ ov.ownBlock ≠ some x ∧ rv.ownBlock ≠ some x ∧ bv.ownBlock ≠ some x
theorem row_ne {w : World} {a b : Nat} {cs ds : Array Value} {S T : TypeId} {p q : Nat × Nat} (h : w.heap[a]? = some (.cells cs S p)) (k : w.heap[b]? = some (.cells ds T q)) (hT : S ≠ T) : a ≠ b := by
  rintro rfl
  rw [h] at k
  simp only [Option.some.injEq, Obj.cells.injEq] at k
  exact hT k.2.1
theorem own_row {w : World} {base : Nat} {e : TypeId} {size : Nat} {v : Value} {n : Nat} {xs : List Value} (h : w.ownsRow base e size v n xs) {b : Nat} (hb : v.ownBlock = some b) : ∃ cs, w.heap[b]? = some (.cells cs e (0, 0)) := by
  obtain ⟨_, ⟨rfl, _⟩ | ⟨g, cap, cur, rfl, hg, hc, _⟩⟩ := h
  · simp [Value.ownBlock] at hb
  · simp [Value.ownBlock] at hb; subst hb; exact ⟨_, hc⟩
theorem zip_rows {G I : Nat → Prop} {w : World} {f : FlatD} {ins : List (List Int)} {m : MachD} {kv iv av ov rv bv : Value} {gb db : Nat} {bs : List Nat} (h : Mem G I w f ins m kv iv av ov rv bv gb db bs) {b : Nat} (hb : b ∈ bs) : ∃ (i : Nat) (l : List Int), bs[i]? = some b ∧ m.arrs[i]? = some l ∧ w.heap[b]? = some (.cells (u64s l) 55 (0, 0)) := by
  obtain ⟨i, hi⟩ := List.getElem?_of_mem hb
  have hl : i < m.arrs.length := by rw [← h.blen]; exact (List.getElem?_eq_some_iff.1 hi).1
  exact ⟨i, _, hi, List.getElem?_eq_getElem hl, h.rows i b _ hi (List.getElem?_eq_getElem hl)⟩
/-- A block of another type than the rows'. -/
theorem Mem.notIn {G I : Nat → Prop} {w : World} {f : FlatD} {ins : List (List Int)} {m : MachD} {kv iv av ov rv bv : Value} {gb db : Nat} {bs : List Nat} (h : Mem G I w f ins m kv iv av ov rv bv gb db bs) {x : Nat} {cs : Array Value} {T : TypeId} (hx : w.heap[x]? = some (.cells cs T (0, 0))) (hI : ¬ I x) (hT : T ≠ 55 ∧ T ≠ 3 ∧ T ≠ 146 ∧ T ≠ 4) : NotIn I ov rv bv gb db bs x := by
  refine ⟨hI, row_ne hx h.regs hT.1, row_ne hx h.reads hT.2.1, ?_, ?_, ?_, ?_⟩
  · intro hb; obtain ⟨i, l, _, _, hr⟩ := zip_rows h hb; exact row_ne hx hr hT.1 rfl
  · intro hb; obtain ⟨cs', hr⟩ := own_row h.outs hb; exact row_ne hx hr hT.2.2.1 rfl
  · intro hb; obtain ⟨cs', hr⟩ := own_row h.rels hb; exact row_ne hx hr hT.2.2.1 rfl
  · intro hb; obtain ⟨cs', hr⟩ := own_row h.brs hb; exact row_ne hx hr hT.2.2.2 rfl
/-- Where only a block that is none of the rows turns, the rows stay. -/
theorem Mem.apart {G I : Nat → Prop} {w w' : World} {f : FlatD} {ins : List (List Int)} {m : MachD} {kv iv av ov rv bv : Value} {gb db : Nat} {bs : List Nat} (h : Mem G I w f ins m kv iv av ov rv bv gb db bs) {x : Nat} (hx : NotIn I ov rv bv gb db bs x) (k : ∀ b, b < w.heap.size → b ≠ x → w'.heap[b]? = w.heap[b]?) : Mem G I w' f ins m kv iv av ov rv bv gb db bs where
  iG := h.iG
  code := h.code.same (fun b hb hl => k b hl (fun e => hx.1 (e ▸ hb))) (fun _ _ x => x)
  ins := h.ins.same (fun b hb hl => k b hl (fun e => hx.1 (e ▸ hb))) (fun _ _ x => x)
  regs := (k gb (Array.getElem?_eq_some_iff.1 h.regs).1 (fun e => hx.2.1 e.symm)).trans h.regs
  reads := (k db (Array.getElem?_eq_some_iff.1 h.reads).1 (fun e => hx.2.2.1 e.symm)).trans h.reads
  arrs := h.arrs.same (fun b hb hl => k b hl (fun e => hx.1 (e ▸ hb))) (fun _ _ x => x)
  rows := fun i b l hb hl => by have := h.rows i b l hb hl; exact (k b (Array.getElem?_eq_some_iff.1 this).1 (fun e => hx.2.2.2.1 (e ▸ List.mem_of_getElem? hb))).trans this
  blen := h.blen
  nodup := h.nodup
  sep := h.sep
  outs := own_same h.outs fun b hb => k b (own_lt h.outs b hb) (fun e => hx.2.2.2.2.1 (e ▸ hb))
  rels := own_same h.rels fun b hb => k b (own_lt h.rels b hb) (fun e => hx.2.2.2.2.2.1 (e ▸ hb))
  brs := own_same h.brs fun b hb => k b (own_lt h.brs b hb) (fun e => hx.2.2.2.2.2.2 (e ▸ hb))
  osep := h.osep
/-- Only what the rows hold counts, not the next instruction, nor the status. -/
theorem Mem.alike {G I : Nat → Prop} {w : World} {f : FlatD} {ins : List (List Int)} {m m' : MachD} {kv iv av ov rv bv : Value} {gb db : Nat} {bs : List Nat} (h : Mem G I w f ins m kv iv av ov rv bv gb db bs) (e1 : m'.regs = m.regs) (e2 : m'.arrs = m.arrs) (e3 : m'.t.reads = m.t.reads) (e4 : m'.t.outs = m.t.outs) (e5 : m'.t.rels = m.t.rels) (e6 : m'.t.brs = m.t.brs) : Mem G I w f ins m' kv iv av ov rv bv gb db bs := by
  obtain ⟨a1, a2, a3, a4, a5, a6, a7, a8, a9, b1, b2, b3, b4, b5⟩ := h
  refine ⟨a1, a2, a3, ?_, ?_, ?_, ?_, ?_, a9, b1, ?_, ?_, ?_, b5⟩
  · rw [e1]; exact a4
  · rw [e3]; exact a5
  · rw [e2]; exact a6
  · rw [e2]; exact a7
  · rw [e2]; exact a8
  · rw [e4]; exact b2
  · rw [e5]; exact b3
  · rw [e6]; exact b4
/-- A register is written. -/
theorem Mem.setReg {G I : Nat → Prop} {w : World} {f : FlatD} {ins : List (List Int)} {m : MachD} {kv iv av ov rv bv : Value} {gb db : Nat} {bs : List Nat} (h : Mem G I w f ins m kv iv av ov rv bv gb db bs) (d : Nat) (v : Int) : Mem G I (w.setCell ⟨gb, d, none⟩ (.int .u64 v)) f ins { m with regs := m.regs.set d v } kv iv av ov rv bv gb db bs := by
  have k : ∀ b, b ≠ gb → (w.setCell ⟨gb, d, none⟩ (.int .u64 v)).heap[b]? = w.heap[b]? := fun b hb => heap_setCell_other _ _ _ _ (by simpa using hb)
  have nI : ∀ b, I b → b ≠ gb := fun b hb e => h.sep.2.1 (e ▸ hb)
  exact {
    iG := h.iG
    code := h.code.same (fun b hb _ => k b (nI b hb)) (fun _ _ x => x)
    ins := h.ins.same (fun b hb _ => k b (nI b hb)) (fun _ _ x => x)
    regs := by rw [heap_setCell_same _ _ _ _ _ _ h.regs, u64s_set]
    reads := (k db (row_ne h.reads h.regs (by decide))).trans h.reads
    arrs := h.arrs.same (fun b hb _ => k b (nI b hb)) (fun _ _ x => x)
    rows := fun i b l hb hl => (k b (fun e => (List.nodup_cons.1 h.nodup).1 (e ▸ List.mem_of_getElem? hb))).trans (h.rows i b l hb hl)
    blen := h.blen
    nodup := h.nodup
    sep := h.sep
    outs := own_same h.outs fun b hb => k b (by obtain ⟨cs, hr⟩ := own_row h.outs hb; exact row_ne hr h.regs (by decide))
    rels := own_same h.rels fun b hb => k b (by obtain ⟨cs, hr⟩ := own_row h.rels hb; exact row_ne hr h.regs (by decide))
    brs := own_same h.brs fun b hb => k b (by obtain ⟨cs, hr⟩ := own_row h.brs hb; exact row_ne hr h.regs (by decide))
    osep := h.osep }
/-- A count of inputs is written. -/
theorem Mem.setRead {G I : Nat → Prop} {w : World} {f : FlatD} {ins : List (List Int)} {m : MachD} {kv iv av ov rv bv : Value} {gb db : Nat} {bs : List Nat} (h : Mem G I w f ins m kv iv av ov rv bv gb db bs) (d : Nat) (v : Int) : Mem G I (w.setCell ⟨db, d, none⟩ (.int .i64 v)) f ins { m with t := { m.t with reads := m.t.reads.set d v } } kv iv av ov rv bv gb db bs := by
  have k : ∀ b, b ≠ db → (w.setCell ⟨db, d, none⟩ (.int .i64 v)).heap[b]? = w.heap[b]? := fun b hb => heap_setCell_other _ _ _ _ (by simpa using hb)
  have nI : ∀ b, I b → b ≠ db := fun b hb e => h.sep.2.2.2.1 (e ▸ hb)
  exact {
    iG := h.iG
    code := h.code.same (fun b hb _ => k b (nI b hb)) (fun _ _ x => x)
    ins := h.ins.same (fun b hb _ => k b (nI b hb)) (fun _ _ x => x)
    regs := (k gb (row_ne h.regs h.reads (by decide))).trans h.regs
    reads := by rw [heap_setCell_same _ _ _ _ _ _ h.reads, i64s_set]
    arrs := h.arrs.same (fun b hb _ => k b (nI b hb)) (fun _ _ x => x)
    rows := fun i b l hb hl => (k b (row_ne (h.rows i b l hb hl) h.reads (by decide))).trans (h.rows i b l hb hl)
    blen := h.blen
    nodup := h.nodup
    sep := h.sep
    outs := own_same h.outs fun b hb => k b (by obtain ⟨cs, hr⟩ := own_row h.outs hb; exact row_ne hr h.reads (by decide))
    rels := own_same h.rels fun b hb => k b (by obtain ⟨cs, hr⟩ := own_row h.rels hb; exact row_ne hr h.reads (by decide))
    brs := own_same h.brs fun b hb => k b (by obtain ⟨cs, hr⟩ := own_row h.brs hb; exact row_ne hr h.reads (by decide))
    osep := h.osep }
theorem nodup_inj : ∀ {l : List Nat} (_ : l.Nodup) {i j x : Nat}, l[i]? = some x → l[j]? = some x → i = j
  | [], _, i, j, x, h, _ => by simp at h
  | a :: r, hn, 0, 0, x, _, _ => rfl
  | a :: r, hn, 0, j + 1, x, h, k => by
    simp at h k; subst h
    exact absurd (List.mem_of_getElem? k) (List.nodup_cons.1 hn).1
  | a :: r, hn, i + 1, 0, x, h, k => by
    simp at h k; subst k
    exact absurd (List.mem_of_getElem? h) (List.nodup_cons.1 hn).1
  | a :: r, hn, i + 1, j + 1, x, h, k => by
    have := nodup_inj (List.nodup_cons.1 hn).2 (i := i) (j := j) (x := x) (by simpa using h) (by simpa using k)
    omega
theorem modify_len (L : List (List Int)) (n i : Nat) (v : Int) : (L.modify n fun l => l.set i v).map List.length = L.map List.length := by
  apply List.ext_getElem?
  intro j
  simp only [List.getElem?_map, List.getElem?_modify]
  cases L[j]? with
  | none => rfl
  | some l => simp; split <;> simp
/-- An element of an array is written. -/
theorem Mem.setArr {G I : Nat → Prop} {w : World} {f : FlatD} {ins : List (List Int)} {m : MachD} {kv iv av ov rv bv : Value} {gb db : Nat} {bs : List Nat} (h : Mem G I w f ins m kv iv av ov rv bv gb db bs) (n i : Nat) (v : Int) {x : Nat} (hx : bs[n]? = some x) : Mem G I (w.setCell ⟨x, i, none⟩ (.int .u64 v)) f ins { m with arrs := m.arrs.modify n fun l => l.set i v } kv iv av ov rv bv gb db bs := by
  have hm := List.mem_of_getElem? hx
  obtain ⟨_, l0, _, _, hr0⟩ := zip_rows h hm
  have k : ∀ b, b ≠ x → (w.setCell ⟨x, i, none⟩ (.int .u64 v)).heap[b]? = w.heap[b]? := fun b hb => heap_setCell_other _ _ _ _ (by simpa using hb)
  have nI : ∀ b, I b → b ≠ x := fun b hb e => (h.sep.2.2.2.2 x hm).2 (e ▸ hb)
  have hn := (List.nodup_cons.1 h.nodup)
  exact {
    iG := h.iG
    code := h.code.same (fun b hb _ => k b (nI b hb)) (fun _ _ x => x)
    ins := h.ins.same (fun b hb _ => k b (nI b hb)) (fun _ _ x => x)
    regs := (k gb (fun e => hn.1 (e ▸ hm))).trans h.regs
    reads := (k db (row_ne h.reads hr0 (by decide))).trans h.reads
    arrs := by
      show RdRow kSlc (some I) _ av (bs.zip ((m.arrs.modify n fun l => l.set i v).map List.length))
      rw [modify_len]
      exact h.arrs.same (fun b hb _ => k b (nI b hb)) (fun _ _ x => x)
    rows := fun j b l hb hl => by
      simp only [List.getElem?_modify] at hl
      cases hj : m.arrs[j]? with
      | none => rw [hj] at hl; simp at hl
      | some l' =>
        rw [hj] at hl
        have hr := h.rows j b l' hb hj
        by_cases e : n = j
        · subst e
          have : x = b := by rw [hx] at hb; exact Option.some.inj hb
          subst this
          simp at hl
          subst hl
          rw [heap_setCell_same _ _ _ _ _ _ hr, u64s_set]
        · simp [e] at hl
          subst hl
          refine (k b fun eb => e ?_).trans hr
          subst eb
          have h1 := (List.getElem?_eq_some_iff.1 hx)
          have h2 := (List.getElem?_eq_some_iff.1 hb)
          exact nodup_inj hn.2 hx hb
    blen := by rw [List.length_modify]; exact h.blen
    nodup := h.nodup
    sep := h.sep
    outs := own_same h.outs fun b hb => k b (by obtain ⟨cs, hr⟩ := own_row h.outs hb; exact row_ne hr hr0 (by decide))
    rels := own_same h.rels fun b hb => k b (by obtain ⟨cs, hr⟩ := own_row h.rels hb; exact row_ne hr hr0 (by decide))
    brs := own_same h.brs fun b hb => k b (by obtain ⟨cs, hr⟩ := own_row h.brs hb; exact row_ne hr hr0 (by decide))
    osep := h.osep }
/-- An operand that may be asked for. -/
def RefIn (m : MachD) (r : RefD) : Prop := InI64 r.reg ∧ InU64 r.num ∧ r.reg < m.regs.length
theorem valM_reg {m : MachD} {r : RefD} (h0 : 0 ≤ r.reg) (h1 : r.reg < m.regs.length) : m.regs[r.reg.toNat]? = some (valM m r) := by
  unfold valM
  rw [if_neg (by omega), List.getD_eq_getElem?_getD, List.getElem?_eq_getElem (by omega)]; rfl
set_option maxRecDepth 100000 in
set_option maxHeartbeats 1600000 in
theorem machValue {G I : Nat → Prop} {w : World} {bm : Nat} {f : FlatD} {ins : List (List Int)} {m : MachD} {c8 c9 c10 kv iv av ov rv bv : Value} {gb db : Nat} {bs : List Nat} (h : MachAt G I w bm f ins m c8 c9 c10 kv iv av ov rv bv gb db bs) (r : RefD) (hr : RefIn m r) (hl : m.regs.length ≤ 2097152) :
    Calls Tryd.prog 153 #[.pointer (some ⟨bm, 0, none⟩), refV r] w fun e w' => e = .returned (.int .u64 (valM m r)) ∧ Below w.heap.size w w' := by
  obtain ⟨rr, rn⟩ := r
  obtain ⟨⟨hr1, hr2⟩, hr3, hr4⟩ := hr
  simp only at hr1 hr2 hr3 hr4
  have hb0 : Hid (Below w.heap.size w (w.alloc (.cells #[.int .i64 rr, .int .u64 rn] 100))) := (Below.refl _ _).alloc (Nat.le_refl _) _
  have hlt := (Array.getElem?_eq_some_iff.1 h.box).1
  have hgt := (Array.getElem?_eq_some_iff.1 h.mem.regs).1
  by_cases h0 : rr < 0
  · have HV : Hid (valM m ⟨rr, rn⟩ = rn) := if_pos h0
    clear h
    go_enter Tryd.func153, Tryd.ntmps153
    go_wp2
    go_ret
    exact ⟨by rw [HV.out]; rfl, hb0.out⟩
  · obtain ⟨k, rfl⟩ : ∃ k : Nat, rr = k := ⟨rr.toNat, by omega⟩
    have h1 : (k : Int) < (m.regs.length : Int) := hr4
    have hx := valM_reg (m := m) (r := ⟨k, rn⟩) (by simp only; omega) hr4
    simp only [Int.toNat_natCast] at hx
    have c13 := row_of h.box 13 _ rfl
    have cg := row_of h.mem.regs k _ (u64s_get _ _ _ hx)
    generalize valM m ⟨k, rn⟩ = x at *
    clear h hx
    go_enter Tryd.func153, Tryd.ntmps153
    go_wp2_with fail
    go_quiet (fail)
    go_wp2
    go_ret
    exact ⟨rfl, below_drewN hb0.out _⟩
end Go.Proofs.YtkjkpddajjmloaaDoor
