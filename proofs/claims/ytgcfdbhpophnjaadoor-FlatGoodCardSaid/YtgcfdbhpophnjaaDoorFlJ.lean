/- Contract of the law's awake: the chapter's examples hold. Conditions: the tables hold what they are laid with. -/
import Derived.Test.YtgcfdbhpophnjaaDoorFlH
import Derived.Test.YtgcfdbhpophnjaaDoorMFc
set_option linter.unusedVariables false
set_option linter.unusedSimpArgs false
set_option linter.unnecessarySimpa false
namespace Go.Proofs.YtgcfdbhpophnjaaDoor
open Go.WideShapes Go.ChangeAt Go.RowKit Go.ChangeShapes
theorem rowNewF {α : Type} (K : Kind α) {w : World} {g : Nat} {l : List α} {cs : Array Value} (h : w.heap[g]? = some (.cells cs K.T (0, 0))) (hc : cs = (l.flatMap K.cells).toArray) (hl : l.length * K.bytes ≤ 140737488351232) (hs : ∀ s ∈ l, K.ok s) : RdRow K none w (.slice (some ⟨g, 0, none⟩) l.length l.length) l := by
  subst hc
  refine ⟨_, _, rfl, ⟨hl, Nat.le_refl _⟩, fun i x hx => ⟨g, 0, rfl, Free.none _ _ _, fun j u hj => ?_, hs x (List.mem_of_getElem? hx)⟩⟩
  have hjl : j < K.sz := by rw [← K.len x]; exact (List.getElem?_eq_some_iff.1 hj).1
  refine row_of h _ u ?_
  rw [List.getElem?_toArray, Nat.zero_add, flat_get K.cells K.sz K.len l i j x hx hjl]
  exact hj
theorem chain1 (w : World) (A : Obj) : (w.alloc A).heap[w.heap.size]? = some A ∧ Below w.heap.size w (w.alloc A) := ⟨heap_alloc_new _ _, (Below.refl _ _).alloc (Nat.le_refl _) _⟩
theorem chain2 (w : World) (A B : Obj) : ((w.alloc A).alloc B).heap[w.heap.size]? = some A ∧ ((w.alloc A).alloc B).heap[w.heap.size + 1]? = some B ∧ Below w.heap.size w ((w.alloc A).alloc B) := heap2_of (Below.refl _ _)
theorem chain3 (w : World) (A B C : Obj) : (((w.alloc A).alloc B).alloc C).heap[w.heap.size]? = some A ∧ (((w.alloc A).alloc B).alloc C).heap[w.heap.size + 1]? = some B ∧ (((w.alloc A).alloc B).alloc C).heap[w.heap.size + 1 + 1]? = some C ∧ Below w.heap.size w (((w.alloc A).alloc B).alloc C) := by
  obtain ⟨h1, h2, h3⟩ := chain2 w A B
  obtain ⟨k1, k2⟩ := chain1 ((w.alloc A).alloc B) C
  exact ⟨(k2.block _ (Array.getElem?_eq_some_iff.1 h1).1).trans h1, (k2.block _ (Array.getElem?_eq_some_iff.1 h2).1).trans h2, by simpa using k1, bcomp h3 k2⟩
def ValIs (v x : Value) : Prop := v = x
def RowOf {α : Type} (K : Kind α) (w : World) (v : Value) (n : Nat) (l : List α) : Prop := ∃ g : Nat, v = .slice (some ⟨g, 0, none⟩) n n ∧ RdRow K none w v l
theorem RowOf.keep {α : Type} {K : Kind α} {w w' : World} {v : Value} {n : Nat} {l : List α} (h : RowOf K w v n l) (k : Below w.heap.size w w') : RowOf K w' v n l := by
  obtain ⟨g, e, h⟩ := h; exact ⟨g, e, h.keep k⟩
def FunsOf (w : World) (v : Value) (l : List FuncD) : Prop := ∃ g : Nat, v = .slice (some ⟨g, 0, none⟩) l.length l.length ∧ RdFuncs none w v l
theorem FunsOf.keep {w w' : World} {v : Value} {l : List FuncD} (h : FunsOf w v l) (k : Below w.heap.size w w') : FunsOf w' v l := by
  obtain ⟨g, e, h⟩ := h; exact ⟨g, e, h.keep k⟩
/-- A program with a list of functions. -/
def ProgFn (w : World) (v mv : Value) (l : List FuncD) : Prop := ∃ g : Nat, v = .agg #[.int .i64 0, .slice none 0 0, .slice none 0 0, .slice (some ⟨g, 0, none⟩) l.length l.length, mv] ∧ RdFuncs none w (.slice (some ⟨g, 0, none⟩) l.length l.length) l
theorem ProgFn.keep {w w' : World} {v mv : Value} {l : List FuncD} (h : ProgFn w v mv l) (k : Below w.heap.size w w') : ProgFn w' v mv l := by
  obtain ⟨g, e, h⟩ := h; exact ⟨g, e, h.keep k⟩
/-- A program with a list of channels. -/
def ProgCh (w : World) (v mv : Value) (l : List ByteArray) : Prop := ∃ g : Nat, v = .agg #[.int .i64 0, .slice (some ⟨g, 0, none⟩) l.length l.length, .slice none 0 0, .slice none 0 0, mv] ∧ RdStrs none w (.slice (some ⟨g, 0, none⟩) l.length l.length) l
theorem ProgCh.keep {w w' : World} {v mv : Value} {l : List ByteArray} (h : ProgCh w v mv l) (k : Below w.heap.size w w') : ProgCh w' v mv l := by
  obtain ⟨g, e, h⟩ := h; exact ⟨g, e, h.keep k⟩
def StrsOf (w : World) (v : Value) (l : List ByteArray) : Prop := ∃ g : Nat, v = .slice (some ⟨g, 0, none⟩) l.length l.length ∧ RdStrs none w v l
theorem StrsOf.keep {w w' : World} {v : Value} {l : List ByteArray} (h : StrsOf w v l) (k : Below w.heap.size w w') : StrsOf w' v l := by
  obtain ⟨g, e, h⟩ := h; exact ⟨g, e, h.keep k⟩
theorem rdFn1 {w : World} {g : Nat} {x : FuncD} {pv cv : Value} (hg : w.heap[g]? = some (.cells #[.string x.name, pv, cv, .int .i64 x.line, .int .i64 x.col] 57 (0, 0))) (h : RdFunc none w x pv cv) : RdFuncs none w (.slice (some ⟨g, 0, none⟩) 1 1) [x] := by
  refine ⟨some ⟨g, 0, none⟩, 1, rfl, by simp, fun i s hs => ?_⟩
  match i, hs with
  | 0, hs =>
    simp only [List.getElem?_cons_zero, Option.some.injEq] at hs
    subst hs
    exact ⟨g, 0, pv, cv, rfl, Free.none _ _ _, row_of hg 0 _ rfl, row_of hg 1 _ rfl, row_of hg 2 _ rfl, row_of hg 3 _ rfl, row_of hg 4 _ rfl, h⟩
theorem okIns {w : World} {av : Value} (x : InstrD) (h : RdArgs none w av x.args) (hk : InU8 x.kind ∧ InU8 x.op ∧ InI64 x.line ∧ InI64 x.col ∧ x.dst.size ≤ maxLen ∧ x.name.size ≤ maxLen) : RdInstr none w x av := ⟨h, hk⟩
theorem ok_codes : ∀ c ∈ haltC :: (cB ++ cC ++ cD ++ cE), kCode.ok c := by decide

set_option maxRecDepth 100000 in
set_option maxHeartbeats 12800000 in
/-- **awake**: the chapter's examples hold. -/
theorem awake25_any (w : World) (hL : Laid w) (hM : LaidM w) : Calls Tryd.prog 15 #[] w fun e w' => e = .returned (.bool true) ∧ Below w.heap.size w w' := by
  have hn := Lib.hid (heap_alloc_new w (.cells #[.int .u8 0, .int .u8 0, .int .i64 0, .int .i64 0, .int .i64 0, .int .u64 0, .int .i64 0, .int .u64 0] 48))
  have hbn := (Below.refl w.heap.size w).alloc (Nat.le_refl _) (.cells #[.int .u8 0, .int .u8 0, .int .i64 0, .int .i64 0, .int .i64 0, .int .u64 0, .int .i64 0, .int .u64 0] 48)
  have HLw := Lib.hid hL
  have HMw := Lib.hid hM
  clear hL hM
  go_enter Tryd.func15, Tryd.ntmps15
  go_upto_region 2 with (refine wpList_store_row rfl 48 (.tmp 1) (.tmp 12) rfl w.heap.size #[.int .u8 9, .int .u8 0, .int .i64 0, .int .i64 0, .int .i64 0, .int .u64 0, .int .i64 0, .int .u64 0] rfl rfl 48 #[.int .u8 0, .int .u8 0, .int .i64 0, .int .i64 0, .int .i64 0, .int .u64 0, .int .i64 0, .int .u64 0] ?hs0 (by as_aux_lemma => kernel_rfl) (by as_aux_lemma => kernel_rfl) (by as_aux_lemma => kernel_rfl) ?_; exact hn.out)
  try simp only [Act.put]
  have HH : Hid (((w.alloc (.cells #[.int .u8 0, .int .u8 0, .int .i64 0, .int .i64 0, .int .i64 0, .int .u64 0, .int .i64 0, .int .u64 0] 48)).setRow w.heap.size #[.int .u8 9, .int .u8 0, .int .i64 0, .int .i64 0, .int .i64 0, .int .u64 0, .int .i64 0, .int .u64 0]).heap[w.heap.size]? = some (.cells #[.int .u8 9, .int .u8 0, .int .i64 0, .int .i64 0, .int .i64 0, .int .u64 0, .int .i64 0, .int .u64 0] 48 (0, 0))) := setRow_heap _ _ _ _ _ _ hn.out
  have HB := Lib.hid (below_row hbn (Nat.le_refl _) #[.int .u8 9, .int .u8 0, .int .i64 0, .int .i64 0, .int .i64 0, .int .u64 0, .int .i64 0, .int .u64 0])
  clear hn hbn
  generalize ((w.alloc (.cells #[.int .u8 0, .int .u8 0, .int .i64 0, .int .i64 0, .int .i64 0, .int .u64 0, .int .i64 0, .int .u64 0] 48)).setRow w.heap.size #[.int .u8 9, .int .u8 0, .int .i64 0, .int .i64 0, .int .i64 0, .int .u64 0, .int .i64 0, .int .u64 0]) = W1 at *
  obtain ⟨hh, hhh⟩ : ∃ hh, w.heap.size = hh := ⟨_, rfl⟩
  have HBh : Hid (Below w.heap.size w W1) := HB
  rw [hhh] at HH
  try rw [hhh]
  go_upto_region 3 with fail
  obtain ⟨q0, q1, q2, hbz⟩ := chain3 W1 (.cells #[.string ⟨#[120]⟩, .int .u64 0] 65) (.cells #[.string ⟨#[121]⟩, .int .u64 0] 65) (.cells #[.string ⟨#[112]⟩, .int .u64 0] 65)
  generalize (((W1.alloc (.cells #[.string ⟨#[120]⟩, .int .u64 0] 65)).alloc (.cells #[.string ⟨#[121]⟩, .int .u64 0] 65)).alloc (.cells #[.string ⟨#[112]⟩, .int .u64 0] 65)) = W2 at *
  replace HH := Lib.hid ((hbz.block hh (Array.getElem?_eq_some_iff.1 HH.out).1).trans HH.out)
  replace HBh := Lib.hid (bcomp HBh.out hbz)
  obtain ⟨ap, hap⟩ : ∃ n, W1.heap.size + 1 + 1 = n := ⟨_, rfl⟩
  try rw [hap] at q0
  try rw [hap] at q1
  try rw [hap] at q2
  try rw [hap]
  obtain ⟨ay, hay⟩ : ∃ n, W1.heap.size + 1 = n := ⟨_, rfl⟩
  try rw [hay] at q0
  try rw [hay] at q1
  try rw [hay] at q2
  try rw [hay]
  obtain ⟨ax, hax⟩ : ∃ n, W1.heap.size = n := ⟨_, rfl⟩
  try rw [hax] at q0
  try rw [hax] at q1
  try rw [hax] at q2
  try rw [hax]
  have Gax := Lib.hid q0
  have Gay := Lib.hid q1
  have Gap := Lib.hid q2
  clear hbz q0 q1 q2 hax hay hap
  go_upto_region 4 with fail
  obtain ⟨q0, q1, hbz⟩ := chain2 W2 (.cells #[.string ⟨#[120]⟩, .int .u64 0, .string ⟨#[]⟩, .int .u64 5] 65) (.cells #[.int .u8 10, .int .u8 0, .string ⟨#[]⟩, .string ⟨#[76]⟩, .slice none 0 0, .int .i64 0, .int .i64 0, .int .u8 1, .int .u8 4, .string ⟨#[120]⟩, .string ⟨#[]⟩, .slice (some ⟨W2.heap.size, 0, none⟩) 2 2, .int .i64 0, .int .i64 0, .int .u8 9, .int .u8 0, .string ⟨#[]⟩, .string ⟨#[76]⟩, .slice (some ⟨ax, 0, none⟩) 1 1, .int .i64 0, .int .i64 0] 60)
  generalize ((W2.alloc (.cells #[.string ⟨#[120]⟩, .int .u64 0, .string ⟨#[]⟩, .int .u64 5] 65)).alloc (.cells #[.int .u8 10, .int .u8 0, .string ⟨#[]⟩, .string ⟨#[76]⟩, .slice none 0 0, .int .i64 0, .int .i64 0, .int .u8 1, .int .u8 4, .string ⟨#[120]⟩, .string ⟨#[]⟩, .slice (some ⟨W2.heap.size, 0, none⟩) 2 2, .int .i64 0, .int .i64 0, .int .u8 9, .int .u8 0, .string ⟨#[]⟩, .string ⟨#[76]⟩, .slice (some ⟨ax, 0, none⟩) 1 1, .int .i64 0, .int .i64 0] 60)) = W3 at *
  replace HH := Lib.hid ((hbz.block hh (Array.getElem?_eq_some_iff.1 HH.out).1).trans HH.out)
  replace Gax := Lib.hid ((hbz.block ax (Array.getElem?_eq_some_iff.1 Gax.out).1).trans Gax.out)
  replace Gay := Lib.hid ((hbz.block ay (Array.getElem?_eq_some_iff.1 Gay.out).1).trans Gay.out)
  replace Gap := Lib.hid ((hbz.block ap (Array.getElem?_eq_some_iff.1 Gap.out).1).trans Gap.out)
  replace HBh := Lib.hid (bcomp HBh.out hbz)
  obtain ⟨b3, hb3⟩ : ∃ n, W2.heap.size + 1 = n := ⟨_, rfl⟩
  try rw [hb3] at q0
  try rw [hb3] at q1
  try rw [hb3]
  obtain ⟨a3, ha3⟩ : ∃ n, W2.heap.size = n := ⟨_, rfl⟩
  try rw [ha3] at q0
  try rw [ha3] at q1
  try rw [ha3]
  have Ga3 := Lib.hid q0
  have Gb3 := Lib.hid q1
  clear hbz q0 q1 ha3 hb3
  go_upto_region 5 with fail
  obtain ⟨q0, q1, q2, hbz⟩ := chain3 W3 (.cells #[.string ⟨#[112]⟩] 9) (.cells #[.int .u8 1, .int .u8 2, .string ⟨#[121]⟩, .string ⟨#[]⟩, .slice (some ⟨ap, 0, none⟩) 1 1, .int .i64 0, .int .i64 0, .int .u8 12, .int .u8 0, .string ⟨#[]⟩, .string ⟨#[]⟩, .slice (some ⟨ay, 0, none⟩) 1 1, .int .i64 0, .int .i64 0] 60) (.cells #[.string ⟨#[102]⟩, .slice (some ⟨W3.heap.size, 0, none⟩) 1 1, .slice (some ⟨W3.heap.size + 1, 0, none⟩) 2 2, .int .i64 0, .int .i64 0] 57)
  generalize (((W3.alloc (.cells #[.string ⟨#[112]⟩] 9)).alloc (.cells #[.int .u8 1, .int .u8 2, .string ⟨#[121]⟩, .string ⟨#[]⟩, .slice (some ⟨ap, 0, none⟩) 1 1, .int .i64 0, .int .i64 0, .int .u8 12, .int .u8 0, .string ⟨#[]⟩, .string ⟨#[]⟩, .slice (some ⟨ay, 0, none⟩) 1 1, .int .i64 0, .int .i64 0] 60)).alloc (.cells #[.string ⟨#[102]⟩, .slice (some ⟨W3.heap.size, 0, none⟩) 1 1, .slice (some ⟨W3.heap.size + 1, 0, none⟩) 2 2, .int .i64 0, .int .i64 0] 57)) = W4 at *
  replace HH := Lib.hid ((hbz.block hh (Array.getElem?_eq_some_iff.1 HH.out).1).trans HH.out)
  replace Gax := Lib.hid ((hbz.block ax (Array.getElem?_eq_some_iff.1 Gax.out).1).trans Gax.out)
  replace Gay := Lib.hid ((hbz.block ay (Array.getElem?_eq_some_iff.1 Gay.out).1).trans Gay.out)
  replace Gap := Lib.hid ((hbz.block ap (Array.getElem?_eq_some_iff.1 Gap.out).1).trans Gap.out)
  replace Ga3 := Lib.hid ((hbz.block a3 (Array.getElem?_eq_some_iff.1 Ga3.out).1).trans Ga3.out)
  replace Gb3 := Lib.hid ((hbz.block b3 (Array.getElem?_eq_some_iff.1 Gb3.out).1).trans Gb3.out)
  replace HBh := Lib.hid (bcomp HBh.out hbz)
  obtain ⟨e4, he4⟩ : ∃ n, W3.heap.size + 1 + 1 = n := ⟨_, rfl⟩
  try rw [he4] at q0
  try rw [he4] at q1
  try rw [he4] at q2
  try rw [he4]
  obtain ⟨d4, hd4⟩ : ∃ n, W3.heap.size + 1 = n := ⟨_, rfl⟩
  try rw [hd4] at q0
  try rw [hd4] at q1
  try rw [hd4] at q2
  try rw [hd4]
  obtain ⟨c4, hc4⟩ : ∃ n, W3.heap.size = n := ⟨_, rfl⟩
  try rw [hc4] at q0
  try rw [hc4] at q1
  try rw [hc4] at q2
  try rw [hc4]
  have Gc4 := Lib.hid q0
  have Gd4 := Lib.hid q1
  have Ge4 := Lib.hid q2
  clear hbz q0 q1 q2 hc4 hd4 he4
  go_upto_region 6 with fail
  obtain ⟨q0, q1, hbz⟩ := chain2 W4 (.cells #[.string ⟨#[]⟩, .int .u64 3] 65) (.cells #[.int .u8 4, .int .u8 0, .string ⟨#[120]⟩, .string ⟨#[102]⟩, .slice (some ⟨W4.heap.size, 0, none⟩) 1 1, .int .i64 0, .int .i64 0] 60)
  generalize ((W4.alloc (.cells #[.string ⟨#[]⟩, .int .u64 3] 65)).alloc (.cells #[.int .u8 4, .int .u8 0, .string ⟨#[120]⟩, .string ⟨#[102]⟩, .slice (some ⟨W4.heap.size, 0, none⟩) 1 1, .int .i64 0, .int .i64 0] 60)) = W5 at *
  replace HH := Lib.hid ((hbz.block hh (Array.getElem?_eq_some_iff.1 HH.out).1).trans HH.out)
  replace Gax := Lib.hid ((hbz.block ax (Array.getElem?_eq_some_iff.1 Gax.out).1).trans Gax.out)
  replace Gay := Lib.hid ((hbz.block ay (Array.getElem?_eq_some_iff.1 Gay.out).1).trans Gay.out)
  replace Gap := Lib.hid ((hbz.block ap (Array.getElem?_eq_some_iff.1 Gap.out).1).trans Gap.out)
  replace Ga3 := Lib.hid ((hbz.block a3 (Array.getElem?_eq_some_iff.1 Ga3.out).1).trans Ga3.out)
  replace Gb3 := Lib.hid ((hbz.block b3 (Array.getElem?_eq_some_iff.1 Gb3.out).1).trans Gb3.out)
  replace Gc4 := Lib.hid ((hbz.block c4 (Array.getElem?_eq_some_iff.1 Gc4.out).1).trans Gc4.out)
  replace Gd4 := Lib.hid ((hbz.block d4 (Array.getElem?_eq_some_iff.1 Gd4.out).1).trans Gd4.out)
  replace Ge4 := Lib.hid ((hbz.block e4 (Array.getElem?_eq_some_iff.1 Ge4.out).1).trans Ge4.out)
  replace HBh := Lib.hid (bcomp HBh.out hbz)
  obtain ⟨b5, hb5⟩ : ∃ n, W4.heap.size + 1 = n := ⟨_, rfl⟩
  try rw [hb5] at q0
  try rw [hb5] at q1
  try rw [hb5]
  obtain ⟨a5, ha5⟩ : ∃ n, W4.heap.size = n := ⟨_, rfl⟩
  try rw [ha5] at q0
  try rw [ha5] at q1
  try rw [ha5]
  have Ga5 := Lib.hid q0
  have Gb5 := Lib.hid q1
  clear hbz q0 q1 ha5 hb5
  go_upto_region 7 with fail
  obtain ⟨q0, hbz⟩ := chain1 W5 (.cells #[.int .u8 4, .int .u8 0, .string ⟨#[120]⟩, .string ⟨#[102]⟩, .slice none 0 0, .int .i64 0, .int .i64 0] 60)
  generalize (W5.alloc (.cells #[.int .u8 4, .int .u8 0, .string ⟨#[120]⟩, .string ⟨#[102]⟩, .slice none 0 0, .int .i64 0, .int .i64 0] 60)) = W6 at *
  replace HH := Lib.hid ((hbz.block hh (Array.getElem?_eq_some_iff.1 HH.out).1).trans HH.out)
  replace Gax := Lib.hid ((hbz.block ax (Array.getElem?_eq_some_iff.1 Gax.out).1).trans Gax.out)
  replace Gay := Lib.hid ((hbz.block ay (Array.getElem?_eq_some_iff.1 Gay.out).1).trans Gay.out)
  replace Gap := Lib.hid ((hbz.block ap (Array.getElem?_eq_some_iff.1 Gap.out).1).trans Gap.out)
  replace Ga3 := Lib.hid ((hbz.block a3 (Array.getElem?_eq_some_iff.1 Ga3.out).1).trans Ga3.out)
  replace Gb3 := Lib.hid ((hbz.block b3 (Array.getElem?_eq_some_iff.1 Gb3.out).1).trans Gb3.out)
  replace Gc4 := Lib.hid ((hbz.block c4 (Array.getElem?_eq_some_iff.1 Gc4.out).1).trans Gc4.out)
  replace Gd4 := Lib.hid ((hbz.block d4 (Array.getElem?_eq_some_iff.1 Gd4.out).1).trans Gd4.out)
  replace Ge4 := Lib.hid ((hbz.block e4 (Array.getElem?_eq_some_iff.1 Ge4.out).1).trans Ge4.out)
  replace Ga5 := Lib.hid ((hbz.block a5 (Array.getElem?_eq_some_iff.1 Ga5.out).1).trans Ga5.out)
  replace Gb5 := Lib.hid ((hbz.block b5 (Array.getElem?_eq_some_iff.1 Gb5.out).1).trans Gb5.out)
  replace HBh := Lib.hid (bcomp HBh.out hbz)
  obtain ⟨b6, hb6⟩ : ∃ n, W5.heap.size = n := ⟨_, rfl⟩
  try rw [hb6] at q0
  try rw [hb6]
  have Gb6 := Lib.hid q0
  clear hbz q0 hb6
  go_upto_region 8 with fail
  obtain ⟨q0, q1, hbz⟩ := chain2 W6 (.cells #[.string ⟨#[]⟩, .int .u64 7] 65) (.cells #[.int .u8 5, .int .u8 0, .string ⟨#[120]⟩, .string ⟨#[99]⟩, .slice none 0 0, .int .i64 0, .int .i64 0, .int .u8 6, .int .u8 0, .string ⟨#[]⟩, .string ⟨#[99]⟩, .slice (some ⟨W6.heap.size, 0, none⟩) 1 1, .int .i64 0, .int .i64 0, .int .u8 7, .int .u8 0, .string ⟨#[121]⟩, .string ⟨#[115]⟩, .slice (some ⟨ax, 0, none⟩) 1 1, .int .i64 0, .int .i64 0] 60)
  generalize ((W6.alloc (.cells #[.string ⟨#[]⟩, .int .u64 7] 65)).alloc (.cells #[.int .u8 5, .int .u8 0, .string ⟨#[120]⟩, .string ⟨#[99]⟩, .slice none 0 0, .int .i64 0, .int .i64 0, .int .u8 6, .int .u8 0, .string ⟨#[]⟩, .string ⟨#[99]⟩, .slice (some ⟨W6.heap.size, 0, none⟩) 1 1, .int .i64 0, .int .i64 0, .int .u8 7, .int .u8 0, .string ⟨#[121]⟩, .string ⟨#[115]⟩, .slice (some ⟨ax, 0, none⟩) 1 1, .int .i64 0, .int .i64 0] 60)) = W7 at *
  replace HH := Lib.hid ((hbz.block hh (Array.getElem?_eq_some_iff.1 HH.out).1).trans HH.out)
  replace Gax := Lib.hid ((hbz.block ax (Array.getElem?_eq_some_iff.1 Gax.out).1).trans Gax.out)
  replace Gay := Lib.hid ((hbz.block ay (Array.getElem?_eq_some_iff.1 Gay.out).1).trans Gay.out)
  replace Gap := Lib.hid ((hbz.block ap (Array.getElem?_eq_some_iff.1 Gap.out).1).trans Gap.out)
  replace Ga3 := Lib.hid ((hbz.block a3 (Array.getElem?_eq_some_iff.1 Ga3.out).1).trans Ga3.out)
  replace Gb3 := Lib.hid ((hbz.block b3 (Array.getElem?_eq_some_iff.1 Gb3.out).1).trans Gb3.out)
  replace Gc4 := Lib.hid ((hbz.block c4 (Array.getElem?_eq_some_iff.1 Gc4.out).1).trans Gc4.out)
  replace Gd4 := Lib.hid ((hbz.block d4 (Array.getElem?_eq_some_iff.1 Gd4.out).1).trans Gd4.out)
  replace Ge4 := Lib.hid ((hbz.block e4 (Array.getElem?_eq_some_iff.1 Ge4.out).1).trans Ge4.out)
  replace Ga5 := Lib.hid ((hbz.block a5 (Array.getElem?_eq_some_iff.1 Ga5.out).1).trans Ga5.out)
  replace Gb5 := Lib.hid ((hbz.block b5 (Array.getElem?_eq_some_iff.1 Gb5.out).1).trans Gb5.out)
  replace Gb6 := Lib.hid ((hbz.block b6 (Array.getElem?_eq_some_iff.1 Gb6.out).1).trans Gb6.out)
  replace HBh := Lib.hid (bcomp HBh.out hbz)
  obtain ⟨b7, hb7⟩ : ∃ n, W6.heap.size + 1 = n := ⟨_, rfl⟩
  try rw [hb7] at q0
  try rw [hb7] at q1
  try rw [hb7]
  obtain ⟨a7, ha7⟩ : ∃ n, W6.heap.size = n := ⟨_, rfl⟩
  try rw [ha7] at q0
  try rw [ha7] at q1
  try rw [ha7]
  have Ga7 := Lib.hid q0
  have Gb7 := Lib.hid q1
  clear hbz q0 q1 ha7 hb7
  have rx : RdArgs none W7 (.slice (some ⟨ax, 0, none⟩) 1 1) [aX] := rdA (l := [aX]) Gax.out (by decide) (by decide)
  have ry : RdArgs none W7 (.slice (some ⟨ay, 0, none⟩) 1 1) [aY] := rdA (l := [aY]) Gay.out (by decide) (by decide)
  have rp : RdArgs none W7 (.slice (some ⟨ap, 0, none⟩) 1 1) [aP] := rdA (l := [aP]) Gap.out (by decide) (by decide)
  have r3 : RdArgs none W7 (.slice (some ⟨a3, 0, none⟩) 2 2) [aX, aN 5] := rdA (l := [aX, aN 5]) Ga3.out (by decide) (by decide)
  have r5 : RdArgs none W7 (.slice (some ⟨a5, 0, none⟩) 1 1) [aN 3] := rdA (l := [aN 3]) Ga5.out (by decide) (by decide)
  have r7 : RdArgs none W7 (.slice (some ⟨a7, 0, none⟩) 1 1) [aN 7] := rdA (l := [aN 7]) Ga7.out (by decide) (by decide)
  have rl : RdInstrs none W7 (.slice (some ⟨b3, 0, none⟩) 3 3) loopI := rdI (l := [(⟨10, 0, s0, sL, [], 0, 0⟩, .slice none 0 0), (⟨1, 4, sx, s0, [aX, aN 5], 0, 0⟩, .slice (some ⟨a3, 0, none⟩) 2 2), (⟨9, 0, s0, sL, [aX], 0, 0⟩, .slice (some ⟨ax, 0, none⟩) 1 1)]) Gb3.out (by simp) (by
    intro p hp; simp only [List.mem_cons, List.not_mem_nil, or_false] at hp; rcases hp with rfl | rfl | rfl
    · exact okIns ⟨10, 0, s0, sL, [], 0, 0⟩ (rdArgs_nil none W7) (by decide)
    · exact okIns ⟨1, 4, sx, s0, [aX, aN 5], 0, 0⟩ r3 (by decide)
    · exact okIns ⟨9, 0, s0, sL, [aX], 0, 0⟩ rx (by decide))
  have rd : RdInstrs none W7 (.slice (some ⟨d4, 0, none⟩) 2 2) fnD.code := rdI (l := [(⟨1, 2, sy, s0, [aP], 0, 0⟩, .slice (some ⟨ap, 0, none⟩) 1 1), (⟨12, 0, s0, s0, [aY], 0, 0⟩, .slice (some ⟨ay, 0, none⟩) 1 1)]) Gd4.out (by simp) (by
    intro p hp; simp only [List.mem_cons, List.not_mem_nil, or_false] at hp; rcases hp with rfl | rfl
    · exact okIns ⟨1, 2, sy, s0, [aP], 0, 0⟩ rp (by decide)
    · exact okIns ⟨12, 0, s0, s0, [aY], 0, 0⟩ ry (by decide))
  have rc : RdInstrs none W7 (.slice (some ⟨b5, 0, none⟩) 1 1) callI := rdI (l := [(⟨4, 0, sx, sf, [aN 3], 0, 0⟩, .slice (some ⟨a5, 0, none⟩) 1 1)]) Gb5.out (by simp) (by
    intro p hp; simp only [List.mem_cons, List.not_mem_nil, or_false] at hp; rcases hp with rfl
    · exact okIns ⟨4, 0, sx, sf, [aN 3], 0, 0⟩ r5 (by decide))
  have re : RdInstrs none W7 (.slice (some ⟨b6, 0, none⟩) 1 1) emptyI := rdI (l := [(⟨4, 0, sx, sf, [], 0, 0⟩, .slice none 0 0)]) Gb6.out (by simp) (by
    intro p hp; simp only [List.mem_cons, List.not_mem_nil, or_false] at hp; rcases hp with rfl
    · exact okIns ⟨4, 0, sx, sf, [], 0, 0⟩ (rdArgs_nil none W7) (by decide))
  have ri : RdInstrs none W7 (.slice (some ⟨b7, 0, none⟩) 3 3) ioI := rdI (l := [(⟨5, 0, sx, sc, [], 0, 0⟩, .slice none 0 0), (⟨6, 0, s0, sc, [aN 7], 0, 0⟩, .slice (some ⟨a7, 0, none⟩) 1 1), (⟨7, 0, sy, ss, [aX], 0, 0⟩, .slice (some ⟨ax, 0, none⟩) 1 1)]) Gb7.out (by simp) (by
    intro p hp; simp only [List.mem_cons, List.not_mem_nil, or_false] at hp; rcases hp with rfl | rfl | rfl
    · exact okIns ⟨5, 0, sx, sc, [], 0, 0⟩ (rdArgs_nil none W7) (by decide)
    · exact okIns ⟨6, 0, s0, sc, [aN 7], 0, 0⟩ r7 (by decide)
    · exact okIns ⟨7, 0, sy, ss, [aX], 0, 0⟩ rx (by decide))
  have rs : RdStrs none W7 (.slice (some ⟨c4, 0, none⟩) 1 1) [sp] := rdS (l := [sp]) Gc4.out (by simp) (by decide)
  have HRF : Hid (RdFunc none W7 fnD (.slice (some ⟨c4, 0, none⟩) 1 1) (.slice (some ⟨d4, 0, none⟩) 2 2)) := ⟨rs, rd, by decide, by decide, by decide⟩
  have Hrl := Lib.hid rl
  have Hrc := Lib.hid rc
  have Hre := Lib.hid re
  have Hri := Lib.hid ri
  have HL := Lib.hid (HLw.out.keep HBh.out)
  have HM := Lib.hid (HMw.out.keep HBh.out)
  clear rx ry rp r3 r5 r7 rl rd rc re ri rs Gax Gay Gap Ga3 Gb3 Gc4 Gd4 Ga5 Gb5 Gb6 Ga7 Gb7 HLw HMw
  go_upto_region 8 with fail
  try simp only [List.append_eq, List.cons_append, List.nil_append]
  refine wp_region_ownG [0, 1] [⟨2, some 49, []⟩, ⟨3, some 50, [(2, some 49)]⟩, ⟨4, some 51, [(3, some 50)]⟩, ⟨5, some 52, [(4, some 51)]⟩, ⟨6, some 53, [(5, some 52)]⟩, ⟨7, some 54, [(5, some 52), (6, some 53)]⟩, ⟨8, some 55, [(5, some 52)]⟩, ⟨9, some 56, [(5, some 52)]⟩, ⟨10, some 57, [(5, some 52), (8, some 55), (9, some 56)]⟩, ⟨11, some 58, [(5, some 52)]⟩, ⟨12, some 59, [(5, some 52), (11, some 58)]⟩, ⟨13, some 60, [(5, some 52)]⟩, ⟨14, some 61, [(5, some 52), (10, some 57), (12, some 59), (13, some 60)]⟩, ⟨15, some 62, [(5, some 52), (7, some 54), (14, some 61)]⟩, ⟨16, some 63, [(5, some 52), (15, some 62)]⟩, ⟨17, some 64, [(5, some 52), (16, some 63)]⟩, ⟨18, some 65, [(17, some 64)]⟩, ⟨19, some 66, [(18, some 65)]⟩, ⟨20, some 67, [(18, some 65), (19, some 66)]⟩, ⟨21, some 68, [(18, some 65)]⟩, ⟨22, some 69, [(18, some 65), (20, some 67), (21, some 68)]⟩, ⟨23, some 70, [(18, some 65)]⟩, ⟨24, some 71, [(18, some 65), (23, some 70)]⟩, ⟨25, some 72, [(18, some 65)]⟩, ⟨26, some 73, [(18, some 65), (24, some 71), (25, some 72)]⟩, ⟨27, some 74, [(18, some 65), (22, some 69), (26, some 73)]⟩, ⟨28, some 75, [(18, some 65), (27, some 74)]⟩] [29] [_] (fun j => decide (29 ≤ j))
    (fun j v w lo hi => match j with
      | 2 => RowOf kCode w v 1 [⟨9, 0, 0, 0, ⟨0, 0⟩, ⟨0, 0⟩⟩]
      | 3 => ValIs v (.bool true)
      | 4 => ValIs v (.bool false)
      | 5 => ValIs v (.bool false)
      | 6 => ValIs v (.slice (some ⟨b3, 0, none⟩) 3 3)
      | 7 => ValIs v (.agg #[.int .i64 0, .slice none 0 0, .slice none 0 0, .slice none 0 0, .slice (some ⟨b3, 0, none⟩) 3 3])
      | 8 => ValIs v (.agg #[.int .i64 0, .int .u64 0])
      | 9 => ValIs v (.agg #[.int .i64 (-1), .int .u64 1])
      | 10 => ValIs v (.agg #[.int .u8 1, .int .u8 4, .int .i64 0, .int .i64 0, .int .i64 0, .int .u64 0, .int .i64 (-1), .int .u64 1])
      | 11 => ValIs v (.agg #[.int .i64 0, .int .u64 0])
      | 12 => ValIs v (.agg #[.int .u8 8, .int .u8 0, .int .i64 0, .int .i64 0, .int .i64 0, .int .u64 0, .int .i64 0, .int .u64 0])
      | 13 => ValIs v (.agg #[.int .u8 9, .int .u8 0, .int .i64 0, .int .i64 0, .int .i64 0, .int .u64 0, .int .i64 0, .int .u64 0])
      | 14 => RowOf kCode w v 3 [⟨1, 4, 0, 0, ⟨0, 0⟩, ⟨-1, 1⟩⟩, ⟨8, 0, 0, 0, ⟨0, 0⟩, ⟨0, 0⟩⟩, ⟨9, 0, 0, 0, ⟨0, 0⟩, ⟨0, 0⟩⟩]
      | 15 => ValIs v (.bool true)
      | 16 => ValIs v (.bool false)
      | 17 => ValIs v (.bool false)
      | 18 => ValIs v (.bool false)
      | 19 => ValIs v (.agg #[.string ⟨#[102]⟩, .slice none 0 0, .slice none 0 0, .int .i64 0, .int .i64 0])
      | 20 => FunsOf w v [fn0]
      | 21 => ValIs v (.slice (some ⟨b6, 0, none⟩) 1 1)
      | 22 => ProgFn w v (.slice (some ⟨b6, 0, none⟩) 1 1) [fn0]
      | 23 => ValIs v (.agg #[.int .i64 (-1), .int .u64 0])
      | 24 => ValIs v (.agg #[.int .u8 0, .int .u8 0, .int .i64 0, .int .i64 0, .int .i64 (-1), .int .u64 0, .int .i64 0, .int .u64 0])
      | 25 => ValIs v (.agg #[.int .u8 9, .int .u8 0, .int .i64 0, .int .i64 0, .int .i64 0, .int .u64 0, .int .i64 0, .int .u64 0])
      | 26 => RowOf kCode w v 2 [⟨0, 0, 0, 0, ⟨-1, 0⟩, ⟨0, 0⟩⟩, ⟨9, 0, 0, 0, ⟨0, 0⟩, ⟨0, 0⟩⟩]
      | 27 => ValIs v (.bool true)
      | 28 => ValIs v (.bool false)
      | _ => True) (by kernel_rfl) (by kernel_rfl) rfl (by kernel_rfl) rfl rfl (fun _ d _ _ _ h => by cases d <;> exact h) ?_ ?_
  · intro j v w w' lo hi hy hbw
    match j, hy with
    | 2, hy => exact RowOf.keep hy hbw
    | 3, hy => exact hy
    | 4, hy => exact hy
    | 5, hy => exact hy
    | 6, hy => exact hy
    | 7, hy => exact hy
    | 8, hy => exact hy
    | 9, hy => exact hy
    | 10, hy => exact hy
    | 11, hy => exact hy
    | 12, hy => exact hy
    | 13, hy => exact hy
    | 14, hy => exact RowOf.keep hy hbw
    | 15, hy => exact hy
    | 16, hy => exact hy
    | 17, hy => exact hy
    | 18, hy => exact hy
    | 19, hy => exact hy
    | 20, hy => exact FunsOf.keep hy hbw
    | 21, hy => exact hy
    | 22, hy => exact ProgFn.keep hy hbw
    | 23, hy => exact hy
    | 24, hy => exact hy
    | 25, hy => exact hy
    | 26, hy => exact RowOf.keep hy hbw
    | 27, hy => exact hy
    | 28, hy => exact hy
    | 0, _ | 1, _ | (x + 29), _ => trivial
  have l0 := ext_cell (W := W7) (row_of HH.out 0 (.int .u8 9) rfl)
  have l1 := ext_cell (W := W7) (row_of HH.out 1 (.int .u8 0) rfl)
  have l2 := ext_cell (W := W7) (row_of HH.out 2 (.int .i64 0) rfl)
  have l3 := ext_cell (W := W7) (row_of HH.out 3 (.int .i64 0) rfl)
  have l4 := ext_cell (W := W7) (row_of HH.out 4 (.int .i64 0) rfl)
  have l5 := ext_cell (W := W7) (row_of HH.out 5 (.int .u64 0) rfl)
  have l6 := ext_cell (W := W7) (row_of HH.out 6 (.int .i64 0) rfl)
  have l7 := ext_cell (W := W7) (row_of HH.out 7 (.int .u64 0) rfl)
  refine mix_reads (by simp only [opsOf, List.filterMap_cons, List.filterMap_nil, List.getElem?_toArray, List.getElem?_cons_succ, List.getElem?_cons_zero]; rfl) ⟨_, ext_of (Below.refl _ _).drew⟩ ?_
  change wpQuiet _ _ _ _ [_, _] _
  (repeat (go_big_quiet_step (fail)))
  refine wpQuiet_nil ?_
  clear l0 l1 l2 l3 l4 l5 l6 l7
  have HD : Hid (Below W7.heap.size W7 W7.drew) := (Below.refl _ _).drew
  refine ⟨⟨fun vs wn hb hn => ?_, fun vs wn hb hn => ?_, fun vs wn hb hn => ?_, fun vs wn hb hn => ?_, fun vs wn hb hn => ?_, fun vs wn hb hn => ?_, fun vs wn hb hn => ?_, fun vs wn hb hn => ?_, fun vs wn hb hn => ?_, fun vs wn hb hn => ?_, fun vs wn hb hn => ?_, fun vs wn hb hn => ?_, fun vs wn hb hn => ?_, fun vs wn hb hn => ?_, fun vs wn hb hn => ?_, fun vs wn hb hn => ?_, fun vs wn hb hn => ?_, fun vs wn hb hn => ?_, fun vs wn hb hn => ?_, fun vs wn hb hn => ?_, fun vs wn hb hn => ?_, fun vs wn hb hn => ?_, fun vs wn hb hn => ?_, fun vs wn hb hn => ?_, fun vs wn hb hn => ?_, fun vs wn hb hn => ?_, fun vs wn hb hn => ?_, trivial⟩, fun vs wn hb hy hd => ?_⟩
  · have HBN := Lib.hid (bcomp HD.out hb)
    clear hn hb
    refine mix_step rfl ?_
    simp only [pv]
    go_wp2_with fail
    exact ⟨_, rfl, (Below.refl _ _).alloc (Nat.le_refl _) _, wn.heap.size, rfl, rowNewF kCode (l := [⟨9, 0, 0, 0, ⟨0, 0⟩, ⟨0, 0⟩⟩]) (heap_alloc_new _ _) rfl (by decide) (by decide)⟩
  · have HBN := Lib.hid (bcomp HD.out hb)
    obtain ⟨g0, e0, h0⟩ := hn (2, some 49) (by simp)
    rw [e0] at h0
    clear hn hb
    have hmk := Lib.hid (makes_any ⟨0, [], [], [], []⟩ (.slice none 0 0) (.slice none 0 0) (.slice none 0 0) (.slice none 0 0) _ ⟨2, 0, [], [], [], [haltC]⟩ wn ⟨rdStrs_nil _ _, rdArrs_nil _ _, rdFuncs_nil _ _, rdInstrs_nil _ _, by decide⟩ (HL.out.keep HBN.out) flA rfl h0)
    refine mix_step rfl ?_
    simp only [pv]
    rw [e0]
    go_wp2_with (go_at_call 46; refine hmk.out.mono ?_; rintro e w1 ⟨rfl, hb1⟩)
    exact ⟨_, rfl, hb1, rfl⟩
  · have HBN := Lib.hid (bcomp HD.out hb)
    have e0 : (vs 3).1 = .bool true := hn (3, some 50) (by simp)
    clear hn hb
    refine mix_step rfl ?_
    simp only [pv]
    rw [e0]
    go_wp2_with fail
    exact ⟨_, rfl, Below.refl _ _, rfl⟩
  · have HBN := Lib.hid (bcomp HD.out hb)
    have e0 : (vs 4).1 = .bool false := hn (4, some 51) (by simp)
    clear hn hb
    refine mix_step rfl ?_
    simp only [pv]
    rw [e0]
    go_wp2_with fail
    exact ⟨_, rfl, Below.refl _ _, rfl⟩
  · have HBN := Lib.hid (bcomp HD.out hb)
    have e0 : (vs 5).1 = .bool false := hn (5, some 52) (by simp)
    clear hn hb
    refine mix_step rfl ?_
    simp only [pv]
    rw [e0]
    go_wp2_with fail
    exact ⟨_, rfl, Below.refl _ _, rfl⟩
  · have HBN := Lib.hid (bcomp HD.out hb)
    have e0 : (vs 5).1 = .bool false := hn (5, some 52) (by simp)
    have e1 : (vs 6).1 = .slice (some ⟨b3, 0, none⟩) 3 3 := hn (6, some 53) (by simp)
    clear hn hb
    refine mix_step rfl ?_
    simp only [pv]
    rw [e0, e1]
    go_wp2_with fail
    exact ⟨_, rfl, Below.refl _ _, rfl⟩
  · have HBN := Lib.hid (bcomp HD.out hb)
    have e0 : (vs 5).1 = .bool false := hn (5, some 52) (by simp)
    clear hn hb
    refine mix_step rfl ?_
    simp only [pv]
    rw [e0]
    go_wp2_with (go_at_call 47; refine (reg25_any _ _).mono ?_; rintro e w1 ⟨rfl, hb1⟩)
    exact ⟨_, rfl, hb1, rfl⟩
  · have HBN := Lib.hid (bcomp HD.out hb)
    have e0 : (vs 5).1 = .bool false := hn (5, some 52) (by simp)
    clear hn hb
    refine mix_step rfl ?_
    simp only [pv]
    rw [e0]
    go_wp2_with (go_at_call 48; refine (num25_any _ _).mono ?_; rintro e w1 ⟨rfl, hb1⟩)
    exact ⟨_, rfl, hb1, rfl⟩
  · have HBN := Lib.hid (bcomp HD.out hb)
    have e0 : (vs 5).1 = .bool false := hn (5, some 52) (by simp)
    have e1 : (vs 8).1 = .agg #[.int .i64 0, .int .u64 0] := hn (8, some 55) (by simp)
    have e2 : (vs 9).1 = .agg #[.int .i64 (-1), .int .u64 1] := hn (9, some 56) (by simp)
    clear hn hb
    refine mix_step rfl ?_
    simp only [pv]
    rw [e0, e1, e2]
    go_wp2_with fail
    exact ⟨_, rfl, Below.refl _ _, rfl⟩
  · have HBN := Lib.hid (bcomp HD.out hb)
    have e0 : (vs 5).1 = .bool false := hn (5, some 52) (by simp)
    clear hn hb
    refine mix_step rfl ?_
    simp only [pv]
    rw [e0]
    go_wp2_with (go_at_call 47; refine (reg25_any _ _).mono ?_; rintro e w1 ⟨rfl, hb1⟩)
    exact ⟨_, rfl, hb1, rfl⟩
  · have HBN := Lib.hid (bcomp HD.out hb)
    have e0 : (vs 5).1 = .bool false := hn (5, some 52) (by simp)
    have e1 : (vs 11).1 = .agg #[.int .i64 0, .int .u64 0] := hn (11, some 58) (by simp)
    clear hn hb
    refine mix_step rfl ?_
    simp only [pv]
    rw [e0, e1]
    go_wp2_with fail
    exact ⟨_, rfl, Below.refl _ _, rfl⟩
  · have HBN := Lib.hid (bcomp HD.out hb)
    have e0 : (vs 5).1 = .bool false := hn (5, some 52) (by simp)
    clear hn hb
    have hq := (HBN.out.block hh (Array.getElem?_eq_some_iff.1 HH.out).1).trans HH.out
    have l0 := row_of hq 0 (.int .u8 9) rfl
    have l1 := row_of hq 1 (.int .u8 0) rfl
    have l2 := row_of hq 2 (.int .i64 0) rfl
    have l3 := row_of hq 3 (.int .i64 0) rfl
    have l4 := row_of hq 4 (.int .i64 0) rfl
    have l5 := row_of hq 5 (.int .u64 0) rfl
    have l6 := row_of hq 6 (.int .i64 0) rfl
    have l7 := row_of hq 7 (.int .u64 0) rfl
    clear hq
    refine mix_step rfl ?_
    simp only [pv]
    rw [e0]
    go_wp2_with fail
    exact ⟨_, rfl, Below.refl _ _, rfl⟩
  · have HBN := Lib.hid (bcomp HD.out hb)
    have e0 : (vs 5).1 = .bool false := hn (5, some 52) (by simp)
    have e1 : (vs 10).1 = .agg #[.int .u8 1, .int .u8 4, .int .i64 0, .int .i64 0, .int .i64 0, .int .u64 0, .int .i64 (-1), .int .u64 1] := hn (10, some 57) (by simp)
    have e2 : (vs 12).1 = .agg #[.int .u8 8, .int .u8 0, .int .i64 0, .int .i64 0, .int .i64 0, .int .u64 0, .int .i64 0, .int .u64 0] := hn (12, some 59) (by simp)
    have e3 : (vs 13).1 = .agg #[.int .u8 9, .int .u8 0, .int .i64 0, .int .i64 0, .int .i64 0, .int .u64 0, .int .i64 0, .int .u64 0] := hn (13, some 60) (by simp)
    clear hn hb
    refine mix_step rfl ?_
    simp only [pv]
    rw [e0, e1, e2, e3]
    go_wp2_with fail
    exact ⟨_, rfl, (Below.refl _ _).alloc (Nat.le_refl _) _, wn.heap.size, rfl, rowNewF kCode (l := [⟨1, 4, 0, 0, ⟨0, 0⟩, ⟨-1, 1⟩⟩, ⟨8, 0, 0, 0, ⟨0, 0⟩, ⟨0, 0⟩⟩, ⟨9, 0, 0, 0, ⟨0, 0⟩, ⟨0, 0⟩⟩]) (heap_alloc_new _ _) rfl (by decide) (by decide)⟩
  · have HBN := Lib.hid (bcomp HD.out hb)
    have e0 : (vs 5).1 = .bool false := hn (5, some 52) (by simp)
    have e1 : (vs 7).1 = .agg #[.int .i64 0, .slice none 0 0, .slice none 0 0, .slice none 0 0, .slice (some ⟨b3, 0, none⟩) 3 3] := hn (7, some 54) (by simp)
    obtain ⟨g2, e2, h2⟩ := hn (14, some 61) (by simp)
    rw [e2] at h2
    clear hn hb
    have hmk := Lib.hid (makes_any ⟨0, [], [], [], loopI⟩ (.slice none 0 0) (.slice none 0 0) (.slice none 0 0) (.slice (some ⟨b3, 0, none⟩) 3 3) _ ⟨2, 1, [], [], [], cB⟩ wn ⟨rdStrs_nil _ _, rdArrs_nil _ _, rdFuncs_nil _ _, Hrl.out.keep HBN.out, by decide⟩ (HL.out.keep HBN.out) flB rfl h2)
    refine mix_step rfl ?_
    simp only [pv]
    rw [e0, e1, e2]
    go_wp2_with (go_at_call 46; refine hmk.out.mono ?_; rintro e w1 ⟨rfl, hb1⟩)
    exact ⟨_, rfl, hb1, rfl⟩
  · have HBN := Lib.hid (bcomp HD.out hb)
    have e0 : (vs 5).1 = .bool false := hn (5, some 52) (by simp)
    have e1 : (vs 15).1 = .bool true := hn (15, some 62) (by simp)
    clear hn hb
    refine mix_step rfl ?_
    simp only [pv]
    rw [e0, e1]
    go_wp2_with fail
    exact ⟨_, rfl, Below.refl _ _, rfl⟩
  · have HBN := Lib.hid (bcomp HD.out hb)
    have e0 : (vs 5).1 = .bool false := hn (5, some 52) (by simp)
    have e1 : (vs 16).1 = .bool false := hn (16, some 63) (by simp)
    clear hn hb
    refine mix_step rfl ?_
    simp only [pv]
    rw [e0, e1]
    go_wp2_with fail
    exact ⟨_, rfl, Below.refl _ _, rfl⟩
  · have HBN := Lib.hid (bcomp HD.out hb)
    have e0 : (vs 17).1 = .bool false := hn (17, some 64) (by simp)
    clear hn hb
    refine mix_step rfl ?_
    simp only [pv]
    rw [e0]
    go_wp2_with fail
    exact ⟨_, rfl, Below.refl _ _, rfl⟩
  · have HBN := Lib.hid (bcomp HD.out hb)
    have e0 : (vs 18).1 = .bool false := hn (18, some 65) (by simp)
    clear hn hb
    refine mix_step rfl ?_
    simp only [pv]
    rw [e0]
    go_wp2_with fail
    exact ⟨_, rfl, Below.refl _ _, rfl⟩
  · have HBN := Lib.hid (bcomp HD.out hb)
    have e0 : (vs 18).1 = .bool false := hn (18, some 65) (by simp)
    have e1 : (vs 19).1 = .agg #[.string ⟨#[102]⟩, .slice none 0 0, .slice none 0 0, .int .i64 0, .int .i64 0] := hn (19, some 66) (by simp)
    clear hn hb
    refine mix_step rfl ?_
    simp only [pv]
    rw [e0, e1]
    go_wp2_with fail
    have hal := (Below.refl wn.heap.size wn).alloc (Nat.le_refl _) (.cells #[.string ⟨#[102]⟩, .slice none 0 0, .slice none 0 0, .int .i64 0, .int .i64 0] 57)
    exact ⟨_, rfl, hal, wn.heap.size, rfl, rdFn1 (x := fn0) (heap_alloc_new _ _) (⟨rdStrs_nil _ _, rdInstrs_nil _ _, by decide, by decide, by decide⟩)⟩
  · have HBN := Lib.hid (bcomp HD.out hb)
    have e0 : (vs 18).1 = .bool false := hn (18, some 65) (by simp)
    clear hn hb
    refine mix_step rfl ?_
    simp only [pv]
    rw [e0]
    go_wp2_with fail
    exact ⟨_, rfl, Below.refl _ _, rfl⟩
  · have HBN := Lib.hid (bcomp HD.out hb)
    have e0 : (vs 18).1 = .bool false := hn (18, some 65) (by simp)
    obtain ⟨g1, e1, h1⟩ := hn (20, some 67) (by simp)
    rw [e1] at h1
    have e2 : (vs 21).1 = .slice (some ⟨b6, 0, none⟩) 1 1 := hn (21, some 68) (by simp)
    clear hn hb
    refine mix_step rfl ?_
    simp only [pv]
    rw [e0, e1, e2]
    go_wp2_with fail
    exact ⟨_, rfl, Below.refl _ _, g1, rfl, h1⟩
  · have HBN := Lib.hid (bcomp HD.out hb)
    have e0 : (vs 18).1 = .bool false := hn (18, some 65) (by simp)
    clear hn hb
    refine mix_step rfl ?_
    simp only [pv]
    rw [e0]
    go_wp2_with (go_at_call 48; refine (num25_any _ _).mono ?_; rintro e w1 ⟨rfl, hb1⟩)
    exact ⟨_, rfl, hb1, rfl⟩
  · have HBN := Lib.hid (bcomp HD.out hb)
    have e0 : (vs 18).1 = .bool false := hn (18, some 65) (by simp)
    have e1 : (vs 23).1 = .agg #[.int .i64 (-1), .int .u64 0] := hn (23, some 70) (by simp)
    clear hn hb
    refine mix_step rfl ?_
    simp only [pv]
    rw [e0, e1]
    go_wp2_with fail
    exact ⟨_, rfl, Below.refl _ _, rfl⟩
  · have HBN := Lib.hid (bcomp HD.out hb)
    have e0 : (vs 18).1 = .bool false := hn (18, some 65) (by simp)
    clear hn hb
    have hq := (HBN.out.block hh (Array.getElem?_eq_some_iff.1 HH.out).1).trans HH.out
    have l0 := row_of hq 0 (.int .u8 9) rfl
    have l1 := row_of hq 1 (.int .u8 0) rfl
    have l2 := row_of hq 2 (.int .i64 0) rfl
    have l3 := row_of hq 3 (.int .i64 0) rfl
    have l4 := row_of hq 4 (.int .i64 0) rfl
    have l5 := row_of hq 5 (.int .u64 0) rfl
    have l6 := row_of hq 6 (.int .i64 0) rfl
    have l7 := row_of hq 7 (.int .u64 0) rfl
    clear hq
    refine mix_step rfl ?_
    simp only [pv]
    rw [e0]
    go_wp2_with fail
    exact ⟨_, rfl, Below.refl _ _, rfl⟩
  · have HBN := Lib.hid (bcomp HD.out hb)
    have e0 : (vs 18).1 = .bool false := hn (18, some 65) (by simp)
    have e1 : (vs 24).1 = .agg #[.int .u8 0, .int .u8 0, .int .i64 0, .int .i64 0, .int .i64 (-1), .int .u64 0, .int .i64 0, .int .u64 0] := hn (24, some 71) (by simp)
    have e2 : (vs 25).1 = .agg #[.int .u8 9, .int .u8 0, .int .i64 0, .int .i64 0, .int .i64 0, .int .u64 0, .int .i64 0, .int .u64 0] := hn (25, some 72) (by simp)
    clear hn hb
    refine mix_step rfl ?_
    simp only [pv]
    rw [e0, e1, e2]
    go_wp2_with fail
    exact ⟨_, rfl, (Below.refl _ _).alloc (Nat.le_refl _) _, wn.heap.size, rfl, rowNewF kCode (l := [⟨0, 0, 0, 0, ⟨-1, 0⟩, ⟨0, 0⟩⟩, ⟨9, 0, 0, 0, ⟨0, 0⟩, ⟨0, 0⟩⟩]) (heap_alloc_new _ _) rfl (by decide) (by decide)⟩
  · have HBN := Lib.hid (bcomp HD.out hb)
    have e0 : (vs 18).1 = .bool false := hn (18, some 65) (by simp)
    obtain ⟨g1, e1, h1⟩ := hn (22, some 69) (by simp)
    obtain ⟨g2, e2, h2⟩ := hn (26, some 73) (by simp)
    rw [e2] at h2
    clear hn hb
    have hmk := Lib.hid (makes_any ⟨0, [], [], [fn0], emptyI⟩ (.slice none 0 0) (.slice none 0 0) _ (.slice (some ⟨b6, 0, none⟩) 1 1) _ ⟨2, 1, [], [], [], cC⟩ wn ⟨rdStrs_nil _ _, rdArrs_nil _ _, h1, Hre.out.keep HBN.out, by decide⟩ (HL.out.keep HBN.out) flC rfl h2)
    refine mix_step rfl ?_
    simp only [pv]
    rw [e0, e1, e2]
    go_wp2_with (go_at_call 46; refine hmk.out.mono ?_; rintro e w1 ⟨rfl, hb1⟩)
    exact ⟨_, rfl, hb1, rfl⟩
  · have HBN := Lib.hid (bcomp HD.out hb)
    have e0 : (vs 18).1 = .bool false := hn (18, some 65) (by simp)
    have e1 : (vs 27).1 = .bool true := hn (27, some 74) (by simp)
    clear hn hb
    refine mix_step rfl ?_
    simp only [pv]
    rw [e0, e1]
    go_wp2_with fail
    exact ⟨_, rfl, Below.refl _ _, rfl⟩
  obtain ⟨ym, -⟩ := hy ⟨28, some 75, [(18, some 65), (27, some 74)]⟩ (by simp)
  have em : (vs 28).1 = .bool false := ym
  obtain ⟨yg18, -⟩ := hy ⟨18, some 65, [(17, some 64)]⟩ (by simp)
  have eg18 : (vs 18).1 = .bool false := yg18
  replace HBh := Lib.hid (bcomp HBh.out (bcomp HD.out hb))
  have hbz := bcomp HD.out hb
  replace HH := Lib.hid ((hbz.block hh (Array.getElem?_eq_some_iff.1 HH.out).1).trans HH.out)
  replace Ge4 := Lib.hid ((hbz.block e4 (Array.getElem?_eq_some_iff.1 Ge4.out).1).trans Ge4.out)
  replace Hrl := Lib.hid (Hrl.out.keep hbz)
  replace Hrc := Lib.hid (Hrc.out.keep hbz)
  replace Hre := Lib.hid (Hre.out.keep hbz)
  replace Hri := Lib.hid (Hri.out.keep hbz)
  replace HL := Lib.hid (HL.out.keep hbz)
  replace HM := Lib.hid (HM.out.keep hbz)
  replace HRF : Hid (RdFunc none wn fnD (.slice (some ⟨c4, 0, none⟩) 1 1) (.slice (some ⟨d4, 0, none⟩) 2 2)) := ⟨HRF.out.1.keep hbz, HRF.out.2.1.keep hbz, HRF.out.2.2⟩
  clear hy hd hb hbz HD ym yg18
  simp only [List.map, Maker.pr, pv]
  rw [em, eg18]
  clear em eg18
  simp only [Act.put, List.setIfInBounds_toArray, List.set_cons_succ, List.set_cons_zero, List.getElem_toArray, List.getElem_cons_succ, List.getElem_cons_zero]
  obtain ⟨V8, rfl⟩ : ∃ x : World, x = wn := ⟨_, rfl⟩
  go_upto_region 10 with fail
  try simp only [List.append_eq, List.cons_append, List.nil_append]
  refine wp_region_ownG [0, 2, 12, 15] [⟨1, some 78, []⟩, ⟨3, some 80, [(1, some 78)]⟩, ⟨4, some 81, []⟩, ⟨5, some 82, [(4, some 81)]⟩, ⟨6, some 83, []⟩, ⟨7, some 84, [(6, some 83)]⟩, ⟨8, some 85, []⟩, ⟨9, some 86, [(8, some 85)]⟩, ⟨10, some 87, []⟩, ⟨11, some 88, [(10, some 87)]⟩, ⟨13, some 90, []⟩, ⟨14, some 91, [(13, some 90)]⟩, ⟨16, some 93, [(5, some 82), (7, some 84), (9, some 86), (11, some 88), (14, some 91)]⟩, ⟨17, some 94, [(3, some 80), (16, some 93)]⟩] [18] [_] (fun j => decide (18 ≤ j))
    (fun j v w lo hi => match j with
      | 1 => FunsOf w v [fnD]
      | 3 => ProgFn w v (.slice (some ⟨b5, 0, none⟩) 1 1) [fnD]
      | 4 => ValIs v (.agg #[.int .i64 (-1), .int .u64 3])
      | 5 => ValIs v (.agg #[.int .u8 0, .int .u8 0, .int .i64 1, .int .i64 0, .int .i64 (-1), .int .u64 3, .int .i64 0, .int .u64 0])
      | 6 => ValIs v (.agg #[.int .i64 (-1), .int .u64 0])
      | 7 => ValIs v (.agg #[.int .u8 0, .int .u8 0, .int .i64 2, .int .i64 0, .int .i64 (-1), .int .u64 0, .int .i64 0, .int .u64 0])
      | 8 => ValIs v (.agg #[.int .i64 1, .int .u64 0])
      | 9 => ValIs v (.agg #[.int .u8 1, .int .u8 2, .int .i64 2, .int .i64 0, .int .i64 1, .int .u64 0, .int .i64 0, .int .u64 0])
      | 10 => ValIs v (.agg #[.int .i64 2, .int .u64 0])
      | 11 => ValIs v (.agg #[.int .u8 0, .int .u8 0, .int .i64 0, .int .i64 0, .int .i64 2, .int .u64 0, .int .i64 0, .int .u64 0])
      | 13 => ValIs v (.agg #[.int .i64 (-1), .int .u64 0])
      | 14 => ValIs v (.agg #[.int .u8 0, .int .u8 0, .int .i64 0, .int .i64 0, .int .i64 (-1), .int .u64 0, .int .i64 0, .int .u64 0])
      | 16 => RowOf kCode w v 7 [⟨0, 0, 1, 0, ⟨-1, 3⟩, ⟨0, 0⟩⟩, ⟨0, 0, 2, 0, ⟨-1, 0⟩, ⟨0, 0⟩⟩, ⟨1, 2, 2, 0, ⟨1, 0⟩, ⟨0, 0⟩⟩, ⟨0, 0, 0, 0, ⟨2, 0⟩, ⟨0, 0⟩⟩, ⟨7, 0, 0, 6, ⟨0, 0⟩, ⟨0, 0⟩⟩, ⟨0, 0, 0, 0, ⟨-1, 0⟩, ⟨0, 0⟩⟩, ⟨9, 0, 0, 0, ⟨0, 0⟩, ⟨0, 0⟩⟩]
      | 17 => ValIs v (.bool true)
      | _ => True) (by kernel_rfl) (by kernel_rfl) rfl (by kernel_rfl) rfl rfl (fun _ d _ _ _ h => by cases d <;> exact h) ?_ ?_
  · intro j v w w' lo hi hy hbw
    match j, hy with
    | 1, hy => exact FunsOf.keep hy hbw
    | 3, hy => exact ProgFn.keep hy hbw
    | 4, hy => exact hy
    | 5, hy => exact hy
    | 6, hy => exact hy
    | 7, hy => exact hy
    | 8, hy => exact hy
    | 9, hy => exact hy
    | 10, hy => exact hy
    | 11, hy => exact hy
    | 13, hy => exact hy
    | 14, hy => exact hy
    | 16, hy => exact RowOf.keep hy hbw
    | 17, hy => exact hy
    | 0, _ | 2, _ | 12, _ | 15, _ | (x + 18), _ => trivial
  have l0 := ext_cell (W := V8) (row_of HH.out 0 (.int .u8 9) rfl)
  have l1 := ext_cell (W := V8) (row_of HH.out 1 (.int .u8 0) rfl)
  have l2 := ext_cell (W := V8) (row_of HH.out 2 (.int .i64 0) rfl)
  have l3 := ext_cell (W := V8) (row_of HH.out 3 (.int .i64 0) rfl)
  have l4 := ext_cell (W := V8) (row_of HH.out 4 (.int .i64 0) rfl)
  have l5 := ext_cell (W := V8) (row_of HH.out 5 (.int .u64 0) rfl)
  have l6 := ext_cell (W := V8) (row_of HH.out 6 (.int .i64 0) rfl)
  have l7 := ext_cell (W := V8) (row_of HH.out 7 (.int .u64 0) rfl)
  have m0 := ext_cell (W := V8) (row_of Ge4.out 0 (.string ⟨#[102]⟩) rfl)
  have m1 := ext_cell (W := V8) (row_of Ge4.out 1 (.slice (some ⟨c4, 0, none⟩) 1 1) rfl)
  have m2 := ext_cell (W := V8) (row_of Ge4.out 2 (.slice (some ⟨d4, 0, none⟩) 2 2) rfl)
  have m3 := ext_cell (W := V8) (row_of Ge4.out 3 (.int .i64 0) rfl)
  have m4 := ext_cell (W := V8) (row_of Ge4.out 4 (.int .i64 0) rfl)
  refine mix_reads (by simp only [opsOf, List.filterMap_cons, List.filterMap_nil, List.getElem?_toArray, List.getElem?_cons_succ, List.getElem?_cons_zero]; rfl) ⟨_, ext_of (Below.refl _ _).drew⟩ ?_
  change wpQuiet _ _ _ _ [_, _, _, _] _
  (repeat (go_big_quiet_step (fail)))
  refine wpQuiet_nil ?_
  clear l0 l1 l2 l3 l4 l5 l6 l7 m0 m1 m2 m3 m4
  have HD : Hid (Below V8.heap.size V8 V8.drew) := (Below.refl _ _).drew
  refine ⟨⟨fun vs wn hb hn => ?_, fun vs wn hb hn => ?_, fun vs wn hb hn => ?_, fun vs wn hb hn => ?_, fun vs wn hb hn => ?_, fun vs wn hb hn => ?_, fun vs wn hb hn => ?_, fun vs wn hb hn => ?_, fun vs wn hb hn => ?_, fun vs wn hb hn => ?_, fun vs wn hb hn => ?_, fun vs wn hb hn => ?_, fun vs wn hb hn => ?_, fun vs wn hb hn => ?_, trivial⟩, fun vs wn hb hy hd => ?_⟩
  · have HBN := Lib.hid (bcomp HD.out hb)
    clear hn hb
    refine mix_step rfl ?_
    simp only [pv]
    go_wp2_with fail
    have hal := (Below.refl wn.heap.size wn).alloc (Nat.le_refl _) (.cells #[.string ⟨#[102]⟩, .slice (some ⟨c4, 0, none⟩) 1 1, .slice (some ⟨d4, 0, none⟩) 2 2, .int .i64 0, .int .i64 0] 57)
    exact ⟨_, rfl, hal, wn.heap.size, rfl, rdFn1 (x := fnD) (heap_alloc_new _ _) (⟨HRF.out.1.keep (bcomp HBN.out hal), HRF.out.2.1.keep (bcomp HBN.out hal), HRF.out.2.2⟩)⟩
  · have HBN := Lib.hid (bcomp HD.out hb)
    obtain ⟨g0, e0, h0⟩ := hn (1, some 78) (by simp)
    rw [e0] at h0
    clear hn hb
    refine mix_step rfl ?_
    simp only [pv]
    rw [e0]
    go_wp2_with fail
    exact ⟨_, rfl, Below.refl _ _, g0, rfl, h0⟩
  · have HBN := Lib.hid (bcomp HD.out hb)
    clear hn hb
    refine mix_step rfl ?_
    simp only [pv]
    go_wp2_with (go_at_call 48; refine (num25_any _ _).mono ?_; rintro e w1 ⟨rfl, hb1⟩)
    exact ⟨_, rfl, hb1, rfl⟩
  · have HBN := Lib.hid (bcomp HD.out hb)
    have e0 : (vs 4).1 = .agg #[.int .i64 (-1), .int .u64 3] := hn (4, some 81) (by simp)
    clear hn hb
    refine mix_step rfl ?_
    simp only [pv]
    rw [e0]
    go_wp2_with fail
    exact ⟨_, rfl, Below.refl _ _, rfl⟩
  · have HBN := Lib.hid (bcomp HD.out hb)
    clear hn hb
    refine mix_step rfl ?_
    simp only [pv]
    go_wp2_with (go_at_call 48; refine (num25_any _ _).mono ?_; rintro e w1 ⟨rfl, hb1⟩)
    exact ⟨_, rfl, hb1, rfl⟩
  · have HBN := Lib.hid (bcomp HD.out hb)
    have e0 : (vs 6).1 = .agg #[.int .i64 (-1), .int .u64 0] := hn (6, some 83) (by simp)
    clear hn hb
    refine mix_step rfl ?_
    simp only [pv]
    rw [e0]
    go_wp2_with fail
    exact ⟨_, rfl, Below.refl _ _, rfl⟩
  · have HBN := Lib.hid (bcomp HD.out hb)
    clear hn hb
    refine mix_step rfl ?_
    simp only [pv]
    go_wp2_with (go_at_call 47; refine (reg25_any _ _).mono ?_; rintro e w1 ⟨rfl, hb1⟩)
    exact ⟨_, rfl, hb1, rfl⟩
  · have HBN := Lib.hid (bcomp HD.out hb)
    have e0 : (vs 8).1 = .agg #[.int .i64 1, .int .u64 0] := hn (8, some 85) (by simp)
    clear hn hb
    refine mix_step rfl ?_
    simp only [pv]
    rw [e0]
    go_wp2_with fail
    exact ⟨_, rfl, Below.refl _ _, rfl⟩
  · have HBN := Lib.hid (bcomp HD.out hb)
    clear hn hb
    refine mix_step rfl ?_
    simp only [pv]
    go_wp2_with (go_at_call 47; refine (reg25_any _ _).mono ?_; rintro e w1 ⟨rfl, hb1⟩)
    exact ⟨_, rfl, hb1, rfl⟩
  · have HBN := Lib.hid (bcomp HD.out hb)
    have e0 : (vs 10).1 = .agg #[.int .i64 2, .int .u64 0] := hn (10, some 87) (by simp)
    clear hn hb
    refine mix_step rfl ?_
    simp only [pv]
    rw [e0]
    go_wp2_with fail
    exact ⟨_, rfl, Below.refl _ _, rfl⟩
  · have HBN := Lib.hid (bcomp HD.out hb)
    clear hn hb
    refine mix_step rfl ?_
    simp only [pv]
    go_wp2_with (go_at_call 48; refine (num25_any _ _).mono ?_; rintro e w1 ⟨rfl, hb1⟩)
    exact ⟨_, rfl, hb1, rfl⟩
  · have HBN := Lib.hid (bcomp HD.out hb)
    have e0 : (vs 13).1 = .agg #[.int .i64 (-1), .int .u64 0] := hn (13, some 90) (by simp)
    clear hn hb
    refine mix_step rfl ?_
    simp only [pv]
    rw [e0]
    go_wp2_with fail
    exact ⟨_, rfl, Below.refl _ _, rfl⟩
  · have HBN := Lib.hid (bcomp HD.out hb)
    have e0 : (vs 5).1 = .agg #[.int .u8 0, .int .u8 0, .int .i64 1, .int .i64 0, .int .i64 (-1), .int .u64 3, .int .i64 0, .int .u64 0] := hn (5, some 82) (by simp)
    have e1 : (vs 7).1 = .agg #[.int .u8 0, .int .u8 0, .int .i64 2, .int .i64 0, .int .i64 (-1), .int .u64 0, .int .i64 0, .int .u64 0] := hn (7, some 84) (by simp)
    have e2 : (vs 9).1 = .agg #[.int .u8 1, .int .u8 2, .int .i64 2, .int .i64 0, .int .i64 1, .int .u64 0, .int .i64 0, .int .u64 0] := hn (9, some 86) (by simp)
    have e3 : (vs 11).1 = .agg #[.int .u8 0, .int .u8 0, .int .i64 0, .int .i64 0, .int .i64 2, .int .u64 0, .int .i64 0, .int .u64 0] := hn (11, some 88) (by simp)
    have e4 : (vs 14).1 = .agg #[.int .u8 0, .int .u8 0, .int .i64 0, .int .i64 0, .int .i64 (-1), .int .u64 0, .int .i64 0, .int .u64 0] := hn (14, some 91) (by simp)
    clear hn hb
    refine mix_step rfl ?_
    simp only [pv]
    rw [e0, e1, e2, e3, e4]
    go_wp2_with fail
    exact ⟨_, rfl, (Below.refl _ _).alloc (Nat.le_refl _) _, wn.heap.size, rfl, rowNewF kCode (l := [⟨0, 0, 1, 0, ⟨-1, 3⟩, ⟨0, 0⟩⟩, ⟨0, 0, 2, 0, ⟨-1, 0⟩, ⟨0, 0⟩⟩, ⟨1, 2, 2, 0, ⟨1, 0⟩, ⟨0, 0⟩⟩, ⟨0, 0, 0, 0, ⟨2, 0⟩, ⟨0, 0⟩⟩, ⟨7, 0, 0, 6, ⟨0, 0⟩, ⟨0, 0⟩⟩, ⟨0, 0, 0, 0, ⟨-1, 0⟩, ⟨0, 0⟩⟩, ⟨9, 0, 0, 0, ⟨0, 0⟩, ⟨0, 0⟩⟩]) (heap_alloc_new _ _) rfl (by decide) (by decide)⟩
  · have HBN := Lib.hid (bcomp HD.out hb)
    obtain ⟨g0, e0, h0⟩ := hn (3, some 80) (by simp)
    obtain ⟨g1, e1, h1⟩ := hn (16, some 93) (by simp)
    rw [e1] at h1
    clear hn hb
    have hmk := Lib.hid (makes_any ⟨0, [], [], [fnD], callI⟩ (.slice none 0 0) (.slice none 0 0) _ (.slice (some ⟨b5, 0, none⟩) 1 1) _ ⟨2, 3, [], [], [], cD⟩ wn ⟨rdStrs_nil _ _, rdArrs_nil _ _, h0, Hrc.out.keep HBN.out, by decide⟩ (HL.out.keep HBN.out) flD rfl h1)
    refine mix_step rfl ?_
    simp only [pv]
    rw [e0, e1]
    go_wp2_with (go_at_call 46; refine hmk.out.mono ?_; rintro e w1 ⟨rfl, hb1⟩)
    exact ⟨_, rfl, hb1, rfl⟩
  obtain ⟨ym, -⟩ := hy ⟨17, some 94, [(3, some 80), (16, some 93)]⟩ (by simp)
  have em : (vs 17).1 = .bool true := ym
  replace HBh := Lib.hid (bcomp HBh.out (bcomp HD.out hb))
  have hbz := bcomp HD.out hb
  replace HH := Lib.hid ((hbz.block hh (Array.getElem?_eq_some_iff.1 HH.out).1).trans HH.out)
  replace Ge4 := Lib.hid ((hbz.block e4 (Array.getElem?_eq_some_iff.1 Ge4.out).1).trans Ge4.out)
  replace Hrl := Lib.hid (Hrl.out.keep hbz)
  replace Hrc := Lib.hid (Hrc.out.keep hbz)
  replace Hre := Lib.hid (Hre.out.keep hbz)
  replace Hri := Lib.hid (Hri.out.keep hbz)
  replace HL := Lib.hid (HL.out.keep hbz)
  replace HM := Lib.hid (HM.out.keep hbz)
  replace HRF : Hid (RdFunc none wn fnD (.slice (some ⟨c4, 0, none⟩) 1 1) (.slice (some ⟨d4, 0, none⟩) 2 2)) := ⟨HRF.out.1.keep hbz, HRF.out.2.1.keep hbz, HRF.out.2.2⟩
  clear hy hd hb hbz HD ym
  simp only [List.map, Maker.pr, pv]
  rw [em]
  clear em
  simp only [Act.put, List.setIfInBounds_toArray, List.set_cons_succ, List.set_cons_zero, List.getElem_toArray, List.getElem_cons_succ, List.getElem_cons_zero]
  obtain ⟨V10, rfl⟩ : ∃ x : World, x = wn := ⟨_, rfl⟩
  go_upto_region 12 with fail
  try simp only [List.append_eq, List.cons_append, List.nil_append]
  refine wp_region_ownG [1, 3, 8] [⟨0, some 96, []⟩, ⟨2, some 98, [(0, some 96)]⟩, ⟨4, some 100, []⟩, ⟨5, some 101, [(4, some 100)]⟩, ⟨6, some 102, []⟩, ⟨7, some 103, [(6, some 102)]⟩, ⟨9, some 105, [(5, some 101), (7, some 103)]⟩, ⟨10, some 106, [(2, some 98), (9, some 105)]⟩] [11] [_] (fun j => decide (11 ≤ j))
    (fun j v w lo hi => match j with
      | 0 => StrsOf w v [sc]
      | 2 => ProgCh w v (.slice (some ⟨b7, 0, none⟩) 3 3) [sc]
      | 4 => ValIs v (.agg #[.int .i64 (-1), .int .u64 3])
      | 5 => ValIs v (.agg #[.int .u8 5, .int .u8 0, .int .i64 0, .int .i64 0, .int .i64 (-1), .int .u64 3, .int .i64 0, .int .u64 0])
      | 6 => ValIs v (.agg #[.int .i64 0, .int .u64 0])
      | 7 => ValIs v (.agg #[.int .u8 6, .int .u8 0, .int .i64 1, .int .i64 0, .int .i64 0, .int .u64 0, .int .i64 0, .int .u64 0])
      | 9 => RowOf kCode w v 4 [⟨4, 0, 0, 0, ⟨0, 0⟩, ⟨0, 0⟩⟩, ⟨5, 0, 0, 0, ⟨-1, 3⟩, ⟨0, 0⟩⟩, ⟨6, 0, 1, 0, ⟨0, 0⟩, ⟨0, 0⟩⟩, ⟨9, 0, 0, 0, ⟨0, 0⟩, ⟨0, 0⟩⟩]
      | 10 => ValIs v (.bool true)
      | _ => True) (by kernel_rfl) (by kernel_rfl) rfl (by kernel_rfl) rfl rfl (fun _ d _ _ _ h => by cases d <;> exact h) ?_ ?_
  · intro j v w w' lo hi hy hbw
    match j, hy with
    | 0, hy => exact StrsOf.keep hy hbw
    | 2, hy => exact ProgCh.keep hy hbw
    | 4, hy => exact hy
    | 5, hy => exact hy
    | 6, hy => exact hy
    | 7, hy => exact hy
    | 9, hy => exact RowOf.keep hy hbw
    | 10, hy => exact hy
    | 1, _ | 3, _ | 8, _ | (x + 11), _ => trivial
  have l0 := ext_cell (W := V10) (row_of HH.out 0 (.int .u8 9) rfl)
  have l1 := ext_cell (W := V10) (row_of HH.out 1 (.int .u8 0) rfl)
  have l2 := ext_cell (W := V10) (row_of HH.out 2 (.int .i64 0) rfl)
  have l3 := ext_cell (W := V10) (row_of HH.out 3 (.int .i64 0) rfl)
  have l4 := ext_cell (W := V10) (row_of HH.out 4 (.int .i64 0) rfl)
  have l5 := ext_cell (W := V10) (row_of HH.out 5 (.int .u64 0) rfl)
  have l6 := ext_cell (W := V10) (row_of HH.out 6 (.int .i64 0) rfl)
  have l7 := ext_cell (W := V10) (row_of HH.out 7 (.int .u64 0) rfl)
  refine mix_reads (by simp only [opsOf, List.filterMap_cons, List.filterMap_nil, List.getElem?_toArray, List.getElem?_cons_succ, List.getElem?_cons_zero]; rfl) ⟨_, ext_of (Below.refl _ _).drew⟩ ?_
  change wpQuiet _ _ _ _ [_, _, _] _
  (repeat (go_big_quiet_step (fail)))
  refine wpQuiet_nil ?_
  clear l0 l1 l2 l3 l4 l5 l6 l7
  have HD : Hid (Below V10.heap.size V10 V10.drew) := (Below.refl _ _).drew
  refine ⟨⟨fun vs wn hb hn => ?_, fun vs wn hb hn => ?_, fun vs wn hb hn => ?_, fun vs wn hb hn => ?_, fun vs wn hb hn => ?_, fun vs wn hb hn => ?_, fun vs wn hb hn => ?_, fun vs wn hb hn => ?_, trivial⟩, fun vs wn hb hy hd => ?_⟩
  · have HBN := Lib.hid (bcomp HD.out hb)
    clear hn hb
    refine mix_step rfl ?_
    simp only [pv]
    go_wp2_with fail
    exact ⟨_, rfl, (Below.refl _ _).alloc (Nat.le_refl _) _, wn.heap.size, rfl, rdS (l := [sc]) (heap_alloc_new _ _) (by simp) (by decide)⟩
  · have HBN := Lib.hid (bcomp HD.out hb)
    obtain ⟨g0, e0, h0⟩ := hn (0, some 96) (by simp)
    rw [e0] at h0
    clear hn hb
    refine mix_step rfl ?_
    simp only [pv]
    rw [e0]
    go_wp2_with fail
    exact ⟨_, rfl, Below.refl _ _, g0, rfl, h0⟩
  · have HBN := Lib.hid (bcomp HD.out hb)
    clear hn hb
    refine mix_step rfl ?_
    simp only [pv]
    go_wp2_with (go_at_call 48; refine (num25_any _ _).mono ?_; rintro e w1 ⟨rfl, hb1⟩)
    exact ⟨_, rfl, hb1, rfl⟩
  · have HBN := Lib.hid (bcomp HD.out hb)
    have e0 : (vs 4).1 = .agg #[.int .i64 (-1), .int .u64 3] := hn (4, some 100) (by simp)
    clear hn hb
    refine mix_step rfl ?_
    simp only [pv]
    rw [e0]
    go_wp2_with fail
    exact ⟨_, rfl, Below.refl _ _, rfl⟩
  · have HBN := Lib.hid (bcomp HD.out hb)
    clear hn hb
    refine mix_step rfl ?_
    simp only [pv]
    go_wp2_with (go_at_call 47; refine (reg25_any _ _).mono ?_; rintro e w1 ⟨rfl, hb1⟩)
    exact ⟨_, rfl, hb1, rfl⟩
  · have HBN := Lib.hid (bcomp HD.out hb)
    have e0 : (vs 6).1 = .agg #[.int .i64 0, .int .u64 0] := hn (6, some 102) (by simp)
    clear hn hb
    refine mix_step rfl ?_
    simp only [pv]
    rw [e0]
    go_wp2_with fail
    exact ⟨_, rfl, Below.refl _ _, rfl⟩
  · have HBN := Lib.hid (bcomp HD.out hb)
    have e0 : (vs 5).1 = .agg #[.int .u8 5, .int .u8 0, .int .i64 0, .int .i64 0, .int .i64 (-1), .int .u64 3, .int .i64 0, .int .u64 0] := hn (5, some 101) (by simp)
    have e1 : (vs 7).1 = .agg #[.int .u8 6, .int .u8 0, .int .i64 1, .int .i64 0, .int .i64 0, .int .u64 0, .int .i64 0, .int .u64 0] := hn (7, some 103) (by simp)
    clear hn hb
    refine mix_step rfl ?_
    simp only [pv]
    rw [e0, e1]
    go_wp2_with fail
    exact ⟨_, rfl, (Below.refl _ _).alloc (Nat.le_refl _) _, wn.heap.size, rfl, rowNewF kCode (l := [⟨4, 0, 0, 0, ⟨0, 0⟩, ⟨0, 0⟩⟩, ⟨5, 0, 0, 0, ⟨-1, 3⟩, ⟨0, 0⟩⟩, ⟨6, 0, 1, 0, ⟨0, 0⟩, ⟨0, 0⟩⟩, ⟨9, 0, 0, 0, ⟨0, 0⟩, ⟨0, 0⟩⟩]) (heap_alloc_new _ _) rfl (by decide) (by decide)⟩
  · have HBN := Lib.hid (bcomp HD.out hb)
    obtain ⟨g0, e0, h0⟩ := hn (2, some 98) (by simp)
    obtain ⟨g1, e1, h1⟩ := hn (9, some 105) (by simp)
    rw [e1] at h1
    clear hn hb
    have hmk := Lib.hid (makes_any ⟨0, [sc], [], [], ioI⟩ _ (.slice none 0 0) (.slice none 0 0) (.slice (some ⟨b7, 0, none⟩) 3 3) _ ⟨2, 2, [sc], [ss], [], cE⟩ wn ⟨h0, rdArrs_nil _ _, rdFuncs_nil _ _, Hri.out.keep HBN.out, by decide⟩ (HL.out.keep HBN.out) flE rfl h1)
    refine mix_step rfl ?_
    simp only [pv]
    rw [e0, e1]
    go_wp2_with (go_at_call 46; refine hmk.out.mono ?_; rintro e w1 ⟨rfl, hb1⟩)
    exact ⟨_, rfl, hb1, rfl⟩
  obtain ⟨ym, -⟩ := hy ⟨10, some 106, [(2, some 98), (9, some 105)]⟩ (by simp)
  have em : (vs 10).1 = .bool true := ym
  replace HBh := Lib.hid (bcomp HBh.out (bcomp HD.out hb))
  have hbz := bcomp HD.out hb
  replace HH := Lib.hid ((hbz.block hh (Array.getElem?_eq_some_iff.1 HH.out).1).trans HH.out)
  replace Ge4 := Lib.hid ((hbz.block e4 (Array.getElem?_eq_some_iff.1 Ge4.out).1).trans Ge4.out)
  replace Hrl := Lib.hid (Hrl.out.keep hbz)
  replace Hrc := Lib.hid (Hrc.out.keep hbz)
  replace Hre := Lib.hid (Hre.out.keep hbz)
  replace Hri := Lib.hid (Hri.out.keep hbz)
  replace HL := Lib.hid (HL.out.keep hbz)
  replace HM := Lib.hid (HM.out.keep hbz)
  replace HRF : Hid (RdFunc none wn fnD (.slice (some ⟨c4, 0, none⟩) 1 1) (.slice (some ⟨d4, 0, none⟩) 2 2)) := ⟨HRF.out.1.keep hbz, HRF.out.2.1.keep hbz, HRF.out.2.2⟩
  clear hy hd hb hbz HD ym
  simp only [List.map, Maker.pr, pv]
  rw [em]
  clear em
  simp only [Act.put, List.setIfInBounds_toArray, List.set_cons_succ, List.set_cons_zero, List.getElem_toArray, List.getElem_cons_succ, List.getElem_cons_zero]
  obtain ⟨V12, rfl⟩ : ∃ x : World, x = wn := ⟨_, rfl⟩
  have HOF : Hid (Calls Tryd.prog 11 #[.agg #[.int .i64 0, .slice none 0 0, .slice none 0 0, .slice none 0 0, .slice none 0 0]] V12 fun e w' => ∃ c1 k1 c2 k2 c3 k3 c4 k4, e = .returned (.tuple #[.agg #[.int .i64 0, .int .i64 0, .slice c1 0 k1, .slice c2 0 k2, .slice c3 0 k3, .slice c4 0 k4], .int .i64 3]) ∧ Below V12.heap.size V12 w') := by
    refine (flatOf_any pZ _ _ _ _ V12 ⟨rdStrs_nil _ _, rdArrs_nil _ _, rdFuncs_nil _ _, rdInstrs_nil _ _, by decide⟩ HL.out).mono ?_
    rintro e w' ⟨c, s, a, k, rfl, hrd, hz⟩
    rw [flZ] at hrd ⊢
    obtain ⟨c1, k1, rfl⟩ := hrd.1.is
    obtain ⟨c2, k2, rfl⟩ := hrd.2.1.is
    obtain ⟨c3, k3, rfl⟩ := hrd.2.2.1.is
    obtain ⟨c4, k4, rfl⟩ := hrd.2.2.2.1.is
    exact ⟨c1, k1, c2, k2, c3, k3, c4, k4, rfl, hz⟩
  have HCK : Hid (∀ z, Below V12.heap.size V12 z → Calls Tryd.prog 18 #[.agg #[.int .i64 0, .int .i64 0, .slice none 0 0, .slice none 0 0, .slice none 0 0, .slice none 0 0]] z fun e w' => e = .returned (.int .i64 2) ∧ Below z.heap.size z w') := fun z hz => by
    have h1 := flatCheck zeroFlat (.slice none 0 0) (.slice none 0 0) (.slice none 0 0) (.slice none 0 0) z (rdFlat_zero none z) (HM.out.keep hz)
    have h2 : flatE zeroFlat = 2 := by kernel_rfl
    rw [h2] at h1
    exact h1
  clear HL HM Hrl Hrc Hre Hri HRF HH Ge4
  go_upto_region 15 with (first | (go_at_call 11; refine HOF.out.mono ?_; rintro e z ⟨d1, k1, d2, k2, d3, k3, d4, k4, rfl, hz⟩; have BZ := Lib.hid hz; have HN := Lib.hid (heap_alloc_new z (.cells #[.int .i64 0, .int .i64 0, .slice none 0 0, .slice none 0 0, .slice none 0 0, .slice none 0 0] 32)); clear hz) | (refine wpList_store_row rfl 32 (.tmp 10) (.tmp 111) rfl z.heap.size #[.int .i64 0, .int .i64 0, .slice d1 0 k1, .slice d2 0 k2, .slice d3 0 k3, .slice d4 0 k4] rfl rfl 32 #[.int .i64 0, .int .i64 0, .slice none 0 0, .slice none 0 0, .slice none 0 0, .slice none 0 0] ?hs9 (by as_aux_lemma => kernel_rfl) (by as_aux_lemma => kernel_rfl) (by as_aux_lemma => kernel_rfl) ?_; exact HN.out))
  have hal : Below z.heap.size z ((z.alloc (.cells #[.int .i64 0, .int .i64 0, .slice none 0 0, .slice none 0 0, .slice none 0 0, .slice none 0 0] 32)).setRow z.heap.size #[.int .i64 0, .int .i64 0, .slice d1 0 k1, .slice d2 0 k2, .slice d3 0 k3, .slice d4 0 k4]) := below_row ((Below.refl _ _).alloc (Nat.le_refl _) _) (Nat.le_refl _) _
  try simp only [Act.put]
  have HBF := Lib.hid (bcomp BZ.out hal)
  clear HOF HN hal BZ
  generalize (z.alloc (.cells #[.int .i64 0, .int .i64 0, .slice none 0 0, .slice none 0 0, .slice none 0 0, .slice none 0 0] 32)).setRow z.heap.size #[.int .i64 0, .int .i64 0, .slice d1 0 k1, .slice d2 0 k2, .slice d3 0 k3, .slice d4 0 k4] = Wf at *
  have HCF := Lib.hid (HCK.out Wf HBF.out)
  clear HCK
  go_wp2_with (go_at_call 18; refine HCF.out.mono ?_; rintro e z9 ⟨rfl, hz⟩; have B9 := Lib.hid hz; clear hz)
  go_ret
  exact ⟨rfl, bcomp HBh.out (bcomp HBF.out B9.out)⟩
end Go.Proofs.YtgcfdbhpophnjaaDoor
