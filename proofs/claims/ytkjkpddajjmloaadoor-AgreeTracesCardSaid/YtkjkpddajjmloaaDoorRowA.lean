/- What programs without functions, traces and runs are as data, and how lists of their parts lie in memory. Plain definitions and lemmas; no condition. -/
import Derived.Test.YtkjkpddajjmloaaDoorBas
set_option linter.unusedVariables false
set_option linter.unusedSimpArgs false
namespace Go.Proofs.YtkjkpddajjmloaaDoor
open Go.ChangeShapes Go.WideShapes Go.ChangeAt Go.RowKit
/-- An operand of a flat instruction. -/
structure RefD where
  reg : Int
  num : Int
/-- A flat instruction. -/
structure CodeD where
  kind : Int
  op : Int
  dst : Int
  n : Int
  a : RefD
  b : RefD
/-- A flat program. -/
structure FlatD where
  width : Int
  regs : Int
  chans : List ByteArray
  sites : List ByteArray
  arrays : List Int
  code : List CodeD
/-- An event. -/
structure EvD where
  n : Int
  val : Int
/-- A trace. -/
structure TraceD where
  status : Int
  steps : Int
  outs : List EvD
  rels : List EvD
  brs : List Bool
  reads : List Int
def cellsStr (x : ByteArray) : List Value := [.string x]
abbrev kStr : Kind ByteArray := ⟨9, 1, 16, cellsStr, fun x => x.size ≤ maxLen, fun _ => rfl, by decide⟩
theorem atStr {lo : Option (Nat → Prop)} {w : World} {a : Option Addr} {n c : Nat} {l : List ByteArray} (h : RdRow kStr lo w (.slice a n c) l) {i : Nat} {x : ByteArray} (hx : l[i]? = some x) :
    ∃ b o, a = some ⟨b, o, none⟩ ∧ Free lo 9 w b ∧ w.cell? ⟨b, o + i, none⟩ = some (.string x) ∧ (x.size ≤ maxLen) := by
  obtain ⟨b, o, rfl, hf, hc, ho⟩ := RdRow.at h hx
  refine ⟨b, o, rfl, hf, ?_, ho⟩
  · have := hc 0 _ rfl; rwa [Nat.mul_one, Nat.add_zero] at this
def cellsInt (x : Int) : List Value := [.int .i64 x]
abbrev kInt : Kind Int := ⟨3, 1, 8, cellsInt, fun x => InI64 x, fun _ => rfl, by decide⟩
theorem atInt {lo : Option (Nat → Prop)} {w : World} {a : Option Addr} {n c : Nat} {l : List Int} (h : RdRow kInt lo w (.slice a n c) l) {i : Nat} {x : Int} (hx : l[i]? = some x) :
    ∃ b o, a = some ⟨b, o, none⟩ ∧ Free lo 3 w b ∧ w.cell? ⟨b, o + i, none⟩ = some (.int .i64 x) ∧ (InI64 x) := by
  obtain ⟨b, o, rfl, hf, hc, ho⟩ := RdRow.at h hx
  refine ⟨b, o, rfl, hf, ?_, ho⟩
  · have := hc 0 _ rfl; rwa [Nat.mul_one, Nat.add_zero] at this
def cellsNum (x : Int) : List Value := [.int .u64 x]
abbrev kNum : Kind Int := ⟨55, 1, 8, cellsNum, fun x => InU64 x, fun _ => rfl, by decide⟩
theorem atNum {lo : Option (Nat → Prop)} {w : World} {a : Option Addr} {n c : Nat} {l : List Int} (h : RdRow kNum lo w (.slice a n c) l) {i : Nat} {x : Int} (hx : l[i]? = some x) :
    ∃ b o, a = some ⟨b, o, none⟩ ∧ Free lo 55 w b ∧ w.cell? ⟨b, o + i, none⟩ = some (.int .u64 x) ∧ (InU64 x) := by
  obtain ⟨b, o, rfl, hf, hc, ho⟩ := RdRow.at h hx
  refine ⟨b, o, rfl, hf, ?_, ho⟩
  · have := hc 0 _ rfl; rwa [Nat.mul_one, Nat.add_zero] at this
def cellsBool (x : Bool) : List Value := [.bool x]
abbrev kBool : Kind Bool := ⟨4, 1, 1, cellsBool, fun x => True, fun _ => rfl, by decide⟩
theorem atBool {lo : Option (Nat → Prop)} {w : World} {a : Option Addr} {n c : Nat} {l : List Bool} (h : RdRow kBool lo w (.slice a n c) l) {i : Nat} {x : Bool} (hx : l[i]? = some x) :
    ∃ b o, a = some ⟨b, o, none⟩ ∧ Free lo 4 w b ∧ w.cell? ⟨b, o + i, none⟩ = some (.bool x) ∧ (True) := by
  obtain ⟨b, o, rfl, hf, hc, ho⟩ := RdRow.at h hx
  refine ⟨b, o, rfl, hf, ?_, ho⟩
  · have := hc 0 _ rfl; rwa [Nat.mul_one, Nat.add_zero] at this
def cellsCode (x : CodeD) : List Value := [.int .u8 x.kind, .int .u8 x.op, .int .i64 x.dst, .int .i64 x.n, .int .i64 x.a.reg, .int .u64 x.a.num, .int .i64 x.b.reg, .int .u64 x.b.num]
abbrev kCode : Kind CodeD := ⟨103, 8, 56, cellsCode, fun x => InU8 x.kind ∧ InU8 x.op ∧ InI64 x.dst ∧ InI64 x.n ∧ InI64 x.a.reg ∧ InU64 x.a.num ∧ InI64 x.b.reg ∧ InU64 x.b.num, fun _ => rfl, by decide⟩
theorem atCode {lo : Option (Nat → Prop)} {w : World} {a : Option Addr} {n c : Nat} {l : List CodeD} (h : RdRow kCode lo w (.slice a n c) l) {i : Nat} {x : CodeD} (hx : l[i]? = some x) :
    ∃ b o, a = some ⟨b, o, none⟩ ∧ Free lo 103 w b ∧ w.cell? ⟨b, o + i * 8, none⟩ = some (.int .u8 x.kind) ∧ w.cell? ⟨b, o + i * 8 + 1, none⟩ = some (.int .u8 x.op) ∧ w.cell? ⟨b, o + i * 8 + 2, none⟩ = some (.int .i64 x.dst) ∧ w.cell? ⟨b, o + i * 8 + 3, none⟩ = some (.int .i64 x.n) ∧ w.cell? ⟨b, o + i * 8 + 4, none⟩ = some (.int .i64 x.a.reg) ∧ w.cell? ⟨b, o + i * 8 + 5, none⟩ = some (.int .u64 x.a.num) ∧ w.cell? ⟨b, o + i * 8 + 6, none⟩ = some (.int .i64 x.b.reg) ∧ w.cell? ⟨b, o + i * 8 + 7, none⟩ = some (.int .u64 x.b.num) ∧ (InU8 x.kind ∧ InU8 x.op ∧ InI64 x.dst ∧ InI64 x.n ∧ InI64 x.a.reg ∧ InU64 x.a.num ∧ InI64 x.b.reg ∧ InU64 x.b.num) := by
  obtain ⟨b, o, rfl, hf, hc, ho⟩ := RdRow.at h hx
  refine ⟨b, o, rfl, hf, ?_, ?_, ?_, ?_, ?_, ?_, ?_, ?_, ho⟩
  · have := hc 0 _ rfl; exact this
  · have := hc 1 _ rfl; exact this
  · have := hc 2 _ rfl; exact this
  · have := hc 3 _ rfl; exact this
  · have := hc 4 _ rfl; exact this
  · have := hc 5 _ rfl; exact this
  · have := hc 6 _ rfl; exact this
  · have := hc 7 _ rfl; exact this
def cellsEv (x : EvD) : List Value := [.int .i64 x.n, .int .u64 x.val]
abbrev kEv : Kind EvD := ⟨146, 2, 16, cellsEv, fun x => InI64 x.n ∧ InU64 x.val, fun _ => rfl, by decide⟩
theorem atEv {lo : Option (Nat → Prop)} {w : World} {a : Option Addr} {n c : Nat} {l : List EvD} (h : RdRow kEv lo w (.slice a n c) l) {i : Nat} {x : EvD} (hx : l[i]? = some x) :
    ∃ b o, a = some ⟨b, o, none⟩ ∧ Free lo 146 w b ∧ w.cell? ⟨b, o + i * 2, none⟩ = some (.int .i64 x.n) ∧ w.cell? ⟨b, o + i * 2 + 1, none⟩ = some (.int .u64 x.val) ∧ (InI64 x.n ∧ InU64 x.val) := by
  obtain ⟨b, o, rfl, hf, hc, ho⟩ := RdRow.at h hx
  refine ⟨b, o, rfl, hf, ?_, ?_, ho⟩
  · have := hc 0 _ rfl; exact this
  · have := hc 1 _ rfl; exact this
/-- A list of lists of numbers. -/
def RdLists (lo : Option (Nat → Prop)) (w : World) (v : Value) (ls : List (List Int)) : Prop :=
  ∃ a c, v = .slice a ls.length c ∧ (ls.length * 24 ≤ 140737488351232 ∧ ls.length ≤ c) ∧ ∀ i l, ls[i]? = some l → ∃ b o iv, a = some ⟨b, o, none⟩ ∧ Free lo 54 w b ∧ w.cell? ⟨b, o + i, none⟩ = some iv ∧ RdRow kNum lo w iv l
theorem RdLists.keep {lo : Option (Nat → Prop)} {w w' : World} {v : Value} {l : List (List Int)} (h : RdLists lo w v l) (k : Below w.heap.size w w') : RdLists lo w' v l := by
  obtain ⟨a, c, rfl, hl, hr⟩ := h
  refine ⟨a, c, rfl, hl, fun i x hx => ?_⟩
  obtain ⟨b, o, iv, rfl, hf, h0, h1⟩ := hr i x hx
  exact ⟨b, o, iv, rfl, hf.keep (block_lt_of_cell h0) k, cell_keep k h0, h1.keep k⟩
theorem RdLists.forget {lo : Option (Nat → Prop)} {w : World} {v : Value} {l : List (List Int)} (h : RdLists lo w v l) : RdLists none w v l := by
  obtain ⟨a, c, rfl, hl, hr⟩ := h
  refine ⟨a, c, rfl, hl, fun i x hx => ?_⟩
  obtain ⟨b, o, iv, rfl, hf, h0, h1⟩ := hr i x hx
  exact ⟨b, o, iv, rfl, Free.none _ _ _, h0, h1.forget⟩
theorem RdLists.same {g g' : Nat → Prop} {w w' : World} {v : Value} {l : List (List Int)} (h : RdLists (some g) w v l) (k : ∀ b, g b → b < w.heap.size → w'.heap[b]? = w.heap[b]?) (hg : ∀ b, b < w.heap.size → g b → g' b) : RdLists (some g') w' v l := by
  obtain ⟨a, c, rfl, hl, hr⟩ := h
  refine ⟨a, c, rfl, hl, fun i x hx => ?_⟩
  obtain ⟨b, o, iv, rfl, hf, h0, h1⟩ := hr i x hx
  obtain ⟨g1, cs, g2⟩ := hf g rfl
  have hlt := block_lt_of_cell h0
  exact ⟨b, o, iv, rfl, Free.of (hg b hlt g1) ((k b g1 hlt).trans g2), by rw [World.cell?_of_block (w := w) (k b g1 hlt)]; exact h0, h1.same k hg⟩
theorem RdLists.up {n m : Nat} {w : World} {v : Value} {l : List (List Int)} (h : RdLists (some (upFrom n)) w v l) (hm : m ≤ n) : RdLists (some (upFrom m)) w v l := RdLists.same h (fun _ _ _ => rfl) (fun _ _ k => Nat.le_trans hm k)
theorem RdLists.is {lo : Option (Nat → Prop)} {w : World} {v : Value} {l : List (List Int)} (h : RdLists lo w v l) : ∃ a c, v = .slice a l.length c := by
  obtain ⟨a, c, rfl, _⟩ := h; exact ⟨a, c, rfl⟩
theorem RdLists.at {lo : Option (Nat → Prop)} {w : World} {a : Option Addr} {n c : Nat} {ls : List (List Int)} (h : RdLists lo w (.slice a n c) ls) {i : Nat} {l : List Int} (hx : ls[i]? = some l) :
    ∃ b o a' c', a = some ⟨b, o, none⟩ ∧ Free lo 54 w b ∧ w.cell? ⟨b, o + i, none⟩ = some (.slice a' l.length c') ∧ RdRow kNum lo w (.slice a' l.length c') l := by
  obtain ⟨a', c', e, hl, hr⟩ := h
  simp only [Value.slice.injEq] at e
  obtain ⟨rfl, _, _⟩ := e
  obtain ⟨b, o, iv, e, h1, h2, h3⟩ := hr i l hx
  obtain ⟨a2, c2, rfl⟩ := h3.is
  exact ⟨b, o, a2, c2, e, h1, h2, h3⟩
theorem RdLists.size {lo : Option (Nat → Prop)} {w : World} {v : Value} {l : List (List Int)} (h : RdLists lo w v l) : l.length * 24 ≤ 140737488351232 := by
  obtain ⟨_, _, _, hl, _⟩ := h; exact hl.1
theorem RdLists.one {lo : Option (Nat → Prop)} {w : World} {v : Value} {l : List (List Int)} (h : RdLists lo w v l) : v.oneCell' = true := by
  obtain ⟨a, c, rfl, _⟩ := h; rfl
theorem RdLists.take {lo : Option (Nat → Prop)} {w : World} {a : Option Addr} {n c : Nat} {l : List (List Int)} (h : RdLists lo w (.slice a n c) l) (k : Nat) (hk : k ≤ l.length) : RdLists lo w (.slice a k c) (l.take k) := by
  obtain ⟨a', c', e, hl, hr⟩ := h
  simp only [Value.slice.injEq] at e
  obtain ⟨rfl, _, rfl⟩ := e
  have hlen : (l.take k).length = k := by rw [List.length_take]; omega
  refine ⟨a, c, by rw [hlen], ⟨by omega, by omega⟩, fun i x hx => hr i x ?_⟩
  rw [List.getElem?_take] at hx
  split at hx
  · exact hx
  · cases hx
/-- The four slices of a flat program read as its lists. -/
def RdFlat (lo : Option (Nat → Prop)) (w : World) (f : FlatD) (cv sv av kv : Value) : Prop :=
  RdRow kStr lo w cv f.chans ∧ RdRow kStr lo w sv f.sites ∧ RdRow kInt lo w av f.arrays ∧ RdRow kCode lo w kv f.code ∧ InI64 f.width ∧ InI64 f.regs
theorem RdFlat.keep {lo : Option (Nat → Prop)} {w w' : World} {f : FlatD} {cv sv av kv : Value} (h : RdFlat lo w f cv sv av kv) (k : Below w.heap.size w w') : RdFlat lo w' f cv sv av kv :=
  ⟨h.1.keep k, h.2.1.keep k, h.2.2.1.keep k, h.2.2.2.1.keep k, h.2.2.2.2⟩
theorem RdFlat.forget {lo : Option (Nat → Prop)} {w : World} {f : FlatD} {cv sv av kv : Value} (h : RdFlat lo w f cv sv av kv) : RdFlat none w f cv sv av kv :=
  ⟨h.1.forget, h.2.1.forget, h.2.2.1.forget, h.2.2.2.1.forget, h.2.2.2.2⟩
/-- A flat program as a value. -/
abbrev flatV (f : FlatD) (cv sv av kv : Value) : Value := .agg #[.int .i64 f.width, .int .i64 f.regs, cv, sv, av, kv]
abbrev traceV (t : TraceD) (ov rv bv dv : Value) : Value := .agg #[.int .u8 t.status, .int .i64 t.steps, ov, rv, bv, dv]
/-- The four slices of a trace read as its lists. -/
def RdTrace (lo : Option (Nat → Prop)) (w : World) (t : TraceD) (ov rv bv dv : Value) : Prop :=
  RdRow kEv lo w ov t.outs ∧ RdRow kEv lo w rv t.rels ∧ RdRow kBool lo w bv t.brs ∧ RdRow kInt lo w dv t.reads ∧ InU8 t.status ∧ InI64 t.steps
theorem RdTrace.keep {lo : Option (Nat → Prop)} {w w' : World} {t : TraceD} {a b c d : Value} (h : RdTrace lo w t a b c d) (k : Below w.heap.size w w') : RdTrace lo w' t a b c d :=
  ⟨h.1.keep k, h.2.1.keep k, h.2.2.1.keep k, h.2.2.2.1.keep k, h.2.2.2.2⟩
theorem RdTrace.forget {lo : Option (Nat → Prop)} {w : World} {t : TraceD} {a b c d : Value} (h : RdTrace lo w t a b c d) : RdTrace none w t a b c d :=
  ⟨h.1.forget, h.2.1.forget, h.2.2.1.forget, h.2.2.2.1.forget, h.2.2.2.2⟩
end Go.Proofs.YtkjkpddajjmloaaDoor
