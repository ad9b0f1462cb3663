/- What a run of a flat program does, on plain data, and how a run lies in memory. Plain definitions and lemmas; no condition. -/
import Derived.Test.YtkjkpddajjmloaaDoorMRf
import Derived.Test.YtkjkpddajjmloaaDoorRowL
set_option linter.unusedVariables false
set_option linter.unusedSimpArgs false
namespace Go.Proofs.YtkjkpddajjmloaaDoor
open Go.ChangeShapes Go.WideShapes Go.ChangeAt Go.RowKit
/-- A run after some steps. -/
structure MachD where
  regs : List Int
  arrs : List (List Int)
  pc : Int
  t : TraceD
def valM (m : MachD) (r : RefD) : Int := if r.reg < 0 then r.num else m.regs.getD r.reg.toNat 0
def setR (m : MachD) (d : Int) (v : Int) : MachD := { m with regs := m.regs.set d.toNat v }
def endM (m : MachD) (s : Int) : MachD := { m with pc := m.pc - 1, t := { m.t with status := s } }
/-- The element of an array. -/
def elemM (m : MachD) (c : CodeD) : Option Int := (m.arrs[c.n.toNat]?).bind fun l => l[(valM m c.a).toNat]?
def putA (m : MachD) (n i : Nat) (v : Int) : MachD := { m with arrs := m.arrs.modify n fun l => l.set i v }
def inAt (ins : List (List Int)) (n k : Nat) : Option Int := (ins[n]?).bind fun l => l[k]?
/-- What a kind of instruction does, once the next instruction is that behind it. -/
def doM (f : FlatD) (ins : List (List Int)) (c : CodeD) (m : MachD) : Nat → MachD
  | 0 => setR m c.dst (valM m c.a)
  | 1 => setR m c.dst (opZ c.op.toNat f.width.toNat (valM m c.a) (valM m c.b))
  | 2 => match elemM m c with | some x => setR m c.dst x | none => endM m 1
  | 3 => match elemM m c with | some _ => putA m c.n.toNat (valM m c.a).toNat (valM m c.b) | none => endM m 1
  | 4 => setR { m with t := { m.t with reads := m.t.reads.set c.n.toNat (m.t.reads.getD c.n.toNat 0 + 1) } } c.dst (match inAt ins c.n.toNat (m.t.reads.getD c.n.toNat 0).toNat with | some v => v % 2 ^ f.width.toNat | none => 0)
  | 5 => { m with t := { m.t with outs := m.t.outs ++ [⟨c.n, valM m c.a⟩] } }
  | 6 => setR { m with t := { m.t with rels := m.t.rels ++ [⟨c.n, valM m c.a⟩] } } c.dst (valM m c.a)
  | 7 => { m with pc := c.n }
  | 8 => { m with pc := if valM m c.a = 0 then m.pc else c.n, t := { m.t with brs := m.t.brs ++ [valM m c.a != 0] } }
  | 9 => endM m 0
  | _ => m
def tickM (m : MachD) : MachD := { m with pc := m.pc + 1, t := { m.t with steps := m.t.steps + 1 } }
def stepM (f : FlatD) (ins : List (List Int)) (m : MachD) : MachD :=
  if m.t.status = 2 then match f.code[m.pc.toNat]? with | some c => doM f ins c (tickM m) c.kind.toNat | none => m else m
def newM (f : FlatD) : MachD := ⟨List.replicate f.regs.toNat 0, f.arrays.map fun n => List.replicate n.toNat 0, 0, ⟨2, 0, [], [], [], List.replicate f.chans.length 0⟩⟩
def iterM (f : FlatD) (ins : List (List Int)) : Nat → MachD → MachD
  | 0, m => m
  | n + 1, m => iterM f ins n (stepM f ins m)
/-- What a run always is. -/
structure Good (f : FlatD) (m : MachD) : Prop where
  regs : m.regs.length = f.regs.toNat
  rv : ∀ x ∈ m.regs, InU64 x
  arrs : m.arrs.map List.length = f.arrays.map Int.toNat
  av : ∀ l ∈ m.arrs, ∀ x ∈ l, InU64 x
  reads : m.t.reads.length = f.chans.length
  rd : ∀ x ∈ m.t.reads, 0 ≤ x ∧ x ≤ m.t.steps
  outs : (m.t.outs.length : Int) ≤ m.t.steps
  rels : (m.t.rels.length : Int) ≤ m.t.steps
  brs : (m.t.brs.length : Int) ≤ m.t.steps
  ov : ∀ x ∈ m.t.outs, InI64 x.n ∧ InU64 x.val
  lv : ∀ x ∈ m.t.rels, InI64 x.n ∧ InU64 x.val
  st : m.t.status = 0 ∨ m.t.status = 1 ∨ m.t.status = 2
  steps : 0 ≤ m.t.steps
def u64s (l : List Int) : Array Value := (l.map fun x => .int .u64 x).toArray
def i64s (l : List Int) : Array Value := (l.map fun x => .int .i64 x).toArray
theorem u64s_get (l : List Int) (i : Nat) (x : Int) (h : l[i]? = some x) : (u64s l)[i]? = some (.int .u64 x) := by simp [u64s, h]
theorem i64s_get (l : List Int) (i : Nat) (x : Int) (h : l[i]? = some x) : (i64s l)[i]? = some (.int .i64 x) := by simp [i64s, h]
theorem u64s_set (l : List Int) (i : Nat) (x : Int) : (u64s l).setIfInBounds i (.int .u64 x) = u64s (l.set i x) := by simp [u64s, List.map_set]
theorem i64s_set (l : List Int) (i : Nat) (x : Int) : (i64s l).setIfInBounds i (.int .i64 x) = i64s (l.set i x) := by simp [i64s, List.map_set]
/-- A row of slices of numbers, each a row of its own. -/
abbrev kSlc : Kind (Nat × Nat) := ⟨54, 1, 24, fun x => [.slice (some ⟨x.1, 0, none⟩) x.2 x.2], fun _ => True, fun _ => rfl, by decide⟩
/-- The world w' is as w but for the blocks of B and new ones. -/
structure Turn (B : Nat → Prop) (w w' : World) : Prop where
  os : w'.os = w.os
  tape : w'.tape = w.tape
  output : w'.output = w.output
  size : w.heap.size ≤ w'.heap.size
  block : ∀ b, b < w.heap.size → ¬ B b → w'.heap[b]? = w.heap[b]?
theorem Turn.refl (B : Nat → Prop) (w : World) : Turn B w w := ⟨rfl, rfl, rfl, Nat.le_refl _, fun _ _ _ => rfl⟩
theorem Turn.of_below {B : Nat → Prop} {w w' : World} (h : Below w.heap.size w w') : Turn B w w' := ⟨h.os, h.tape, h.output, h.size, fun b hb _ => h.block b hb⟩
theorem Turn.trans {B : Nat → Prop} {a b c : World} (h : Turn B a b) (k : Turn B b c) : Turn B a c :=
  ⟨k.os.trans h.os, k.tape.trans h.tape, k.output.trans h.output, Nat.le_trans h.size k.size, fun i hi hB => (k.block i (Nat.lt_of_lt_of_le hi h.size) hB).trans (h.block i hi hB)⟩
theorem Turn.mono {B C : Nat → Prop} {w w' : World} (h : Turn B w w') (k : ∀ b, b < w.heap.size → B b → C b) : Turn C w w' := ⟨h.os, h.tape, h.output, h.size, fun b hb hC => h.block b hb fun hB => hC (k b hb hB)⟩
theorem Turn.setCell {B : Nat → Prop} {w w' : World} (h : Turn B w w') {a : Addr} (ha : B a.block) (v : Value) : Turn B w (w'.setCell a v) :=
  h.trans ⟨rfl, rfl, rfl, by simp, fun b _ hB => heap_setCell_other _ _ _ _ (fun e => hB (e ▸ ha))⟩
end Go.Proofs.YtkjkpddajjmloaaDoor
