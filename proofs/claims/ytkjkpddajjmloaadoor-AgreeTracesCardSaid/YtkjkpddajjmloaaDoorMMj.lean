/- What a valid flat program gives to each instruction, and the contract of what a kind of instruction does. Conditions: the run lies at the pointer, it is one that runs come to, and the instruction is a valid one of the program. -/
import Derived.Test.YtkjkpddajjmloaaDoorMMi
set_option linter.unusedVariables false
set_option linter.unusedSimpArgs false
namespace Go.Proofs.YtkjkpddajjmloaaDoor
open Go.ChangeShapes Go.WideShapes Go.ChangeAt Go.RowKit
structure HeadP (f : FlatD) : Prop where
  w1 : 1 ≤ f.width
  w2 : f.width ≤ 64
  r0 : 0 ≤ f.regs
  r1 : f.regs ≤ 2097152
  chans : f.chans.length ≤ 32
  sites : f.sites.length ≤ 32
  arrays : f.arrays.length ≤ 32
  code0 : 1 ≤ f.code.length
  code1 : f.code.length ≤ 4096
  arr : ∀ n ∈ f.arrays, 1 ≤ n ∧ n ≤ 64
  codes : ∀ c ∈ f.code, codeOk f c = true
  last : lastK f = 9 ∨ lastK f = 7
theorem headP {f : FlatD} (h : flatOk f = true) : HeadP f := by
  simp only [flatOk, headOk, namesOk, Bool.and_eq_true, Bool.or_eq_true, decide_eq_true_eq, List.all_eq_true, beq_iff_eq, arrOk] at h
  obtain ⟨⟨⟨⟨⟨⟨⟨⟨⟨h1, h2⟩, h3⟩, h4⟩, _, h5⟩, _, h6⟩, ⟨h7, h8⟩, h9⟩, ha⟩, hc⟩, hl⟩ := h
  exact ⟨h1, h2, h3, h4, h5, h6, h7, h8, h9, ha, hc, hl⟩
structure CodeP (f : FlatD) (c : CodeD) : Prop where
  kind : c.kind ≤ 9
  op : c.kind = 1 → 2 ≤ c.op ∧ c.op ≤ 20
  n0 : 0 ≤ c.n
  n1 : c.n < mostF f c.kind
  dst : dstK c.kind = true → 0 ≤ c.dst ∧ c.dst < f.regs
  a : refOk f c.a (aK c.kind) = true
  b : refOk f c.b (bK c.kind c.op) = true
theorem codeP {f : FlatD} {c : CodeD} (h : codeOk f c = true) : CodeP f c := by
  simp only [codeOk, Bool.and_eq_true, decide_eq_true_eq] at h
  obtain ⟨⟨⟨⟨⟨h1, h2⟩, h3, h4⟩, h5⟩, h6⟩, h7⟩ := h
  refine ⟨h1, ?_, h3, h4, ?_, h6, h7⟩
  · intro hk; rw [if_pos (by simp [hk])] at h2; simpa using h2
  · intro hk; rw [if_pos hk] at h5; simpa using h5
abbrev CodeIn (x : CodeD) : Prop := InU8 x.kind ∧ InU8 x.op ∧ InI64 x.dst ∧ InI64 x.n ∧ InI64 x.a.reg ∧ InU64 x.a.num ∧ InI64 x.b.reg ∧ InU64 x.b.num
theorem refIn_of {f : FlatD} {m : MachD} {r : RefD} {has : Bool} (hh : HeadP f) (g : Good f m) (h : refOk f r has = true) (h1 : InI64 r.reg) (h2 : InU64 r.num) (hs : has = true ∨ 0 < f.regs) : RefIn m r := by
  refine ⟨h1, h2, ?_⟩
  have hl := g.regs
  have := hh.r0
  unfold refOk at h
  cases has with
  | true =>
    rw [if_pos rfl] at h
    by_cases hr : r.reg = -1
    · omega
    · rw [if_neg (by simpa using hr)] at h
      simp only [Bool.and_eq_true, decide_eq_true_eq] at h
      omega
  | false =>
    simp only [Bool.false_eq_true, if_false, Bool.and_eq_true, beq_iff_eq, false_or] at h hs
    omega
/-- A run before a step: what holds of it, but for the next instruction. -/
structure Ready (f : FlatD) (ins : List (List Int)) (m : MachD) : Prop where
  head : HeadP f
  good : Good f m
  ins : ins.length = f.chans.length
  few : m.t.steps ≤ 1000000
  pc0 : 0 ≤ m.pc
  pc1 : m.pc ≤ 4096
theorem machDo {G I : Nat → Prop} {w : World} {bm : Nat} {f : FlatD} {ins : List (List Int)} {m : MachD} {c8 c9 c10 kv iv av ov rv bv : Value} {gb db : Nat} {bs : List Nat} (h : MachAt G I w bm f ins m c8 c9 c10 kv iv av ov rv bv gb db bs) (c : CodeD) (hr : Ready f ins m) (hc : CodeP f c) (hi : CodeIn c) :
    Calls Tryd.prog (kindF c.kind.toNat) #[.pointer (some ⟨bm, 0, none⟩), codeV c] w fun e w' => e = .returned (.tuple #[]) ∧ Post G w w' bm f ins (doM f ins c m c.kind.toNat) := by
  obtain ⟨hh, g, hins, hfew, hp0, hp1⟩ := hr
  obtain ⟨i1, i2, i3, i4, i5, i6, i7, i8⟩ := hi
  have hl : m.regs.length ≤ 2097152 := by have := g.regs; have := hh.r1; omega
  have hreg : ((m.regs.length : Nat) : Int) = f.regs := by have := g.regs; have := hh.r0; omega
  have hal : m.arrs.length = f.arrays.length := by have := congrArg List.length g.arrs; simpa using this
  have hla : ∀ l ∈ m.arrs, l.length ≤ 64 := by
    intro l hm
    have : l.length ∈ m.arrs.map List.length := List.mem_map_of_mem hm
    rw [g.arrs] at this
    obtain ⟨n, hn, e⟩ := List.mem_map.1 this
    have := hh.arr n hn
    omega
  have hk : c.kind = 0 ∨ c.kind = 1 ∨ c.kind = 2 ∨ c.kind = 3 ∨ c.kind = 4 ∨ c.kind = 5 ∨ c.kind = 6 ∨ c.kind = 7 ∨ c.kind = 8 ∨ c.kind = 9 := by have := hc.kind; have := i1.1; omega
  have hn1 := hc.n1
  have ha := hc.a
  have hb := hc.b
  have hd := hc.dst
  have ho := hc.op
  have hrd : ∀ x ∈ m.t.reads, 0 ≤ x ∧ x ≤ 1000000000 := fun x hx => by have := g.rd x hx; omega
  have hcl := hh.chans
  have hrl := g.reads
  have ho1 := g.outs
  have ho2 := g.rels
  have ho3 := g.brs
  rcases hk with e | e | e | e | e | e | e | e | e | e <;> rw [e] at ha hb hd hn1 ho <;> rw [show c.kind.toNat = _ from by rw [e]]
  · obtain ⟨d0, d1⟩ := hd rfl
    exact machCopy h c hl (refIn_of hh g ha i5 i6 (.inl rfl)) d0 (by omega)
  · obtain ⟨d0, d1⟩ := hd rfl
    obtain ⟨o0, o1⟩ := ho rfl
    exact machApply h c hl hh.w1 hh.w2 (refIn_of hh g ha i5 i6 (.inl rfl)) (refIn_of hh g hb i7 i8 (.inr (by omega))) g.rv o0 o1 d0 (by omega)
  · obtain ⟨d0, d1⟩ := hd rfl
    exact machLoad h c hl (refIn_of hh g ha i5 i6 (.inl rfl)) g.rv hp0 hp1 hc.n0 (by have : c.n < (f.arrays.length : Int) := hn1; omega) hla d0 (by omega)
  · exact machStore h c hl (refIn_of hh g ha i5 i6 (.inl rfl)) (refIn_of hh g hb i7 i8 (.inl rfl)) g.rv hp0 hp1 hc.n0 (by have : c.n < (f.arrays.length : Int) := hn1; omega) hla
  · obtain ⟨d0, d1⟩ := hd rfl
    exact machRead h c hl hh.w1 hh.w2 hc.n0 (by have : c.n < (f.chans.length : Int) := hn1; omega) (by omega) hrd d0 (by omega) (by omega)
  · exact machWrite h c hl (refIn_of hh g ha i5 i6 (.inl rfl)) (by omega)
  · obtain ⟨d0, d1⟩ := hd rfl
    exact machRelease h c hl (refIn_of hh g ha i5 i6 (.inl rfl)) (by omega) d0 (by omega)
  · exact machJump h c
  · exact machBranch h c hl (refIn_of hh g ha i5 i6 (.inl rfl)) (by omega)
  · exact machHalt h c hp0 hp1
theorem callKind (k : Nat) (h1 : k ≤ 9) (args : Array Value) (w : World) : (callFunc (kindF k) args).run Tryd.prog w = .ok (.enter (kindF k) args) w := by
  have hk : k = 0 ∨ k = 1 ∨ k = 2 ∨ k = 3 ∨ k = 4 ∨ k = 5 ∨ k = 6 ∨ k = 7 ∨ k = 8 ∨ k = 9 := by omega
  rcases hk with rfl | rfl | rfl | rfl | rfl | rfl | rfl | rfl | rfl | rfl
  · exact Tryd.call143 args w
  · exact Tryd.call144 args w
  · exact Tryd.call145 args w
  · exact Tryd.call146 args w
  · exact Tryd.call147 args w
  · exact Tryd.call148 args w
  · exact Tryd.call149 args w
  · exact Tryd.call150 args w
  · exact Tryd.call151 args w
  · exact Tryd.call152 args w
end Go.Proofs.YtkjkpddajjmloaaDoor
