/- A step of a run of a valid flat program leaves it one that runs come to. Plain; no condition but what is named. -/
import Derived.Test.YtkjkpddajjmloaaDoorMMl
set_option linter.unusedVariables false
set_option linter.unusedSimpArgs false
namespace Go.Proofs.YtkjkpddajjmloaaDoor
open Go.ChangeShapes Go.WideShapes Go.ChangeAt Go.RowKit
theorem Good.setR {f : FlatD} {m : MachD} (g : Good f m) (d v : Int) (hv : InU64 v) : Good f (setR m d v) :=
  ⟨by have := g.regs; simpa [Go.Proofs.YtkjkpddajjmloaaDoor.setR] using this, fun x hx => by
    rcases List.mem_or_eq_of_mem_set hx with h | rfl
    · exact g.rv x h
    · exact hv, g.arrs, g.av, g.reads, g.rd, g.outs, g.rels, g.brs, g.ov, g.lv, g.st, g.steps⟩
theorem Good.endM {f : FlatD} {m : MachD} (g : Good f m) (s : Int) (hs : s = 0 ∨ s = 1) : Good f (endM m s) :=
  ⟨g.regs, g.rv, g.arrs, g.av, g.reads, g.rd, g.outs, g.rels, g.brs, g.ov, g.lv, by rcases hs with rfl | rfl; exact .inl rfl; exact .inr (.inl rfl), g.steps⟩
theorem Good.pc {f : FlatD} {m : MachD} (g : Good f m) (p : Int) : Good f { m with pc := p } :=
  ⟨g.regs, g.rv, g.arrs, g.av, g.reads, g.rd, g.outs, g.rels, g.brs, g.ov, g.lv, g.st, g.steps⟩
theorem Good.putA {f : FlatD} {m : MachD} (g : Good f m) (n i : Nat) (v : Int) (hv : InU64 v) : Good f (putA m n i v) :=
  ⟨g.regs, g.rv, by show (m.arrs.modify n fun l => l.set i v).map List.length = _; rw [modify_len]; exact g.arrs, fun l hl x hx => by
    obtain ⟨j, hj⟩ := List.getElem?_of_mem hl
    change (m.arrs.modify n fun l => l.set i v)[j]? = some l at hj
    rw [List.getElem?_modify] at hj
    cases hq : m.arrs[j]? with
    | none => rw [hq] at hj; simp at hj
    | some l0 =>
      rw [hq] at hj
      simp only [Option.map_eq_map, Option.map_some, Option.some.injEq] at hj
      have hm := List.mem_of_getElem? hq
      subst hj
      split at hx
      · rcases List.mem_or_eq_of_mem_set hx with h | rfl
        · exact g.av l0 hm x h
        · exact hv
      · exact g.av l0 hm x hx, g.reads, g.rd, g.outs, g.rels, g.brs, g.ov, g.lv, g.st, g.steps⟩
theorem elem_in {f : FlatD} {m : MachD} (g : Good f m) {c : CodeD} {x : Int} (h : elemM m c = some x) : InU64 x := by
  unfold elemM at h
  cases hq : m.arrs[c.n.toNat]? with
  | none => rw [hq] at h; simp at h
  | some l => rw [hq] at h; exact g.av l (List.mem_of_getElem? hq) x (List.mem_of_getElem? h)
/-- The last instruction is a halt or a jump. -/
theorem last_is {f : FlatD} (hh : HeadP f) {p : Nat} {c : CodeD} (hc : f.code[p]? = some c) (hl : p + 1 = f.code.length) : c.kind = 9 ∨ c.kind = 7 := by
  have := hh.last
  unfold lastK at this
  rw [List.getLast?_eq_getElem?, ← hl, Nat.add_sub_cancel, hc] at this
  exact this
theorem mod_inU (n : Nat) (h : n ≤ 64) (a : Int) : InU64 (a % 2 ^ n) := by
  obtain ⟨h0, h1, h2⟩ := mod_in n h a
  exact ⟨h0, by omega⟩
/-- **A step keeps what runs are.** -/
theorem step_good {f : FlatD} {ins : List (List Int)} {m : MachD} (hh : HeadP f) (hci : ∀ c ∈ f.code, CodeIn c) (g : Good f m) (hp0 : 0 ≤ m.pc) (hp1 : m.pc < f.code.length) :
    Good f (stepM f ins m) ∧ 0 ≤ (stepM f ins m).pc ∧ (stepM f ins m).pc < f.code.length := by
  by_cases hs : m.t.status = 2
  · obtain ⟨p, hp⟩ : ∃ p : Nat, m.pc = p := ⟨m.pc.toNat, by omega⟩
    obtain ⟨c, hc⟩ : ∃ c, f.code[p]? = some c := ⟨_, List.getElem?_eq_getElem (by omega)⟩
    have hm := List.mem_of_getElem? hc
    have hcp := codeP (hh.codes c hm)
    obtain ⟨i1, i2, i3, i4, i5, i6, i7, i8⟩ := hci c hm
    have hlast := last_is hh hc
    rw [stepM, if_pos hs, hp, Int.toNat_natCast, hc]
    show Good f (doM f ins c (tickM m) c.kind.toNat) ∧ 0 ≤ (doM f ins c (tickM m) c.kind.toNat).pc ∧ (doM f ins c (tickM m) c.kind.toNat).pc < f.code.length
    have g1 := good_tick g
    have hpc : (tickM m).pc = p + 1 := by simp only [tickM]; omega
    have hrn : ∀ x ∈ (tickM m).t.reads, 0 ≤ x ∧ x + 1 ≤ (tickM m).t.steps := fun x hx => by have := g.rd x hx; simp only [tickM]; omega
    have hon : ((tickM m).t.outs.length : Int) + 1 ≤ (tickM m).t.steps := by have := g.outs; simp only [tickM]; omega
    have hln : ((tickM m).t.rels.length : Int) + 1 ≤ (tickM m).t.steps := by have := g.rels; simp only [tickM]; omega
    have hbn : ((tickM m).t.brs.length : Int) + 1 ≤ (tickM m).t.steps := by have := g.brs; simp only [tickM]; omega
    generalize tickM m = m1 at *
    have hw : f.width.toNat ≤ 64 := by have := hh.w2; omega
    have hreg := g1.regs
    have hk : c.kind = 0 ∨ c.kind = 1 ∨ c.kind = 2 ∨ c.kind = 3 ∨ c.kind = 4 ∨ c.kind = 5 ∨ c.kind = 6 ∨ c.kind = 7 ∨ c.kind = 8 ∨ c.kind = 9 := by have := hcp.kind; have := i1.1; omega
    have hn1 := hcp.n1
    have ha := hcp.a
    have hb := hcp.b
    have hn0 := hcp.n0
    rcases hk with e | e | e | e | e | e | e | e | e | e <;> rw [e] at ha hb hn1 hlast <;> rw [show c.kind.toNat = _ from by rw [e]]
    · have va := valM_in (refIn_of hh g1 ha i5 i6 (.inl rfl)) g1.rv
      exact ⟨g1.setR _ _ va, by show 0 ≤ m1.pc; omega, by show m1.pc < _; omega⟩
    · exact ⟨g1.setR _ _ (mod_inU _ hw _), by show 0 ≤ m1.pc; omega, by show m1.pc < _; omega⟩
    · change Good f (match elemM m1 c with | some x => setR m1 c.dst x | none => endM m1 1) ∧ 0 ≤ (match elemM m1 c with | some x => setR m1 c.dst x | none => endM m1 1).pc ∧ (match elemM m1 c with | some x => setR m1 c.dst x | none => endM m1 1).pc < _
      cases hq : elemM m1 c with
      | some x => exact ⟨g1.setR _ _ (elem_in g1 hq), by show 0 ≤ m1.pc; omega, by show m1.pc < _; omega⟩
      | none => exact ⟨g1.endM 1 (.inr rfl), by show 0 ≤ m1.pc - 1; omega, by show m1.pc - 1 < _; omega⟩
    · have vb := valM_in (refIn_of hh g1 hb i7 i8 (.inl rfl)) g1.rv
      change Good f (match elemM m1 c with | some _ => putA m1 c.n.toNat (valM m1 c.a).toNat (valM m1 c.b) | none => endM m1 1) ∧ 0 ≤ (match elemM m1 c with | some _ => putA m1 c.n.toNat (valM m1 c.a).toNat (valM m1 c.b) | none => endM m1 1).pc ∧ (match elemM m1 c with | some _ => putA m1 c.n.toNat (valM m1 c.a).toNat (valM m1 c.b) | none => endM m1 1).pc < _
      cases hq : elemM m1 c with
      | some x => exact ⟨g1.putA _ _ _ vb, by show 0 ≤ m1.pc; omega, by show m1.pc < _; omega⟩
      | none => exact ⟨g1.endM 1 (.inr rfl), by show 0 ≤ m1.pc - 1; omega, by show m1.pc - 1 < _; omega⟩
    · have hr : m1.t.reads.getD c.n.toNat 0 + 1 ≤ m1.t.steps ∧ 0 ≤ m1.t.reads.getD c.n.toNat 0 := by
        rw [List.getD_eq_getElem?_getD]
        cases hq : m1.t.reads[c.n.toNat]? with
        | none => have := g1.reads; have : c.n < (f.chans.length : Int) := hn1; rw [List.getElem?_eq_none_iff] at hq; omega
        | some x => have := hrn x (List.mem_of_getElem? hq); simp only [Option.getD_some]; omega
      have g2 : Good f { m1 with t := { m1.t with reads := m1.t.reads.set c.n.toNat (m1.t.reads.getD c.n.toNat 0 + 1) } } :=
        ⟨g1.regs, g1.rv, g1.arrs, g1.av, by have := g1.reads; simpa using this, fun x hx => by
          rcases List.mem_or_eq_of_mem_set hx with h | rfl
          · exact g1.rd x h
          · show 0 ≤ _ ∧ _ ≤ m1.t.steps; omega, g1.outs, g1.rels, g1.brs, g1.ov, g1.lv, g1.st, g1.steps⟩
      refine ⟨g2.setR _ _ ?_, by show 0 ≤ m1.pc; omega, by show m1.pc < _; omega⟩
      split
      · exact mod_inU _ hw _
      · exact ⟨by decide, by decide⟩
    · have va := valM_in (refIn_of hh g1 ha i5 i6 (.inl rfl)) g1.rv
      refine ⟨⟨g1.regs, g1.rv, g1.arrs, g1.av, g1.reads, g1.rd, by show ((m1.t.outs ++ [_]).length : Int) ≤ m1.t.steps; rw [List.length_append, List.length_singleton]; omega, g1.rels, g1.brs, fun x hx => ?_, g1.lv, g1.st, g1.steps⟩, by show 0 ≤ m1.pc; omega, by show m1.pc < _; omega⟩
      rcases List.mem_append.1 hx with h | h
      · exact g1.ov x h
      · rw [List.mem_singleton] at h; subst h; exact ⟨i4, va⟩
    · have va := valM_in (refIn_of hh g1 ha i5 i6 (.inl rfl)) g1.rv
      have g2 : Good f { m1 with t := { m1.t with rels := m1.t.rels ++ [⟨c.n, valM m1 c.a⟩] } } := by
        refine ⟨g1.regs, g1.rv, g1.arrs, g1.av, g1.reads, g1.rd, g1.outs, by show ((m1.t.rels ++ [_]).length : Int) ≤ m1.t.steps; rw [List.length_append, List.length_singleton]; omega, g1.brs, g1.ov, fun x hx => ?_, g1.st, g1.steps⟩
        rcases List.mem_append.1 hx with h | h
        · exact g1.lv x h
        · rw [List.mem_singleton] at h; subst h; exact ⟨i4, va⟩
      exact ⟨g2.setR _ _ va, by show 0 ≤ m1.pc; omega, by show m1.pc < _; omega⟩
    · have hn2 : c.n < (f.code.length : Int) := hn1
      exact ⟨g1.pc _, hn0, hn2⟩
    · have hn2 : c.n < (f.code.length : Int) := hn1
      refine ⟨⟨g1.regs, g1.rv, g1.arrs, g1.av, g1.reads, g1.rd, g1.outs, g1.rels, by show ((m1.t.brs ++ [_]).length : Int) ≤ m1.t.steps; rw [List.length_append, List.length_singleton]; omega, g1.ov, g1.lv, g1.st, g1.steps⟩, ?_, ?_⟩
      · show 0 ≤ (if valM m1 c.a = 0 then m1.pc else c.n); split <;> omega
      · show (if valM m1 c.a = 0 then m1.pc else c.n) < _; split <;> omega
    · exact ⟨g1.endM 0 (.inl rfl), by show 0 ≤ m1.pc - 1; omega, by show m1.pc - 1 < _; omega⟩
  · rw [stepM, if_neg hs]; exact ⟨g, hp0, hp1⟩
end Go.Proofs.YtkjkpddajjmloaaDoor
