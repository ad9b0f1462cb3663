/- Plain lemmas on runs: all values are words of the width, events are of channels and sites. No program. -/
import Derived.Test.YtkjkpddajjmloaaDoorMMq
set_option linter.unnecessarySimpa false
set_option linter.unusedVariables false
set_option linter.unusedSimpArgs false
namespace Go.Proofs.YtkjkpddajjmloaaDoor
open Go.ChangeShapes Go.WideShapes Go.ChangeAt Go.RowKit
def Wd (f : FlatD) (x : Int) : Prop := 0 ≤ x ∧ x < 2 ^ f.width.toNat
/-- A run whose values are words of the width. -/
structure SmallM (f : FlatD) (m : MachD) : Prop where
  rg : ∀ x ∈ m.regs, Wd f x
  ar : ∀ l ∈ m.arrs, ∀ x ∈ l, Wd f x
  os : ∀ e ∈ m.t.outs, Wd f e.val ∧ 0 ≤ e.n ∧ e.n < f.chans.length
  rs : ∀ e ∈ m.t.rels, Wd f e.val ∧ 0 ≤ e.n ∧ e.n < f.sites.length
theorem wd_pos (f : FlatD) : (0 : Int) < 2 ^ f.width.toNat := Int.pow_pos (by decide)
theorem wd_zero (f : FlatD) : Wd f 0 := ⟨Int.le_refl _, wd_pos f⟩
theorem wd_mod (f : FlatD) (x : Int) : Wd f (x % 2 ^ f.width.toNat) := ⟨Int.emod_nonneg _ (Int.ne_of_gt (wd_pos f)), Int.emod_lt_of_pos _ (wd_pos f)⟩
theorem valM_small {f : FlatD} {m : MachD} {r : RefD} (g : ∀ x ∈ m.regs, Wd f x) (h : refOk f r true = true) (h2 : InU64 r.num) : Wd f (valM m r) := by
  unfold refOk at h
  rw [if_pos rfl] at h
  by_cases hr : r.reg = -1
  · rw [if_pos (by simp [hr])] at h
    have e : valM m r = r.num := by unfold valM; rw [if_pos (by omega)]
    rw [e]
    exact ⟨h2.1, by simpa using h⟩
  · rw [if_neg (by simpa using hr)] at h
    simp only [Bool.and_eq_true, decide_eq_true_eq] at h
    unfold valM
    rw [if_neg (by omega), List.getD_eq_getElem?_getD]
    cases hx : m.regs[r.reg.toNat]? with
    | none => exact wd_zero f
    | some x => exact g x (List.mem_of_getElem? hx)
theorem SmallM.setR {f : FlatD} {m : MachD} (g : SmallM f m) (d : Int) {v : Int} (hv : Wd f v) : SmallM f (setR m d v) :=
  ⟨fun x hx => by rcases List.mem_or_eq_of_mem_set hx with h | h; exact g.rg x h; exact h ▸ hv, g.ar, g.os, g.rs⟩
theorem SmallM.like {f : FlatD} {m m' : MachD} (g : SmallM f m) (h1 : m'.regs = m.regs) (h2 : m'.arrs = m.arrs) (h3 : m'.t.outs = m.t.outs) (h4 : m'.t.rels = m.t.rels) : SmallM f m' :=
  ⟨by rw [h1]; exact g.rg, by rw [h2]; exact g.ar, by rw [h3]; exact g.os, by rw [h4]; exact g.rs⟩
theorem SmallM.putA {f : FlatD} {m : MachD} (g : SmallM f m) (n i : Nat) {v : Int} (hv : Wd f v) : SmallM f (putA m n i v) := by
  refine ⟨g.rg, ?_, g.os, g.rs⟩
  intro l hl x hx
  obtain ⟨j, hj⟩ := List.getElem?_of_mem hl
  show Wd f x
  simp only [Go.Proofs.YtkjkpddajjmloaaDoor.putA, List.getElem?_modify] at hj
  cases hm : m.arrs[j]? with
  | none => rw [hm] at hj; simp at hj
  | some l0 =>
    rw [hm] at hj
    by_cases e : n = j
    · simp [e] at hj
      subst hj
      rcases List.mem_or_eq_of_mem_set hx with h | h
      · exact g.ar l0 (List.mem_of_getElem? hm) x h
      · exact h ▸ hv
    · simp [e] at hj
      subst hj
      exact g.ar l0 (List.mem_of_getElem? hm) x hx
theorem elem_small {f : FlatD} {m : MachD} (g : SmallM f m) {c : CodeD} {x : Int} (h : elemM m c = some x) : Wd f x := by
  unfold elemM at h
  cases hl : m.arrs[c.n.toNat]? with
  | none => rw [hl] at h; cases h
  | some l => rw [hl] at h; exact g.ar l (List.mem_of_getElem? hl) x (List.mem_of_getElem? h)
theorem do_small {f : FlatD} {ins : List (List Int)} {m : MachD} {c : CodeD} (g : SmallM f m) (hc : CodeP f c) (hi : CodeIn c) (k : Nat) (hk : c.kind = k) : SmallM f (doM f ins c m k) := by
  have ha : aK c.kind = true → Wd f (valM m c.a) := fun h => valM_small g.rg (h ▸ hc.a) hi.2.2.2.2.2.1
  have hb : bK c.kind c.op = true → Wd f (valM m c.b) := fun h => valM_small g.rg (h ▸ hc.b) hi.2.2.2.2.2.2.2
  have hn := hc.n1
  have hn0 := hc.n0
  rw [hk] at ha hb hn
  match k with
  | 0 => exact g.setR _ (ha rfl)
  | 1 => exact g.setR _ (wd_mod f _)
  | 2 =>
    simp only [doM]
    split
    · rename_i x hx; exact g.setR _ (elem_small g hx)
    · exact g.like rfl rfl rfl rfl
  | 3 =>
    simp only [doM]
    split
    · exact g.putA _ _ (hb rfl)
    · exact g.like rfl rfl rfl rfl
  | 4 =>
    simp only [doM]
    refine SmallM.setR (m := { m with t := { m.t with reads := m.t.reads.set c.n.toNat (m.t.reads.getD c.n.toNat 0 + 1) } }) (g.like rfl rfl rfl rfl) _ ?_
    split
    · exact wd_mod f _
    · exact wd_zero f
  | 5 =>
    refine ⟨g.rg, g.ar, fun e he => ?_, g.rs⟩
    simp only [doM, List.mem_append, List.mem_singleton] at he
    rcases he with h | rfl
    · exact g.os e h
    · exact ⟨ha rfl, hn0, hn⟩
  | 6 =>
    refine SmallM.setR (m := { m with t := { m.t with rels := m.t.rels ++ [⟨c.n, valM m c.a⟩] } }) ⟨g.rg, g.ar, g.os, fun e he => ?_⟩ _ (ha rfl)
    simp only [List.mem_append, List.mem_singleton] at he
    rcases he with h | rfl
    · exact g.rs e h
    · exact ⟨ha rfl, hn0, hn⟩
  | 7 => exact g.like rfl rfl rfl rfl
  | 8 => exact g.like rfl rfl rfl rfl
  | 9 => exact g.like rfl rfl rfl rfl
  | k + 10 => exact g
theorem step_small {f : FlatD} {ins : List (List Int)} {m : MachD} (hh : HeadP f) (hci : ∀ c ∈ f.code, CodeIn c) (g : SmallM f m) : SmallM f (stepM f ins m) := by
  unfold stepM
  split
  · split
    · rename_i c hc
      have hm := List.mem_of_getElem? hc
      have hi := hci c hm
      exact do_small (m := tickM m) (g.like rfl rfl rfl rfl) (codeP (hh.codes c hm)) hi c.kind.toNat (by have := hi.1.1; omega)
    · exact g
  · exact g
theorem small_new (f : FlatD) : SmallM f (newM f) := by
  refine ⟨fun x hx => ?_, fun l hl x hx => ?_, fun e he => by simp [newM] at he, fun e he => by simp [newM] at he⟩
  · simp only [newM] at hx; rw [(List.mem_replicate.1 hx).2]; exact wd_zero f
  · simp only [newM, List.mem_map] at hl
    obtain ⟨n, _, rfl⟩ := hl
    rw [(List.mem_replicate.1 hx).2]; exact wd_zero f
theorem small_run {f : FlatD} {ins : List (List Int)} (hh : HeadP f) (hci : ∀ c ∈ f.code, CodeIn c) : ∀ k, SmallM f (iterM f ins k (newM f))
  | 0 => small_new f
  | k + 1 => by rw [iterM_succ]; exact step_small hh hci (small_run hh hci k)
theorem reg_small {f : FlatD} {m : MachD} (g : SmallM f m) (i : Int) : Wd f (regM m i) := by
  unfold regM
  split
  · exact wd_zero f
  · rw [List.getD_eq_getElem?_getD]
    cases hx : m.regs[i.toNat]? with
    | none => exact wd_zero f
    | some x => exact g.rg x (List.mem_of_getElem? hx)
end Go.Proofs.YtkjkpddajjmloaaDoor
