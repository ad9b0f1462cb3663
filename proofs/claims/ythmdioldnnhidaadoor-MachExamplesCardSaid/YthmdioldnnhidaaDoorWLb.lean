/- Plain lemmas on runs: a run is the beginning of a longer one. No program. Contracts of Run and Short with their results' slices in the open. Plain restatements; no condition of their own. -/
import Derived.Test.YthmdioldnnhidaaDoorKMe
set_option linter.unnecessarySimpa false
set_option linter.unusedVariables false
set_option linter.unusedSimpArgs false
namespace Go.Proofs.YthmdioldnnhidaaDoor
open Go.ChangeShapes Go.WideShapes Go.ChangeAt Go.RowKit
/-- One trace begins another. -/
structure Begins (x y : TraceD) : Prop where
  steps : x.steps ≤ y.steps
  outs : x.outs <+: y.outs
  rels : x.rels <+: y.rels
  brs : x.brs <+: y.brs
theorem Begins.refl (x : TraceD) : Begins x x := ⟨Int.le_refl _, List.prefix_refl _, List.prefix_refl _, List.prefix_refl _⟩
theorem Begins.trans {x y z : TraceD} (h : Begins x y) (k : Begins y z) : Begins x z := ⟨Int.le_trans h.steps k.steps, h.outs.trans k.outs, h.rels.trans k.rels, h.brs.trans k.brs⟩
theorem begins_do (f : FlatD) (ins : List (List Int)) (c : CodeD) (m : MachD) (k : Nat) : Begins m.t (doM f ins c m k).t := by
  unfold doM
  split <;> first
    | exact Begins.refl _
    | exact ⟨Int.le_refl _, List.prefix_append _ _, List.prefix_refl _, List.prefix_refl _⟩
    | exact ⟨Int.le_refl _, List.prefix_refl _, List.prefix_append _ _, List.prefix_refl _⟩
    | exact ⟨Int.le_refl _, List.prefix_refl _, List.prefix_refl _, List.prefix_append _ _⟩
    | exact ⟨Int.le_refl _, List.prefix_refl _, List.prefix_refl _, List.prefix_refl _⟩
    | (split <;> exact ⟨Int.le_refl _, List.prefix_refl _, List.prefix_refl _, List.prefix_refl _⟩)
theorem begins_step (f : FlatD) (ins : List (List Int)) (m : MachD) : Begins m.t (stepM f ins m).t := by
  unfold stepM
  split
  · split
    · refine Begins.trans ?_ (begins_do f ins _ (tickM m) _)
      exact ⟨by simp only [tickM]; omega, List.prefix_refl _, List.prefix_refl _, List.prefix_refl _⟩
    · exact Begins.refl _
  · exact Begins.refl _
theorem begins_iter (f : FlatD) (ins : List (List Int)) (m : MachD) : ∀ k, Begins m.t (iterM f ins k m).t
  | 0 => Begins.refl _
  | k + 1 => by rw [iterM_succ]; exact (begins_iter f ins m k).trans (begins_step f ins _)
theorem begins_runs (f : FlatD) (ins : List (List Int)) (m : MachD) {n k : Nat} (h : n ≤ k) : Begins (iterM f ins n m).t (iterM f ins k m).t := by
  rw [show k = n + (k - n) by omega, iterM_add]
  exact begins_iter f ins _ _
theorem eqEv_refl (x : EvD) : eqEv x x = true := by simp [eqEv]
theorem eqBool_refl (x : Bool) : eqBool x x = true := by simp [eqBool]
theorem eqInt_refl (x : Int) : eqInt x x = true := by simp [eqInt]
theorem eqT_refl (x : TraceD) : eqT x x = true := by
  simp [eqT, eqL_refl eqEv_refl, eqL_refl eqBool_refl, eqL_refl eqInt_refl]
theorem take_prefix {α : Type} {l m : List α} (h : l <+: m) : m.take l.length = l := by
  obtain ⟨r, rfl⟩ := h; simp
theorem starts_of {x y : TraceD} (h : Begins x y) : startsT x y = true := by
  have h1 := h.outs.length_le
  have h2 := h.rels.length_le
  have h3 := h.brs.length_le
  have h0 := h.steps
  simp [startsT, take_prefix h.outs, take_prefix h.rels, take_prefix h.brs, eqL_refl eqEv_refl, eqL_refl eqBool_refl, h0, h1, h2, h3]
/-- A step of a run that has fuel is one step more. -/
theorem step_fuel {f : FlatD} {ins : List (List Int)} {m : MachD} (h : m.t.status = 2) (h0 : 0 ≤ m.pc) (h1 : m.pc < f.code.length) : (stepM f ins m).t.steps = m.t.steps + 1 := by
  obtain ⟨p, hp⟩ : ∃ p : Nat, m.pc = p := ⟨m.pc.toNat, by omega⟩
  obtain ⟨c, hc⟩ : ∃ c, f.code[p]? = some c := ⟨_, List.getElem?_eq_getElem (by omega)⟩
  rw [stepM, if_pos h, hp, Int.toNat_natCast, hc]
  show (doM f ins c (tickM m) c.kind.toNat).t.steps = _
  rw [doM_steps]; rfl
theorem status_back {f : FlatD} {ins : List (List Int)} {m : MachD} (h : (stepM f ins m).t.status = 2) : m.t.status = 2 := by
  by_cases hs : m.t.status = 2
  · exact hs
  · rw [step_end hs] at h; exact h
/-- A run that has fuel has performed all its steps. -/
theorem fuel_steps {f : FlatD} {ins : List (List Int)} (hh : HeadP f) (hci : ∀ c ∈ f.code, CodeIn c) : ∀ k, (iterM f ins k (newM f)).t.status = 2 → (iterM f ins k (newM f)).t.steps = k
  | 0, _ => rfl
  | k + 1, h => by
    rw [iterM_succ] at h ⊢
    have hb := status_back h
    have g := going_run (ins := ins) hh hci k
    rw [step_fuel hb g.pc0 g.pc1, fuel_steps hh hci k hb]
    omega
/-- Runs of n steps, and of more. -/
theorem more_law {f : FlatD} {L : List (List Int)} (hh : HeadP f) (hci : ∀ c ∈ f.code, CodeIn c) (n k : Nat) :
    ((runM f L n).t.status ≠ 2 → runM f L (n + k) = runM f L n) ∧ ((runM f L n).t.status = 2 → (runM f L n).t.steps = n ∧ (0 < k → (n : Int) < (runM f L (n + k)).t.steps)) ∧ (runM f L n).t.steps ≤ n ∧ startsT (runM f L n).t (runM f L (n + k)).t = true := by
  refine ⟨fun h => ?_, fun h => ?_, (going_run hh hci n).steps, starts_of (begins_runs _ _ _ (by omega))⟩
  · rw [runM, iterM_add]; exact iter_end h k
  · have hs := fuel_steps (ins := insM f L) hh hci n h
    refine ⟨hs, fun hk => ?_⟩
    have g := going_run (ins := insM f L) hh hci n
    have h1 := step_fuel (f := f) (ins := insM f L) h g.pc0 g.pc1
    rw [show runM f L n = iterM f (insM f L) n (newM f) from rfl, ← iterM_succ, hs] at h1
    have h2 := (begins_runs f (insM f L) (newM f) (show n + 1 ≤ n + k by omega)).steps
    rw [h1] at h2
    exact Int.lt_of_lt_of_le (by omega) h2
/-- What MachMore asks of two runs. -/
def MorePlain (x y : TraceD) (er n k : Int) : Prop :=
  (er ≠ 0 → x = zeroT) ∧ (er = 0 → (x.status ≠ 2 → y = x) ∧ (x.status = 2 → x.steps = n ∧ (0 < k → n < y.steps)) ∧ x.steps ≤ n ∧ startsT x y = true)
theorem more_plain (f : FlatD) (L : List (List Int)) (p q : Nat) (hp : p ≤ 99) (hq : q ≤ 99) (hci : ∀ c ∈ f.code, CodeIn c) : MorePlain (runT f L (1 + p)) (runT f L (1 + p + q)) (errNew f L.length) (1 + p) q := by
  have e1 : errRun f L.length (1 + p) = errNew f L.length := by rw [errRun, if_neg (by omega)]
  have e2 : errRun f L.length (1 + p + q) = errNew f L.length := by rw [errRun, if_neg (by omega)]
  refine ⟨fun h => by rw [runT, e1, if_neg h], fun h => ?_⟩
  have hok : flatOk f = true := by
    cases hk : flatOk f
    · rw [errNew, hk] at h; cases h
    · rfl
  have h1 : runT f L (1 + p) = (runM f L (p + 1)).t := by rw [runT, e1, if_pos h, show ((1 : Int) + p).toNat = p + 1 by omega]
  have h2 : runT f L (1 + p + q) = (runM f L (p + 1 + q)).t := by rw [runT, e2, if_pos h, show ((1 : Int) + p + q).toNat = p + 1 + q by omega]
  rw [h1, h2]
  obtain ⟨k1, k2, k3, k4⟩ := more_law (L := L) (headP hok) hci (p + 1) q
  refine ⟨fun hs => by rw [k1 hs], fun hs => ?_, by omega, k4⟩
  obtain ⟨j1, j2⟩ := k2 hs
  exact ⟨by omega, fun hk => by have := j2 (by omega); omega⟩
open Go.ChangeShapes Go.WideShapes Go.ChangeAt Go.RowKit
/-- Run's contract, its results' slices in the open. -/
def RunIs (t : TraceD) (er : Int) (w : World) (e : Ending) (w' : World) : Prop :=
  ∃ a1 a2 a3 a4 a5 a6 a7 a8, e = .returned (.tuple #[.agg #[.int .u8 t.status, .int .i64 t.steps, .slice a1 t.outs.length a2, .slice a3 t.rels.length a4, .slice a5 t.brs.length a6, .slice a7 t.reads.length a8], .int .i64 er]) ∧ RdTrace none w' t (.slice a1 t.outs.length a2) (.slice a3 t.rels.length a4) (.slice a5 t.brs.length a6) (.slice a7 t.reads.length a8) ∧ Below w.heap.size w w'
theorem runIs {t : TraceD} {er : Int} {w w' : World} {e : Ending} (h : RunSaid t er w e w') : RunIs t er w e w' := by
  obtain ⟨v1, v2, v3, v4, rfl, hr, hb⟩ := h
  obtain ⟨a1, a2, rfl⟩ := hr.1.is; obtain ⟨a3, a4, rfl⟩ := hr.2.1.is; obtain ⟨a5, a6, rfl⟩ := hr.2.2.1.is; obtain ⟨a7, a8, rfl⟩ := hr.2.2.2.1.is
  exact ⟨a1, a2, a3, a4, a5, a6, a7, a8, rfl, hr.forget, hb⟩
/-- A flat program in a block, its slices in the open. -/
def FlatIs (f : FlatD) (w : World) (e : Ending) (w' : World) : Prop :=
  ∃ caS ccS saS scS aaS acS kaS kcS, e = .returned (.agg #[.int .i64 f.width, .int .i64 f.regs, .slice caS f.chans.length ccS, .slice saS f.sites.length scS, .slice aaS f.arrays.length acS, .slice kaS f.code.length kcS]) ∧ RdFlat (some (upFrom w.heap.size)) w' f (.slice caS f.chans.length ccS) (.slice saS f.sites.length scS) (.slice aaS f.arrays.length acS) (.slice kaS f.code.length kcS) ∧ Below w.heap.size w w'
theorem flatIs {f : FlatD} {w w' : World} {e : Ending} (h : FlatNew f w e w') : FlatIs f w e w' := by
  obtain ⟨v1, v2, v3, v4, rfl, hr, hb⟩ := h
  obtain ⟨ca, cc, rfl⟩ := hr.1.is
  obtain ⟨sa, sc, rfl⟩ := hr.2.1.is
  obtain ⟨aa, ac, rfl⟩ := hr.2.2.1.is
  obtain ⟨ka, kc, rfl⟩ := hr.2.2.2.1.is
  exact ⟨_, _, _, _, _, _, _, _, rfl, hr, hb⟩
theorem RdLists.setRow {n m : Nat} {w : World} {v : Value} {l : List (List Int)} (h : RdLists (some (upFrom n)) w v l) {x : Nat} (hx : x < n) (hm : m ≤ n) (cs : Array Value) : RdLists (some (upFrom m)) (w.setRow x cs) v l :=
  h.same (fun b hb _ => setRow_other w x b cs (by have : n ≤ b := hb; omega)) (fun b _ hb => Nat.le_trans hm hb)
theorem errRun_in (f : FlatD) (n : Nat) (s : Int) (h1 : 1 ≤ s) (h2 : s ≤ 65536) : errRun f n s = errNew f n := by rw [errRun, if_neg (by omega)]
end Go.Proofs.YthmdioldnnhidaaDoor
