/- Plain lemmas on runs: inputs that are padded by empty lists are as good. No program. Plain lemmas on runs: inputs that are the same as words, as far as they are read, give the same run. No program. -/
import Derived.Test.YtkjkpddajjmloaaDoorMMq

set_option linter.unusedVariables false
set_option linter.unusedSimpArgs false
namespace Go.Proofs.YtkjkpddajjmloaaDoor
open Go.ChangeShapes Go.WideShapes Go.ChangeAt Go.RowKit
theorem inAt_pad (L : List (List Int)) (k n q : Nat) : inAt (L ++ List.replicate k []) n q = inAt L n q := by
  unfold inAt
  rw [List.getElem?_append]
  split
  · rfl
  · rename_i h
    rw [List.getElem?_eq_none (l := L) (by omega), List.getElem?_replicate]
    split <;> rfl
theorem doM_ins {f : FlatD} {a b : List (List Int)} (h : ∀ n q, inAt a n q = inAt b n q) (c : CodeD) (m : MachD) (k : Nat) : doM f a c m k = doM f b c m k := by
  match k with
  | 4 => simp only [doM, h]
  | 0 | 1 | 2 | 3 | 5 | 6 | 7 | 8 | 9 => rfl
  | k + 10 => rfl
theorem stepM_ins {f : FlatD} {a b : List (List Int)} (h : ∀ n q, inAt a n q = inAt b n q) (m : MachD) : stepM f a m = stepM f b m := by
  unfold stepM
  split
  · split
    · exact doM_ins h _ _ _
    · rfl
  · rfl
theorem iterM_ins {f : FlatD} {a b : List (List Int)} (h : ∀ n q, inAt a n q = inAt b n q) : ∀ (k : Nat) (m : MachD), iterM f a k m = iterM f b k m
  | 0, _ => rfl
  | k + 1, m => by rw [iterM_succ, iterM_succ, iterM_ins h k m, stepM_ins h]
/-- The reference's inputs are not padded. -/
theorem iterM_pad (f : FlatD) (L : List (List Int)) (k : Nat) (m : MachD) : iterM f L k m = iterM f (insM f L) k m := iterM_ins (fun n q => (inAt_pad L _ n q).symm) k m
open Go.ChangeShapes Go.WideShapes Go.ChangeAt Go.RowKit
/-- The word that a channel gives as its q-th input. -/
def wordAt (f : FlatD) (ins : List (List Int)) (n q : Nat) : Int := match inAt ins n q with | some v => v % 2 ^ f.width.toNat | none => 0
def readsAt (m : MachD) (n : Nat) : Int := m.t.reads.getD n 0
/-- How a step reads. -/
theorem doM_read {f : FlatD} {a b : List (List Int)} (c : CodeD) (m : MachD) (k : Nat) (h : k = 4 → wordAt f a c.n.toNat (readsAt m c.n.toNat).toNat = wordAt f b c.n.toNat (readsAt m c.n.toNat).toNat) : doM f a c m k = doM f b c m k := by
  match k with
  | 4 =>
    have h4 := h rfl
    unfold wordAt readsAt at h4
    exact congrArg (setR { m with t := { m.t with reads := m.t.reads.set c.n.toNat (m.t.reads.getD c.n.toNat 0 + 1) } } c.dst) h4
  | 0 | 1 | 2 | 3 | 5 | 6 | 7 | 8 | 9 => rfl
  | k + 10 => rfl
theorem doM_reads (f : FlatD) (a : List (List Int)) (c : CodeD) (m : MachD) (k : Nat) : (doM f a c m k).t.reads = if k = 4 then m.t.reads.set c.n.toNat (m.t.reads.getD c.n.toNat 0 + 1) else m.t.reads := by
  match k with
  | 4 => rfl
  | 2 => simp only [doM]; split <;> rfl
  | 3 => simp only [doM]; split <;> rfl
  | 0 | 1 | 5 | 6 | 7 | 8 | 9 => rfl
  | k + 10 => simp only [doM]; rw [if_neg (by omega)]
theorem set_getD (l : List Int) (i n : Nat) (x : Int) (hx : l.getD i 0 ≤ x) : l.getD n 0 ≤ (l.set i x).getD n 0 := by
  simp only [List.getD_eq_getElem?_getD, List.getElem?_set] at hx ⊢
  split
  · rename_i e
    subst e
    split
    · simpa using hx
    · rename_i h
      rw [List.getElem?_eq_none (by omega)]
      exact Int.le_refl _
  · exact Int.le_refl _
theorem reads_step (f : FlatD) (a : List (List Int)) (m : MachD) (n : Nat) : readsAt m n ≤ readsAt (stepM f a m) n := by
  unfold readsAt stepM
  split
  · split
    · rw [doM_reads]
      split
      · exact set_getD _ _ _ _ (by simp only [tickM]; omega)
      · exact Int.le_refl _
    · exact Int.le_refl _
  · exact Int.le_refl _
theorem reads_iter (f : FlatD) (a : List (List Int)) (n : Nat) : ∀ (k : Nat) (m : MachD), readsAt m n ≤ readsAt (iterM f a k m) n
  | 0, m => Int.le_refl _
  | k + 1, m => Int.le_trans (reads_step f a m n) (reads_iter f a n k (stepM f a m))
/-- One step. -/
theorem stepM_words {f : FlatD} {a b : List (List Int)} (m : MachD) (hn : ∀ c ∈ f.code, c.kind = 4 → 0 ≤ c.n ∧ c.n.toNat < m.t.reads.length) (h0 : ∀ n, 0 ≤ readsAt m n)
    (h : ∀ n q : Nat, (q : Int) < readsAt (stepM f a m) n → wordAt f a n q = wordAt f b n q) : stepM f a m = stepM f b m := by
  by_cases hs : m.t.status = 2
  · have hu : ∀ x, stepM f x m = match f.code[m.pc.toNat]? with | some c => doM f x c (tickM m) c.kind.toNat | none => m := fun x => if_pos hs
    rw [hu a] at h
    rw [hu a, hu b]
    cases hc : f.code[m.pc.toNat]? with
    | none => rfl
    | some c =>
      rw [hc] at h
      simp only at h ⊢
      refine doM_read c (tickM m) _ fun hk => h _ _ ?_
      have hk' : c.kind = 4 := by omega
      obtain ⟨h1, h2⟩ := hn c (List.mem_of_getElem? hc) hk'
      have h3 := h0 c.n.toNat
      unfold readsAt at h3 ⊢
      rw [doM_reads, if_pos hk]
      simp only [tickM]
      rw [List.getD_eq_getElem?_getD (l := m.t.reads.set _ _), List.getElem?_set_self (by exact h2)]
      simp only [Option.getD_some]
      omega
  · unfold stepM; rw [if_neg hs, if_neg hs]
theorem reads_len (f : FlatD) (a : List (List Int)) (m : MachD) : (stepM f a m).t.reads.length = m.t.reads.length := by
  unfold stepM
  split
  · split
    · rw [doM_reads]; split <;> simp [tickM]
    · rfl
  · rfl
/-- All steps: only the inputs that the run reads count, as words. -/
theorem iterM_words {f : FlatD} {a b : List (List Int)} : ∀ (k : Nat) (m : MachD) (_ : ∀ c ∈ f.code, c.kind = 4 → 0 ≤ c.n ∧ c.n.toNat < m.t.reads.length) (_ : ∀ n, 0 ≤ readsAt m n)
    (_ : ∀ n q : Nat, (q : Int) < readsAt (iterM f a k m) n → wordAt f a n q = wordAt f b n q), iterM f a k m = iterM f b k m
  | 0, _, _, _, _ => rfl
  | k + 1, m, hn, h0, h => by
    have h1 : stepM f a m = stepM f b m := stepM_words m hn h0 fun n q hq => h n q (Int.lt_of_lt_of_le hq (reads_iter f a n k _))
    show iterM f a k (stepM f a m) = iterM f b k (stepM f b m)
    rw [← h1]
    exact iterM_words k _ (fun c hc hk => by rw [reads_len]; exact hn c hc hk) (fun n => Int.le_trans (h0 n) (reads_step f a m n)) h
end Go.Proofs.YtkjkpddajjmloaaDoor
