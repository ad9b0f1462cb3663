/- A region that draws its order, by a plan: some operations (loads) are taken first because no operation that may come before them touches what they read; of the others at most one may come up at a time. Plain lemmas over any program. -/
import Derived.OrdersHeld
import Derived.WalkKit
set_option linter.unusedVariables false
set_option linter.unusedSimpArgs false
namespace Go.Proofs.YtgcfdbhpophnjaaDoor
section
variable {P : Program} {ops : Array Oper} {Q : Exit → Act → World → Prop} {md : Region.Mode} {H : World → Prop} {E : Nat → Bool}

/-- Whatever comes up; behind each operation that is not a late one H is shown. -/
def anyG (P : Program) (md : Region.Mode) (ops : Array Oper) (Q : Exit → Act → World → Prop) (H : World → Prop) (E : Nat → Bool) : Nat → Array Bool → Act → World → Prop
  | 0, L, a, w => Region.ready md ops L = [] ∧ Q .normal a w
  | n + 1, L, a, w => (Region.ready md ops L = [] → Q .normal a w) ∧
      ∀ i ∈ Region.ready md ops L, wpOp P ops Q i (fun a' w' => (E i = false → H w') ∧ anyG P md ops Q H E n (L.setIfInBounds i true) a' w') a w
theorem any_of_G : ∀ (n : Nat) (L : Array Bool) (a : Act) (w : World), anyG P md ops Q H E n L a w → wpAny P md ops Q n L a w
  | 0, _, _, _, h => h
  | n + 1, _, _, _, h => ⟨h.1, fun i hi => wpOp_mono (fun a' w' k => any_of_G n _ a' w' k.2) (h.2 i hi)⟩

theorem anyG_first {i : Nat} {oi : Oper} {v : Value} (hi : ops[i]? = some oi) (hsel : ∀ (j : Nat) (o : Oper) cs b, ops[j]? = some o → o.op ≠ .select cs b)
    (hQ : ∀ c a w, Q (.panic c) (a.put oi.dst v) w → Q (.panic c) a w) (hEi : E i = false)
    (hlate : ∀ j oj, ops[j]? = some oj → E j = true → ∃ e ∈ oj.after, Region.binds md e = true ∧ e.on = i) :
    ∀ (n : Nat) (L : Array Bool) (a : Act) (w : World),
      (∀ j oj, ops[j]? = some oj → j ≠ i → L.getD j true = false → (∀ e ∈ oj.after, Region.binds md e = true → e.on ≠ i) → oi.apart ops oj = true) →
      i ∈ Region.ready md ops L → YieldsIf P ops H oi v a → H w →
      anyG P md ops Q H E n (L.setIfInBounds i true) (a.put oi.dst v) w → anyG P md ops Q H E (n + 1) L a w := by
  intro n
  induction n with
  | zero =>
    intro L a w _ hr hy hS K
    refine ⟨fun h => (by rw [h] at hr; cases hr), fun j hj => ?_⟩
    by_cases hji : j = i
    · subst hji; exact hy.wpOp hi hS ⟨fun _ => hS, K⟩
    · have := ready_mono hj hji
      rw [K.1] at this
      cases this
  | succ n ih =>
    intro L a w hfree hr hy hS K
    refine ⟨fun h => (by rw [h] at hr; cases hr), fun j hj => ?_⟩
    by_cases hji : j = i
    · subst hji; exact hy.wpOp hi hS ⟨fun _ => hS, K⟩
    · have h1 := K.2 j (ready_mono hj hji)
      obtain ⟨hjun, oj, hoj, hall⟩ := mem_ready.1 hj
      have hnot : ∀ e ∈ oj.after, Region.binds md e = true → e.on ≠ i := by
        intro e he hb heq
        have g1 := hall e he hb
        have g0 := (mem_ready.1 hr).1
        rw [heq] at g1
        rcases Nat.lt_or_ge i L.size with h' | h'
        · simp [h'] at g0 g1; rw [g0] at g1; cases g1
        · simp [Array.getElem?_eq_none h'] at g1
      have hEj : E j = false := by
        cases h : E j
        · rfl
        · obtain ⟨e, he, hb, heq⟩ := hlate j oj hoj h
          exact absurd heq (hnot e he hb)
      have h2 := wpOp_putIf hoj (hfree j oj hoj hji hjun hnot) (fun cs b => hsel i oi cs b hi) (fun cs b => hsel j oj cs b hoj) hQ hy h1
      have hfree' : ∀ k ok, ops[k]? = some ok → k ≠ i → (L.setIfInBounds j true).getD k true = false →
          (∀ e ∈ ok.after, Region.binds md e = true → e.on ≠ i) → oi.apart ops ok = true := by
        intro k ok hk hki hun hno
        refine hfree k ok hk hki ?_ hno
        by_cases hjk : j = k
        · subst hjk; exact hjun
        · rw [getD_set_ne true hjk] at hun; exact hun
      refine wpOp_mono (fun a' w' h3 => ⟨h3.2.1, ih (L.setIfInBounds j true) a' w' hfree' (ready_mono hr (Ne.symm hji)) h3.1 (h3.2.1 hEj) ?_⟩) h2
      rw [Array.setIfInBounds_comm _ _ hji]
      exact h3.2.2

/-- A plan: the numbers of the operations in the order in which they are gone through; true: taken first. -/
def planRun (P : Program) (ops : Array Oper) (Q : Exit → Act → World → Prop) (H : World → Prop) (E : Nat → Bool) : List (Nat × Bool) → Act → World → Prop
  | [], a, w => Q .normal a w
  | (i, true) :: r, a, w => ∃ v o, ops[i]? = some o ∧ YieldsIf P ops H o v a ∧ H w ∧ planRun P ops Q H E r (a.put o.dst v) w
  | (i, false) :: r, a, w => wpOp P ops Q i (fun a' w' => (E i = false → H w') ∧ planRun P ops Q H E r a' w') a w

def lateOk (md : Region.Mode) (ops : Array Oper) (E : Nat → Bool) (i : Nat) : Bool :=
  (List.range ops.size).all fun j => !E j || (match ops[j]? with | some o => o.after.any (fun e => Region.binds md e && e.on == i) | none => true)
def planOk (md : Region.Mode) (ops : Array Oper) (E : Nat → Bool) : List (Nat × Bool) → Array Bool → Bool
  | [], L => (Region.ready md ops L).isEmpty
  | (i, true) :: r, L => Region.free md ops L i && (Region.ready md ops L).contains i && lateOk md ops E i && !E i && planOk md ops E r (L.setIfInBounds i true)
  | (i, false) :: r, L => (Region.ready md ops L == [i]) && planOk md ops E r (L.setIfInBounds i true)

theorem lateOk_spec {i : Nat} (h : lateOk md ops E i = true) : ∀ j oj, ops[j]? = some oj → E j = true → ∃ e ∈ oj.after, Region.binds md e = true ∧ e.on = i := by
  intro j oj hj hE
  have hlt : j < ops.size := (Array.getElem?_eq_some_iff.1 hj).1
  have := List.all_eq_true.1 h j (by simpa using hlt)
  rw [hE, hj] at this
  simp only [Bool.not_true, Bool.false_or] at this
  obtain ⟨e, he, hb⟩ := Array.any_eq_true'.1 this
  rw [Bool.and_eq_true, beq_iff_eq] at hb
  exact ⟨e, he, hb.1, hb.2⟩

theorem anyG_of_plan (hs : Region.noSelect ops = true) (hQ : ∀ c (d : Option Tmp) v a w, Q (.panic c) (a.put d v) w → Q (.panic c) a w) :
    ∀ (l : List (Nat × Bool)) (L : Array Bool) (a : Act) (w : World), planOk md ops E l L = true → planRun P ops Q H E l a w → anyG P md ops Q H E l.length L a w
  | [], L, a, w, h, k => ⟨List.isEmpty_iff.1 h, k⟩
  | (i, true) :: r, L, a, w, h, ⟨v, o, ho, hy, hH, k⟩ => by
    simp only [planOk, Bool.and_eq_true, Bool.not_eq_true'] at h
    obtain ⟨⟨⟨⟨h1, h2⟩, h3⟩, h4⟩, h5⟩ := h
    exact anyG_first ho (Region.noSelect_spec hs) (fun c a w => hQ c _ _ a w) h4 (lateOk_spec h3) r.length L a w (Region.free_spec ho h1) (by simpa using h2) hy hH (anyG_of_plan hs hQ r _ _ _ h5 k)
  | (i, false) :: r, L, a, w, h, k => by
    simp only [planOk, Bool.and_eq_true, beq_iff_eq] at h
    refine ⟨fun e => ?_, fun j hj => ?_⟩
    · rw [h.1] at e; cases e
    · rw [h.1, List.mem_singleton] at hj
      subst hj
      exact wpOp_mono (fun a' w' h3 => ⟨h3.1, anyG_of_plan hs hQ r _ _ _ h.2 h3.2⟩) k

/-- **A region by a plan.** -/
theorem wp_region_plan {id : Nat} {a : Act} {w : World} (H : World → Prop) (E : Nat → Bool) (l : List (Nat × Bool)) (hm : P.follows .mixedOrders = true) (hs : Region.noSelect ops = true)
    (hl : l.length = ops.size) (hok : planOk .any ops E l (Array.replicate ops.size false) = true)
    (hQ : ∀ c (d : Option Tmp) v a w, Q (.panic c) (a.put d v) w → Q (.panic c) a w)
    (h : planRun P ops Q H E l a w.drew) : (Code.region id ops true).wp P Q a w :=
  wp_region_any hm (any_of_G _ _ _ _ (hl ▸ anyG_of_plan hs hQ l _ _ _ hok h))

/-- The post of one operation's walk: K behind it, Q where it panics. -/
def stepQ (K : Act → World → Prop) (Q : Exit → Act → World → Prop) : Exit → Act → World → Prop
  | .normal, a, w => K a w
  | e, a, w => Q e a w
theorem wp_stepQ {o : Oper} {a : Act} {w : World} {K K' : Act → World → Prop} (h : o.wp P a w K (stepQ K' Q)) : o.wp P a w K Q := by
  unfold Oper.wp at *
  generalize (execOp a.eval o).run P w = r at *
  cases r with
  | ok n w' =>
    cases n <;> simp only [Oper.upon] at h ⊢
    case value u => exact h
    case skip => exact h
    case defer d => exact h
    case enter f args =>
      refine Calls.mono h fun e w'' he => ?_
      cases e with
      | returned u => exact he
      | panicked c => exact he
      | outgrown => exact he
    case row row args => exact h
  | halt x w' => cases x <;> simp only [Oper.upon] at h ⊢ <;> exact h
theorem wpOp_some {i : Nat} {o : Oper} {K : Act → World → Prop} {a : Act} {w : World} (ho : ops[i]? = some o) :
    wpOp P ops Q i K a w = if Region.wanted o (yielded ops a.tmps) then o.wp P a w K Q ∨ (o.asks P a w ∧ LetsOut Q) else K (a.put o.dst undef) w := by
  unfold wpOp
  simp only [ho]
/-- One operation of a plan, walked as a list of one. -/
theorem plan_step {i : Nat} {o : Oper} {r : List (Nat × Bool)} {a : Act} {w : World} (ho : ops[i]? = some o)
    (h : wpList P ops (stepQ (fun a' w' => (E i = false → H w') ∧ planRun P ops Q H E r a' w') Q) [o] a w) : planRun P ops Q H E ((i, false) :: r) a w := by
  show wpOp P ops Q i _ a w
  rw [wpOp_some ho]
  simp only [wpList] at h
  by_cases hw : Region.wanted o (yielded ops a.tmps) = true
  · rw [if_pos hw] at h ⊢
    rcases h with h | ⟨h1, h2⟩
    · exact .inl (wp_stepQ h)
    · exact .inr ⟨h1, h2⟩
  · rw [if_neg hw] at h ⊢
    exact h
theorem plan_nil {a : Act} {w : World} (h : Q .normal a w) : planRun P ops Q H E [] a w := h
/-- The late operations at the end of a plan, walked as one list. -/
theorem plan_tail : ∀ (l : List Nat) (os : List Oper) (a : Act) (w : World), l.map (fun i => ops[i]?) = os.map some → l.all E = true → wpList P ops Q os a w → planRun P ops Q H E (l.map fun i => (i, false)) a w
  | [], [], _, _, _, _, h => h
  | [], _ :: _, _, _, h, _, _ => by cases h
  | _ :: _, [], _, _, h, _, _ => by cases h
  | i :: l, o :: os, a, w, h, hE, hw => by
    simp only [List.map_cons, List.cons.injEq] at h
    simp only [List.all_cons, Bool.and_eq_true] at hE
    have hk : ∀ a' w', wpList P ops Q os a' w' → (E i = false → H w') ∧ planRun P ops Q H E (l.map fun i => (i, false)) a' w' := by
      intro a' w' h3
      exact ⟨fun e => (by rw [hE.1] at e; cases e), plan_tail l os a' w' h.2 hE.2 h3⟩
    have h0 : wpOp P ops Q i (wpList P ops Q os) a w := by rw [wpOp_some h.1]; exact hw
    exact wpOp_mono hk h0
end
end Go.Proofs.YtgcfdbhpophnjaaDoor
