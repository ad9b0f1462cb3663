/- A drawn region that holds makers in any order, of which some are guarded: as wp_region_own, where a guard's own operation is among those whose values are known. Plain lemmas over any program. No condition. The chapter's examples as data, their flat programs, and the contracts of the law's small functions: num, reg, makes. Conditions: the argument reads as a program, and the tables are laid. -/
import Derived.Test.YtgcfdbhpophnjaaDoorMixK
import Derived.Test.YtgcfdbhpophnjaaDoorFlG
import Derived.Test.YtgcfdbhpophnjaaDoorAwa
set_option linter.unusedVariables false
set_option linter.unusedSimpArgs false
set_option linter.unnecessarySimpa false
namespace Go.Proofs.YtgcfdbhpophnjaaDoor
open Go.Maps (Keyed string_keyed int_keyed)
open Go.ChangeShapes Go.WideShapes Go.ChangeAt Go.RowKit
section
variable {P : Program} {ops : Array Oper} {Q : Exit → Act → World → Prop} {md : Region.Mode} {C : World → Prop} {E : Nat → Bool}
theorem wpOp_movedG {j : Nat} {o : Oper} {a a1 : Act} {w : World} {R : Value → World → Prop} (ho : ops[j]? = some o) (hp : plainOp o.op = true) (hs : a.tmps.size = a1.tmps.size) (hw : Region.wanted o (yielded ops a.tmps) = Region.wanted o (yielded ops a1.tmps))
    (hx : ∀ x ∈ o.op.operands, a.eval x = a1.eval x) (h : wpOp P ops (fun _ _ _ => False) j (fun a' w' => ∃ v, a' = a1.put o.dst v ∧ R v w') a1 w) :
    wpOp P ops Q j (fun a' w' => ∃ v, a' = a.put o.dst v ∧ R v w') a w := by
  have hsel : ∀ cs b, o.op ≠ .select cs b := fun cs b e => by rw [e] at hp; cases hp
  unfold wpOp at *
  simp only [ho, hw] at *
  split at h
  case isFalse hb =>
    rw [if_neg hb]
    obtain ⟨v, e, hr⟩ := h
    exact ⟨v, put_same hs e, hr⟩
  rename_i hb
  rw [if_pos hb]
  rcases h with h | ⟨_, _, _, h⟩
  case inr => exact h.elim
  refine .inl ?_
  unfold Oper.wp at *
  rw [execOp_congr o hsel hx]
  generalize (execOp a1.eval o).run P w = r at *
  have go : ∀ u w', (∃ v, a1.put o.dst u = a1.put o.dst v ∧ R v w') → ∃ v, a.put o.dst u = a.put o.dst v ∧ R v w' := fun u w' ⟨v, e, hr⟩ => ⟨v, put_same hs e, hr⟩
  cases r with
  | ok n w' =>
    cases n <;> simp only [Oper.upon] at h ⊢
    case value u => exact go _ _ h
    case skip => exact go _ _ h
    case defer d =>
      obtain ⟨v, e, hr⟩ := h
      have := congrArg (fun x : Act => x.defers.length) e
      cases ho : o.dst <;> rw [ho] at this <;> simp [Act.put] at this
    case enter f args =>
      refine Calls.mono h fun e w'' he => ?_
      cases e with
      | returned u => exact go _ _ he
      | panicked c => exact he.elim
      | outgrown => obtain ⟨_, _, he⟩ := he; exact he.elim
    case row row args => exact Rows.mono h fun u w'' he => go _ _ he
  | halt x w' => cases x <;> simp only [Oper.upon] at h ⊢
theorem wanted_same {o : Oper} {val : Vals} {M need : List (Nat × Option Tmp)} {a : Act} (h : ∀ g b, o.guard = some (g, b) → ∀ t, (ops[g]?).bind (·.dst) = some t → (M.filter fun p => p.2 == some t) = need.filter fun p => p.2 == some t) :
    Region.wanted o (yielded ops (pv val M a).tmps) = Region.wanted o (yielded ops (pv val need a).tmps) := by
  unfold Region.wanted
  cases hg : o.guard with
  | none => rfl
  | some gb =>
    obtain ⟨g, b⟩ := gb
    have : yielded ops (pv val M a).tmps g = yielded ops (pv val need a).tmps g := by
      unfold yielded
      cases hd : (ops[g]?).bind (·.dst) with
      | none => rfl
      | some t =>
        have h1 := pv_need (val := val) (a := a) (x := .tmp t) (fun t' ht' => by cases ht'; exact h g b hg t hd)
        simp only [Act.eval, Array.getD_eq_getD_getElem?] at h1
        have hsz : (pv val M a).tmps.size = (pv val need a).tmps.size := by rw [pv_size, pv_size]
        have h2 : (pv val M a).tmps[t]? = (pv val need a).tmps[t]? := by
          by_cases hl : t < (pv val M a).tmps.size
          · have hl2 : t < (pv val need a).tmps.size := by rw [← hsz]; exact hl
            simp [hl, hl2] at h1 ⊢
            exact h1
          · have hl2 : ¬ t < (pv val need a).tmps.size := by rw [← hsz]; exact hl
            simp [hl, hl2]
        simp only [Option.bind_some, h2]
    simp only [this]
def makerOkG (md : Region.Mode) (ops : Array Oper) (M : List Maker) (m : Maker) : Bool := match ops[m.j]? with
  | some o => (match o.guard with | none => true | some (g, _) => match (ops[g]?).bind (·.dst) with | none => true | some t => ((M.map Maker.pr).filter fun p => p.2 == some t) == (m.need.filter fun p => p.2 == some t)) && (o.dst == m.dst) && plainOp o.op && m.dst.isSome &&
      (m.need.all fun p => waitsB md ops ops.size m.j p.1 && (M.map Maker.pr).contains p) &&
      (o.op.operands.toList.all fun x => match x with | .tmp t => ((M.map Maker.pr).filter fun p => p.2 == some t) == (m.need.filter fun p => p.2 == some t) | _ => true)
  | none => false
def ownOkG (md : Region.Mode) (ops : Array Oper) (E : Nat → Bool) (M : List Maker) (T : List Nat) (L0 : Array Bool) : Bool :=
  decide ((M.map Maker.j).Nodup) && decide ((M.map Maker.dst).Nodup) && (M.all (makerOkG md ops M)) && (M.all fun m => !L0.getD m.j true) &&
  ((List.range ops.size).all fun i => L0.getD i false || (M.map Maker.j).contains i || T.contains i) && topoOk md ops M L0 &&
  (T.all fun t => M.all fun m => waitsB md ops ops.size t m.j) && mixOk md ops E (tailOf T) (makersL M L0) && (L0.size == ops.size)
theorem anyG_ownG {M : List Maker} {T : List Nat} {os : List Oper} {Y : Said} {L0 : Array Bool} {a0 : Act} {w0 : World} (hs : Region.noSelect ops = true) (hQ : ∀ c (d : Option Tmp) v a w, Q (.panic c) (a.put d v) w → Q (.panic c) a w)
    (hok : ownOkG md ops E M T L0 = true) (hT : T.all E = true) (hos : T.map (fun i => ops[i]?) = os.map some) (hC : ∀ w', Below w0.heap.size w0 w' → C w')
    (hY : ∀ j v w w' lo hi, Y j v w lo hi → Below w.heap.size w w' → Y j v w' lo hi)
    (hst : stepsOk P ops Y w0 a0 M) (hend : ownEnd P ops Q Y w0 a0 M os) :
    ∀ (r : Nat) (L : Array Bool) (val : Vals) (w : World), Closed md ops L → L.size = L0.size → (∀ i, L.getD i false = true ↔ L0.getD i false = true ∨ (i ∈ M.map Maker.j ∧ (val i).isSome = true)) →
      (M.filter fun m => (val m.j).isNone).length = r → Below w0.heap.size w0 w →
      (∀ m ∈ M, ∀ x, val m.j = some x → Y m.j x.1 w x.2.1 x.2.2 ∧ w0.heap.size ≤ x.2.1 ∧ x.2.1 ≤ x.2.2 ∧ x.2.2 ≤ w.heap.size) →
      (∀ m ∈ M, ∀ m' ∈ M, m.j ≠ m'.j → ∀ x y, val m.j = some x → val m'.j = some y → x.2.2 ≤ y.2.1 ∨ y.2.2 ≤ x.2.1) →
      anyG P md ops Q C E (r + (tailOf T).size) L (pv val (M.map Maker.pr) a0) w := by
  unfold ownOkG at hok
  simp only [Bool.and_eq_true, decide_eq_true_eq, List.all_eq_true, Bool.not_eq_true', beq_iff_eq] at hok
  obtain ⟨⟨⟨⟨⟨⟨⟨⟨k1, k2⟩, k3⟩, k4⟩, k5⟩, k6⟩, k7⟩, k8⟩, k9⟩ := hok
  have hprj : (M.map Maker.pr).map Prod.fst = M.map Maker.j := by rw [List.map_map]; rfl
  have hdst : ∀ m ∈ M, ∀ m' ∈ M, m.j ≠ m'.j → ∀ t, m.dst = some t → m'.dst ≠ some t := by
    intro m hm m' hm' hne t ht ht'
    exact hne (by rw [nodup_dst M k2 m hm m' hm' (ht.trans ht'.symm)])
  have hlt : ∀ m ∈ M, m.j < L0.size := by
    intro m hm
    have := k4 m hm
    rcases Nat.lt_or_ge m.j L0.size with h' | h'
    · exact h'
    · simp [Array.getElem?_eq_none h'] at this
  intro r
  induction r with
  | zero =>
    intro L val w hcl hsz hL hr hb hv hd
    rw [Nat.zero_add]
    have hall : ∀ m ∈ M, (val m.j).isSome = true := by
      intro m hm
      have := List.eq_nil_of_length_eq_zero hr
      rw [List.filter_eq_nil_iff] at this
      have := this m hm
      cases hx : val m.j with
      | none => simp [hx] at this
      | some x => rfl
    have hLe : L = makersL M L0 := by
      have hm := fun i => makersL_get (M := M) (L := L0) (i := i) hlt
      refine Array.ext (by rw [hsz, (hm 0).2]) (fun i h1 h2 => ?_)
      have e1 := hL i
      have e2 := (hm i).1
      have e3 : (i ∈ M.map Maker.j ∧ (val i).isSome = true) ↔ i ∈ M.map Maker.j := by
        refine ⟨fun h => h.1, fun h => ⟨h, ?_⟩⟩
        obtain ⟨m, hm, rfl⟩ := List.mem_map.1 h
        exact hall m hm
      rw [e3] at e1
      have := e1.trans e2.symm
      simp [h1, h2] at this
      exact this
    rw [hLe]
    rw [hLe] at hcl
    refine anyG_of_mix hs hQ (tailOf T) _ _ _ hcl k8 (mix_tail T os _ _ hos hT ?_)
    have := hend (fun i => (val i).getD (undef, 0, 0)) w hb (fun m hm => ?_) (fun m hm m' hm' hne => ?_)
    · rw [pv_congr (val' := fun i => some ((val i).getD (undef, 0, 0))) _ _ (fun p hp => ?_)]
      · exact this
      · obtain ⟨m, hm, rfl⟩ := List.mem_map.1 hp
        obtain ⟨x, hx⟩ := Option.isSome_iff_exists.1 (hall m hm)
        show val m.j = some ((val m.j).getD _)
        rw [hx]; rfl
    · obtain ⟨x, hx⟩ := Option.isSome_iff_exists.1 (hall m hm)
      simp only [hx, Option.getD_some]
      exact hv m hm x hx
    · obtain ⟨x, hx⟩ := Option.isSome_iff_exists.1 (hall m hm)
      obtain ⟨y, hy⟩ := Option.isSome_iff_exists.1 (hall m' hm')
      simp only [hx, hy, Option.getD_some]
      exact hd m hm m' hm' hne x y hx hy
  | succ r ih =>
    intro L val w hcl hsz hL hr hb hv hd
    rw [show r + 1 + (tailOf T).size = (r + (tailOf T).size) + 1 from by omega]
    obtain ⟨mu, hmu, hun⟩ : ∃ m ∈ M, (val m.j).isNone = true := by
      have : (M.filter fun m => (val m.j).isNone) ≠ [] := fun e => by rw [e] at hr; cases hr
      obtain ⟨m, hm⟩ := List.exists_mem_of_ne_nil _ this
      rw [List.mem_filter] at hm
      exact ⟨m, hm.1, by simpa using hm.2⟩
    have hk4 : ∀ m ∈ M, L0.getD m.j false = false := fun m hm => by
      have h1 := k4 m hm; have h2 := hlt m hm
      simp [h2] at h1 ⊢; exact h1
    have hnl : ∀ m ∈ M, (val m.j).isNone = true → L.getD m.j false = false := by
      intro m hm h
      cases hx : L.getD m.j false with
      | false => rfl
      | true =>
        rcases (hL m.j).1 hx with h1 | h1
        · rw [hk4 m hm] at h1; cases h1
        · rw [Option.isNone_iff_eq_none] at h; rw [h] at h1; cases h1.2
    refine ⟨fun e => absurd e (topo_ready M L0 k6 (fun i hi => (hL i).2 (.inl hi)) hsz ⟨mu, hmu, ?_⟩), fun j hj => ?_⟩
    · have h1 := hnl mu hmu hun
      have h2 : mu.j < L.size := by rw [hsz]; exact hlt mu hmu
      simp [h2] at h1 ⊢; exact h1
    · obtain ⟨hjun, o, ho, hdeps⟩ := mem_ready.1 hj
      have hjlt : j < ops.size := (Array.getElem?_eq_some_iff.1 ho).1
      have hjf : L.getD j false = false := by
        have : j < L.size := by rw [hsz, k9]; exact hjlt
        simp [this] at hjun ⊢; exact hjun
      have hwaits : ∀ i, waitsB md ops ops.size j i = true → L.getD i false = true := fun i hi => waits_listed hcl _ j hi (fun o' ho' e he hb => by rw [ho] at ho'; cases ho'; exact hdeps e he hb)
      have hjM : ∃ m ∈ M, m.j = j := by
        have := k5 j (by simpa using hjlt)
        simp only [Bool.or_eq_true, List.contains_iff_mem] at this
        rcases this with (h | h) | h
        · rw [(hL j).2 (.inl h)] at hjf; cases hjf
        · obtain ⟨m, hm, e⟩ := List.mem_map.1 h; exact ⟨m, hm, e⟩
        · have h1 := hwaits mu.j (k7 j h mu hmu)
          rw [hnl mu hmu hun] at h1; cases h1
      obtain ⟨m, hm, rfl⟩ := hjM
      have hmo := k3 m hm
      unfold makerOkG at hmo
      simp only [ho, Bool.and_eq_true, List.all_eq_true, beq_iff_eq] at hmo
      obtain ⟨⟨⟨⟨⟨g1, g2⟩, g3⟩, g4⟩, g5⟩, g6⟩ := hmo
      have hvn : val m.j = none := by
        cases hx : val m.j with
        | none => rfl
        | some x =>
          rw [(hL m.j).2 (.inr ⟨List.mem_map_of_mem hm, by rw [hx]; rfl⟩)] at hjf; cases hjf
      have hneed : ∀ p ∈ m.need, ∃ q ∈ M, p = q.pr ∧ ∃ x, val q.j = some x := by
        intro p hp
        have h1 := g5 p hp
        simp only [List.contains_iff_mem] at h1
        obtain ⟨q, hq, rfl⟩ := List.mem_map.1 h1.2
        refine ⟨q, hq, rfl, ?_⟩
        rcases (hL q.j).1 (hwaits q.j h1.1) with h | h
        · rw [hk4 q hq] at h; cases h
        · exact Option.isSome_iff_exists.1 h.2
      have hpvn : pv val m.need a0 = pv (fun i => some ((val i).getD (undef, 0, 0))) m.need a0 := pv_congr _ _ (fun p hp => by
        obtain ⟨q, hq, rfl, x, hx⟩ := hneed p hp
        show val q.j = some ((val q.j).getD _)
        rw [hx]; rfl)
      have hstep := stepsOk_mem hst m hm (fun i => (val i).getD (undef, 0, 0)) w hb (fun p hp => by
        obtain ⟨q, hq, rfl, x, hx⟩ := hneed p hp
        simp only [Maker.pr, hx, Option.getD_some]
        exact (hv q hq x hx).1)
      rw [← hpvn] at hstep
      have hmv := wpOp_movedG (Q := Q) (a := pv val (M.map Maker.pr) a0) (a1 := pv val m.need a0) (R := fun v w' => Below w.heap.size w w' ∧ Y m.j v w' w.heap.size w'.heap.size) ho g3 (by rw [pv_size, pv_size]) (wanted_same (fun g b hg t hd => by rw [hg] at g1; simp only [hd] at g1; simpa using g1))
        (fun x hx => pv_need (fun t ht => by have := g6 x (by simpa using hx); rw [ht] at this; simpa using this)) (by rw [g2]; exact hstep)
      refine wpOp_mono (fun a' w' h3 => ?_) hmv
      obtain ⟨v, rfl, hb', hy⟩ := h3
      have hbb : Below w0.heap.size w0 w' := hb.trans (hb'.mono hb.size)
      refine ⟨fun _ => hC w' hbb, ?_⟩
      rw [g2]
      have hins := pv_insert (val := val) (j := m.j) (d := m.dst) (x := (v, w.heap.size, w'.heap.size)) (M.map Maker.pr) a0 (by rw [hprj]; exact k1)
        (fun p hp hne t ht => by obtain ⟨q, hq, rfl⟩ := List.mem_map.1 hp; exact hdst m hm q hq (Ne.symm hne) t ht) (List.mem_map_of_mem (f := Maker.pr) hm) hvn
      rw [← hins]
      have hjs : m.j < L.size := by rw [hsz]; exact hlt m hm
      refine ih (L.setIfInBounds m.j true) _ w' (hcl.set hj) (by rw [Array.size_setIfInBounds]; exact hsz) (fun i => ?_) ?_ hbb (fun q hq x hx => ?_) (fun q hq q' hq' hne x y hx hy => ?_)
      · by_cases e : m.j = i
        · subst e
          simp [hjs]
          exact .inr ⟨m, hm, rfl⟩
        · rw [getD_set_ne false e, hL i, if_neg (Ne.symm e)]
      · have hcount : ∀ (l : List Maker), (l.map Maker.j).Nodup → m ∈ l → (l.filter fun q => (val q.j).isNone).length = (l.filter fun q => (if q.j = m.j then some (v, w.heap.size, w'.heap.size) else val q.j).isNone).length + 1 := by
          intro l
          induction l with
          | nil => intro _ h; cases h
          | cons q l ihl =>
            intro hn hmem
            simp only [List.map_cons, List.nodup_cons] at hn
            by_cases hq : q.j = m.j
            · have hnot : ∀ p ∈ l, p.j ≠ m.j := fun p hp e => hn.1 (by rw [hq, ← e]; exact List.mem_map_of_mem hp)
              have e2 : (l.filter fun q => (if q.j = m.j then some (v, w.heap.size, w'.heap.size) else val q.j).isNone) = l.filter fun q => (val q.j).isNone := List.filter_congr (fun p hp => by rw [if_neg (hnot p hp)])
              rw [List.filter_cons, List.filter_cons, e2, hq, hvn]
              simp
            · have hmem' : m ∈ l := by
                rcases List.mem_cons.1 hmem with rfl | h
                · exact absurd rfl hq
                · exact h
              have := ihl hn.2 hmem'
              rw [List.filter_cons, List.filter_cons, if_neg hq]
              cases hx : (val q.j).isNone
              · simpa [hx] using this
              · simpa [hx] using this
        have := hcount M k1 hm
        omega
      · by_cases e : q.j = m.j
        · have hx' : x = (v, w.heap.size, w'.heap.size) := by
            simp only [e, if_true, Option.some.injEq] at hx; exact hx.symm
          subst hx'
          rw [e]
          exact ⟨hy, hb.size, hb'.size, Nat.le_refl _⟩
        · rw [if_neg e] at hx
          obtain ⟨h1, h2, h3, h4⟩ := hv q hq x hx
          exact ⟨hY _ _ _ _ _ _ h1 hb', h2, h3, Nat.le_trans h4 hb'.size⟩
      · by_cases e : q.j = m.j
        · have e' : q'.j ≠ m.j := fun h => hne (e.trans h.symm)
          have hx' : x = (v, w.heap.size, w'.heap.size) := by
            simp only [e, if_true, Option.some.injEq] at hx; exact hx.symm
          subst hx'
          rw [if_neg e'] at hy
          exact .inr (hv q' hq' y hy).2.2.2
        · rw [if_neg e] at hx
          by_cases e' : q'.j = m.j
          · have hy' : y = (v, w.heap.size, w'.heap.size) := by
              simp only [e', if_true, Option.some.injEq] at hy; exact hy.symm
            subst hy'
            exact .inl (hv q hq x hx).2.2.2
          · rw [if_neg e'] at hy
            exact hd q hq q' hq' hne x y hx hy
/-- **A region with makers.** The readers rs first, then the makers M in whatever order, then the operations T, which wait for all. -/
theorem wp_region_ownG {id : Nat} {a : Act} {w : World} {l : List Oper} (rs : List Nat) (M : List Maker) (T : List Nat) (os : List Oper) (E : Nat → Bool) (Y : Said) (hm : P.follows .mixedOrders = true) (hs : Region.noSelect l.toArray = true)
    (hl : rs.length + (M.length + (tailOf T).size) = l.length) (hok : (match readOk .any l.toArray E rs (Array.replicate l.length false) with | some L => ownOkG .any l.toArray E M T L | none => false) = true) (hT : T.all E = true) (hos : T.map (fun i => l.toArray[i]?) = os.map some)
    (hQ : ∀ c (d : Option Tmp) v a w, Q (.panic c) (a.put d v) w → Q (.panic c) a w)
    (hY : ∀ j v w w' lo hi, Y j v w lo hi → Below w.heap.size w w' → Y j v w' lo hi)
    (h : readRun P l.toArray (fun w' => ∃ x, w' = ext w x) w.drew rs (fun a' => stepsOk P l.toArray Y w.drew a' M ∧ ownEnd P l.toArray Q Y w.drew a' M os) a) : (Code.region id l.toArray true).wp P Q a w := by
  refine wp_region_any hm (any_of_G (H := fun w' => ∃ x, w' = ext w x) (E := E) _ _ _ _ ?_)
  cases hr : readOk .any l.toArray E rs (Array.replicate l.length false) with
  | none => rw [hr] at hok; cases hok
  | some L =>
    rw [hr] at hok
    have := anyG_readRun (md := .any) (C := fun w' => ∃ x, w' = ext w x) (Q := Q) (E := E) (n := M.length + (tailOf T).size) hs hQ rs (Array.replicate l.length false) L a (Closed.start _) hr h (fun a' hcl hk => by
      have hown := anyG_ownG (C := fun w' => ∃ x, w' = ext w x) (L0 := L) hs hQ hok hT hos (fun w' hb => ⟨_, ext_of ((Below.refl _ _).drew.trans hb)⟩) hY hk.1 hk.2 M.length L (fun _ => none) w.drew hcl rfl (fun i => by simp) (by simp) (Below.refl _ _) (fun m hm x hx => by cases hx) (fun m hm m' hm' hne x y hx => by cases hx)
      have e : ∀ (q : List (Nat × Option Tmp)) (b : Act), pv (fun _ => none) q b = b := fun q => by
        induction q with
        | nil => intro b; rfl
        | cons p q ih => intro b; exact ih b
      rw [e] at hown
      exact hown)
    rw [hl] at this
    simpa using this
end
open Go.WideShapes Go.ChangeAt Go.RowKit Go.ChangeShapes
def sx : ByteArray := ⟨#[120]⟩
def sy : ByteArray := ⟨#[121]⟩
def sp : ByteArray := ⟨#[112]⟩
def sL : ByteArray := ⟨#[76]⟩
def sf : ByteArray := ⟨#[102]⟩
def sc : ByteArray := ⟨#[99]⟩
def ss : ByteArray := ⟨#[115]⟩
def s0 : ByteArray := ⟨#[]⟩
def aX : ArgD := ⟨sx, 0⟩
def aY : ArgD := ⟨sy, 0⟩
def aP : ArgD := ⟨sp, 0⟩
def aN (n : Int) : ArgD := ⟨s0, n⟩
def loopI : List InstrD := [⟨10, 0, s0, sL, [], 0, 0⟩, ⟨1, 4, sx, s0, [aX, aN 5], 0, 0⟩, ⟨9, 0, s0, sL, [aX], 0, 0⟩]
def fnD : FuncD := ⟨sf, [sp], [⟨1, 2, sy, s0, [aP], 0, 0⟩, ⟨12, 0, s0, s0, [aY], 0, 0⟩], 0, 0⟩
def fn0 : FuncD := ⟨sf, [], [], 0, 0⟩
def callI : List InstrD := [⟨4, 0, sx, sf, [aN 3], 0, 0⟩]
def emptyI : List InstrD := [⟨4, 0, sx, sf, [], 0, 0⟩]
def ioI : List InstrD := [⟨5, 0, sx, sc, [], 0, 0⟩, ⟨6, 0, s0, sc, [aN 7], 0, 0⟩, ⟨7, 0, sy, ss, [aX], 0, 0⟩]
def haltC : CodeD := ⟨9, 0, 0, 0, ⟨0, 0⟩, ⟨0, 0⟩⟩
def pA : ProgD := ⟨2, [], [], [], []⟩
def pB : ProgD := ⟨2, [], [], [], loopI⟩
def pC : ProgD := ⟨2, [], [], [fn0], emptyI⟩
def pD : ProgD := ⟨2, [], [], [fnD], callI⟩
def pE : ProgD := ⟨2, [sc], [], [], ioI⟩
def pZ : ProgD := ⟨0, [], [], [], []⟩
def cB : List CodeD := [⟨1, 4, 0, 0, ⟨0, 0⟩, ⟨-1, 1⟩⟩, ⟨8, 0, 0, 0, ⟨0, 0⟩, ⟨0, 0⟩⟩, haltC]
def cC : List CodeD := [⟨0, 0, 0, 0, ⟨-1, 0⟩, ⟨0, 0⟩⟩, haltC]
def cD : List CodeD := [⟨0, 0, 1, 0, ⟨-1, 3⟩, ⟨0, 0⟩⟩, ⟨0, 0, 2, 0, ⟨-1, 0⟩, ⟨0, 0⟩⟩, ⟨1, 2, 2, 0, ⟨1, 0⟩, ⟨0, 0⟩⟩, ⟨0, 0, 0, 0, ⟨2, 0⟩, ⟨0, 0⟩⟩, ⟨7, 0, 0, 6, ⟨0, 0⟩, ⟨0, 0⟩⟩, ⟨0, 0, 0, 0, ⟨-1, 0⟩, ⟨0, 0⟩⟩, haltC]
def cE : List CodeD := [⟨4, 0, 0, 0, ⟨0, 0⟩, ⟨0, 0⟩⟩, ⟨5, 0, 0, 0, ⟨-1, 3⟩, ⟨0, 0⟩⟩, ⟨6, 0, 1, 0, ⟨0, 0⟩, ⟨0, 0⟩⟩, haltC]
theorem ckA : checkF pA = none := by rw [check_plain rfl]; kernel_rfl
theorem ckB : checkF pB = none := by rw [check_plain rfl]; kernel_rfl
theorem ckE : checkF pE = none := by rw [check_plain rfl]; kernel_rfl
theorem ckZ : checkF pZ = some ⟨0, 0, 3⟩ := by rw [check_plain rfl]; kernel_rfl
theorem loops_none {fs : List FuncD} (h : ∀ f ∈ fs, callsOf f.code = []) : loopsF fs = none := by
  unfold loopsF
  rw [firstF_none]
  intro p x r e
  unfold needF
  rw [if_pos]
  simp only [Bool.not_eq_true']
  unfold loopB
  rw [decide_eq_false_iff_not]
  have hn : ∀ b, ¬ Reach fs x.name b := by
    have h1 : ∀ a b, ¬ CallsN fs a b := by
      rintro a b ⟨f, hf, hb⟩
      rw [h f (List.mem_of_find?_eq_some hf)] at hb
      cases hb
    intro b hb
    cases hb with
    | one q => exact h1 _ _ q
    | more _ q => exact h1 _ _ q
  exact hn _
theorem ckC : checkF pC = none := by
  rw [check_split, loops_none (fs := pC.funcs) (by intro f hf; simp only [pC, List.mem_singleton] at hf; subst hf; rfl)]
  have : checkA pC = none := by kernel_rfl
  rw [this]; rfl
theorem ckD : checkF pD = none := by
  rw [check_split, loops_none (fs := pD.funcs) (by intro f hf; simp only [pD, List.mem_singleton] at hf; subst hf; rfl)]
  have : checkA pD = none := by kernel_rfl
  rw [this]; rfl
theorem flA : flatOf pA = (⟨2, 0, [], [], [], [haltC]⟩, 0) := by rw [flatOf_good ckA]; kernel_rfl
theorem flB : flatOf pB = (⟨2, 1, [], [], [], cB⟩, 0) := by rw [flatOf_good ckB]; kernel_rfl
theorem flC : flatOf pC = (⟨2, 1, [], [], [], cC⟩, 0) := by rw [flatOf_good ckC]; kernel_rfl
theorem flD : flatOf pD = (⟨2, 3, [], [], [], cD⟩, 0) := by rw [flatOf_good ckD]; kernel_rfl
theorem flE : flatOf pE = (⟨2, 2, [sc], [ss], [], cE⟩, 0) := by rw [flatOf_good ckE]; kernel_rfl
theorem flZ : flatOf pZ = (zeroFlat, 3) := flatOf_fault ckZ
theorem num25_any (n : Int) (w : World) : Calls Tryd.prog 48 #[.int .u64 n] w fun e w' => e = .returned (.agg #[.int .i64 (-1), .int .u64 n]) ∧ Below w.heap.size w w' := by
  have hn := Lib.hid (heap_alloc_new w (.cells #[.int .i64 0, .int .u64 0] 45))
  have hb := Lib.hid ((Below.refl w.heap.size w).alloc (Nat.le_refl _) (.cells #[.int .i64 0, .int .u64 0] 45))
  go_enter Tryd.func48, Tryd.ntmps48
  go_wp2_with (refine wpList_store_row rfl 45 (.tmp 2) (.tmp 4) rfl w.heap.size #[.int .i64 (-1), .int .u64 n] rfl rfl 45 #[.int .i64 0, .int .u64 0] ?hs (by as_aux_lemma => kernel_rfl) (by as_aux_lemma => kernel_rfl) (by as_aux_lemma => kernel_rfl) ?_; exact hn.out)
  refine bodyPost_ret (v := .agg #[.int .i64 (-1), .int .u64 n]) ?_ rfl ⟨rfl, below_row hb.out (Nat.le_refl _) _⟩
  exact results_cell_row (P := Tryd.prog) (fn := Tryd.f48) rfl _ _ w.heap.size 45 #[.int .i64 (-1), .int .u64 n] (0, 0) _ rfl (setRow_heap _ _ _ _ _ _ hn.out) Tryd.underlying45 rfl (by as_aux_lemma => kernel_rfl)
theorem reg25_any (n : Int) (w : World) : Calls Tryd.prog 47 #[.int .i64 n] w fun e w' => e = .returned (.agg #[.int .i64 n, .int .u64 0]) ∧ Below w.heap.size w w' := by
  have hn := Lib.hid (heap_alloc_new w (.cells #[.int .i64 0, .int .u64 0] 45))
  have hb := Lib.hid ((Below.refl w.heap.size w).alloc (Nat.le_refl _) (.cells #[.int .i64 0, .int .u64 0] 45))
  go_enter Tryd.func47, Tryd.ntmps47
  go_wp2_with (refine wpList_store_row rfl 45 (.tmp 2) (.tmp 4) rfl w.heap.size #[.int .i64 n, .int .u64 0] rfl rfl 45 #[.int .i64 0, .int .u64 0] ?hs (by as_aux_lemma => kernel_rfl) (by as_aux_lemma => kernel_rfl) (by as_aux_lemma => kernel_rfl) ?_; exact hn.out)
  refine bodyPost_ret (v := .agg #[.int .i64 n, .int .u64 0]) ?_ rfl ⟨rfl, below_row hb.out (Nat.le_refl _) _⟩
  exact results_cell_row (P := Tryd.prog) (fn := Tryd.f47) rfl _ _ w.heap.size 45 #[.int .i64 n, .int .u64 0] (0, 0) _ rfl (setRow_heap _ _ _ _ _ _ hn.out) Tryd.underlying45 rfl (by as_aux_lemma => kernel_rfl)
theorem eqL_selfF {α : Type} {f : α → α → Bool} (hf : ∀ x, f x x = true) : ∀ l : List α, eqL f l l = true
  | [] => rfl
  | x :: r => by rw [eqL, hf x, eqL_selfF hf r]; rfl
theorem eqCode_self : ∀ x : CodeD, eqCode x x = true := fun x => by unfold eqCode; simp
set_option maxRecDepth 100000 in
set_option maxHeartbeats 3200000 in
/-- **makes** is true where the program of the width 2 has that flat program. -/
theorem makes_any (p : ProgD) (cv av fv mv wv : Value) (F : FlatD) (w : World) (h : RdProg none w p cv av fv mv) (hL : Laid w) (hF : flatOf { p with width := 2 } = (F, 0)) (h2 : F.width = 2) (hr : RdRow kCode none w wv F.code) :
    Calls Tryd.prog 46 #[progV p cv av fv mv, .int .i64 F.regs, wv] w fun e w' => e = .returned (.bool true) ∧ Below w.heap.size w w' := by
  obtain ⟨ac, kc, rfl, -, -⟩ := id h.1
  obtain ⟨aa, ka, rfl, -, -⟩ := id h.2.1
  obtain ⟨af, kf, rfl, -, -⟩ := id h.2.2.1
  obtain ⟨am, km, rfl, -, -⟩ := id h.2.2.2.1
  have hb1 := (Below.refl w.heap.size w).alloc (Nat.le_refl _) (.cells #[.int .i64 2, .slice ac p.chans.length kc, .slice aa p.arrays.length ka, .slice af p.funcs.length kf, .slice am p.main.length km] 27)
  have hx1 := heap_alloc_new w (.cells #[.int .i64 2, .slice ac p.chans.length kc, .slice aa p.arrays.length ka, .slice af p.funcs.length kf, .slice am p.main.length km] 27)
  have HB := Lib.hid hb1
  have HX := Lib.hid hx1
  have H : Hid (RdProg none _ { p with width := 2 } _ _ _ _) := ⟨(h.keep hb1).1, (h.keep hb1).2.1, (h.keep hb1).2.2.1, (h.keep hb1).2.2.2.1, (by show InI64 2; exact ⟨by decide, by decide⟩)⟩
  have HL := Lib.hid (hL.keep hb1)
  have HR := Lib.hid (hr.keep hb1)
  have HF := Lib.hid hF
  have H2 := Lib.hid h2
  clear h hL hF h2 hr hb1 hx1
  go_enter Tryd.func46, Tryd.ntmps46
  go_upto_region 2 with fail
  generalize w.alloc (.cells #[.int .i64 2, .slice ac p.chans.length kc, .slice aa p.arrays.length ka, .slice af p.funcs.length kf, .slice am p.main.length km] 27) = W at *
  obtain ⟨pb, hpb⟩ : ∃ pb, w.heap.size = pb := ⟨_, rfl⟩
  rw [hpb] at HX
  rw [hpb]
  have c0 := row_of HX.out 0 (.int .i64 2) rfl
  have c1 := row_of HX.out 1 (.slice ac p.chans.length kc) rfl
  have c2 := row_of HX.out 2 (.slice aa p.arrays.length ka) rfl
  have c3 := row_of HX.out 3 (.slice af p.funcs.length kf) rfl
  have c4 := row_of HX.out 4 (.slice am p.main.length km) rfl
  have HOF : Hid (Calls Tryd.prog 11 #[.agg #[.int .i64 2, .slice ac p.chans.length kc, .slice aa p.arrays.length ka, .slice af p.funcs.length kf, .slice am p.main.length km]] W fun e w' => ∃ c1 k1 c2 k2 c3 k3 c4 k4, e = .returned (.tuple #[.agg #[.int .i64 2, .int .i64 F.regs, .slice c1 F.chans.length k1, .slice c2 F.sites.length k2, .slice c3 F.arrays.length k3, .slice c4 F.code.length k4], .int .i64 0]) ∧ RdRow kCode none w' (.slice c4 F.code.length k4) F.code ∧ Below W.heap.size W w') := by
    refine (flatOf_any _ _ _ _ _ W H.out HL.out).mono ?_
    rintro e w' ⟨c, s, a, k, rfl, hrd, hz⟩
    rw [HF.out] at hrd ⊢
    obtain ⟨c1, k1, rfl⟩ := hrd.1.is
    obtain ⟨c2, k2, rfl⟩ := hrd.2.1.is
    obtain ⟨c3, k3, rfl⟩ := hrd.2.2.1.is
    obtain ⟨c4, k4, rfl⟩ := hrd.2.2.2.1.is
    exact ⟨c1, k1, c2, k2, c3, k3, c4, k4, by rw [← H2.out], hrd.2.2.2.1.forget, hz⟩
  clear H HL HF H2 HX hpb
  obtain ⟨rg, hrg⟩ : ∃ rg, F.regs = rg := ⟨_, rfl⟩
  rw [hrg] at HOF
  rw [hrg]
  clear hrg
  go_upto_region 3 with (first | (go_at_call 11; refine HOF.out.mono ?_; rintro e z ⟨d1, k1, d2, k2, d3, k3, d4, k4, rfl, hrd, hz⟩; have HRD := Lib.hid hrd; have BZ := Lib.hid hz; have HN := Lib.hid (heap_alloc_new z (.cells #[.int .i64 0, .int .i64 0, .slice none 0 0, .slice none 0 0, .slice none 0 0, .slice none 0 0] 32)); clear hrd hz) | (refine wpList_store_row rfl 32 (.tmp 7) (.tmp 13) rfl z.heap.size #[.int .i64 2, .int .i64 rg, .slice d1 F.chans.length k1, .slice d2 F.sites.length k2, .slice d3 F.arrays.length k3, .slice d4 F.code.length k4] rfl rfl 32 #[.int .i64 0, .int .i64 0, .slice none 0 0, .slice none 0 0, .slice none 0 0, .slice none 0 0] ?hs0 (by as_aux_lemma => kernel_rfl) (by as_aux_lemma => kernel_rfl) (by as_aux_lemma => kernel_rfl) ?_; exact HN.out))
  have HG : Hid (_ = _) := setRow_heap (z.alloc (.cells #[.int .i64 0, .int .i64 0, .slice none 0 0, .slice none 0 0, .slice none 0 0, .slice none 0 0] 32)) z.heap.size _ #[.int .i64 2, .int .i64 rg, .slice d1 F.chans.length k1, .slice d2 F.sites.length k2, .slice d3 F.arrays.length k3, .slice d4 F.code.length k4] _ _ HN.out
  have hal : Below z.heap.size z ((z.alloc (.cells #[.int .i64 0, .int .i64 0, .slice none 0 0, .slice none 0 0, .slice none 0 0, .slice none 0 0] 32)).setRow z.heap.size #[.int .i64 2, .int .i64 rg, .slice d1 F.chans.length k1, .slice d2 F.sites.length k2, .slice d3 F.arrays.length k3, .slice d4 F.code.length k4]) := below_row ((Below.refl _ _).alloc (Nat.le_refl _) _) (Nat.le_refl _) _
  have HRD1 := Lib.hid (HRD.out.keep hal)
  have HR1 := Lib.hid ((HR.out.keep BZ.out).keep hal)
  have HB1 := Lib.hid (bcomp (bcomp HB.out BZ.out) hal)
  clear c0 c1 c2 c3 c4 HOF HRD HR HB BZ HN hal
  try simp only [Act.put]
  generalize (z.alloc (.cells #[.int .i64 0, .int .i64 0, .slice none 0 0, .slice none 0 0, .slice none 0 0, .slice none 0 0] 32)).setRow z.heap.size #[.int .i64 2, .int .i64 rg, .slice d1 F.chans.length k1, .slice d2 F.sites.length k2, .slice d3 F.arrays.length k3, .slice d4 F.code.length k4] = W3 at *
  generalize z.heap.size = xb at *
  have c0 := row_of HG.out 0 (.int .i64 2) rfl
  have c1 := row_of HG.out 1 (.int .i64 rg) rfl
  have c5 := row_of HG.out 5 (.slice d4 F.code.length k4) rfl
  have HEQ := Lib.hid (equalCode _ _ F.code F.code W3 HRD1.out HR1.out)
  rw [eqL_selfF eqCode_self] at HEQ
  have hrr : (rg == rg) = true := by simp
  clear HG HRD1 HR1
  go_wp2_with (go_at_call 42; refine HEQ.out.mono ?_; rintro e z9 ⟨rfl, hz⟩; have B9 := Lib.hid hz; clear hz)
  go_ret
  exact ⟨rfl, bcomp HB1.out B9.out⟩
end Go.Proofs.YtgcfdbhpophnjaaDoor
