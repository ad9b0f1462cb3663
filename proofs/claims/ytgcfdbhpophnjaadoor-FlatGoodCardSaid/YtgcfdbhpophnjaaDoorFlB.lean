/- What lies in memory while a body is made flat: the labels, the names of the jumps, the rows of jumps and returns; and what each step does to it. Contract of the search of a function by its name. No condition besides. -/
import Derived.Test.YtgcfdbhpophnjaaDoorFlA
import Derived.Laws.OwnMore
set_option linter.unusedVariables false
set_option linter.unusedSimpArgs false
set_option linter.unnecessarySimpa false
namespace Go.Proofs.YtgcfdbhpophnjaaDoor
open Go.Maps (Keyed string_keyed int_keyed)
open Go.WideShapes Go.ChangeMaps Go.MapKept Go.WideMaps Go.ChangeAt Go.RowKit Go.ChangeShapes
/-! ### labels -/
/-- Block b is a map of names to numbers that says at each name what L says, the newest first. -/
def LabIs (w : World) (b : Nat) (L : List (ByteArray × Int)) : Prop := ∃ M, IntsIs w b M ∧ M.Pairwise (fun p q => p.1 ≠ q.1) ∧ ∀ s, atL s M = atL s L
theorem LabIs.at {w w' : World} {b : Nat} {L : List (ByteArray × Int)} (h : LabIs w b L) (e : w'.heap[b]? = w.heap[b]?) : LabIs w' b L := by
  obtain ⟨M, h1, h2⟩ := h; exact ⟨M, h1.at e, h2⟩
theorem LabIs.lt {w : World} {b : Nat} {L : List (ByteArray × Int)} (h : LabIs w b L) : b < w.heap.size := by
  obtain ⟨M, h1, _⟩ := h; exact h1.lt
theorem LabIs.fresh {w : World} {b : Nat} (h : w.heap[b]? = some (.map #[] 0)) : LabIs w b [] := ⟨[], ints_none h, List.Pairwise.nil, fun _ => rfl⟩
theorem atL_mem {s : ByteArray} {M : List (ByteArray × Int)} (hd : M.Pairwise (fun p q => p.1 ≠ q.1)) {n : Int} (h : (s, n) ∈ M) : atL s M = some n := by
  induction M with
  | nil => cases h
  | cons p r ih =>
    obtain ⟨h1, h2⟩ := List.pairwise_cons.1 hd
    unfold atL
    rw [List.find?_cons]
    rcases List.mem_cons.1 h with rfl | h
    · simp
    · have : ¬ p.1 = s := fun e => h1 _ h e
      simp only [this, decide_false]
      have := ih h2 h
      unfold atL at this
      exact this
theorem atL_not {s : ByteArray} {M : List (ByteArray × Int)} (h : ∀ p ∈ M, p.1 ≠ s) : atL s M = none := by
  unfold atL
  rw [Option.map_eq_none_iff, List.find?_eq_none]
  intro p hp
  simpa using h p hp
theorem LabIs.look {P : Program} {k e t : TypeId} {w : World} {b : Nat} {L : List (ByteArray × Int)} (hk : P.underlying k = some .string) (ht : P.underlying t = some (.map k e)) (hz : (zeroValue e).run P w = .ok (.int .i64 0) w) (h : LabIs w b L) (s : ByteArray) (hs : s.size ≤ maxLen) :
    (Instr.lookup t (.map (some b)) (.string s) false).run P w = .ok (.int .i64 (lookL s L)) w := by
  obtain ⟨M, h1, h2, h3⟩ := h
  unfold lookL
  rw [← h3 s]
  rcases MapIs.lookup hk ht hz h1 s hs false with ⟨h4, h5⟩ | ⟨v, h4, h5⟩
  · rw [atL_not (fun p hp => h5 (p.1, .int .i64 p.2) (List.mem_map.2 ⟨p, hp, rfl⟩))]
    exact h4
  · obtain ⟨p, hp, he⟩ := List.mem_map.1 h5
    cases he
    rw [atL_mem h2 hp]
    exact h4
theorem LabIs.store {P : Program} {k e t : TypeId} {w : World} {b : Nat} {L : List (ByteArray × Int)} (hk : P.underlying k = some .string) (ht : P.underlying t = some (.map k e)) (h : LabIs w b L) (s : ByteArray) (hs : s.size ≤ maxLen) (n : Int) :
    ∃ w', (Instr.mapUpdate t (.map (some b)) (.string s) (.int .i64 n)).run P w = .ok () w' ∧ LabIs w' b ((s, n) :: L) ∧ w.grownBy w' (some b) ∧ w'.heap.size = w.heap.size := by
  obtain ⟨M, h1, h2, h3⟩ := h
  obtain ⟨w', L', r1, r2, r3, r4, r5⟩ := MapIs.store hk ht h1 s hs (.int .i64 n)
  refine ⟨w', r1, ?_, r3, r4⟩
  rcases r5 with ⟨r5, rfl⟩ | ⟨j, u, r5, rfl⟩
  · have hno : ∀ p ∈ M, p.1 ≠ s := fun p hp => r5 (p.1, .int .i64 p.2) (List.mem_map.2 ⟨p, hp, rfl⟩)
    refine ⟨M ++ [(s, n)], by unfold IntsIs; rw [List.map_append]; exact r2, List.pairwise_append.2 ⟨h2, List.pairwise_singleton _ _, fun a ha b hb => by rw [List.mem_singleton] at hb; subst hb; exact hno a ha⟩, fun t => ?_⟩
    by_cases e : s = t
    · subst e
      have h4 := atL_not hno
      unfold atL at h4 ⊢
      rw [Option.map_eq_none_iff] at h4
      rw [List.find?_append, h4]
      simp
    · have h4 := h3 t
      unfold atL at h4 ⊢
      rw [List.find?_append, List.find?_cons, List.find?_cons]
      simp only [e, decide_false, List.find?_nil, Option.or_none]
      exact h4
  · rw [List.getElem?_map] at r5
    cases hj : M[j]? with
    | none => rw [hj] at r5; cases r5
    | some p =>
      rw [hj] at r5
      simp only [Option.map_some, Option.some.injEq, Prod.mk.injEq] at r5
      obtain ⟨rfl, _⟩ := r5
      have hjl := (List.getElem?_eq_some_iff.1 hj).1
      have hk' : (M.set j (p.1, n)).map Prod.fst = M.map Prod.fst := by
        rw [List.map_set]
        apply List.ext_getElem?
        intro i
        rw [List.getElem?_set]
        by_cases hij : j = i
        · subst hij; simp [hjl, (List.getElem?_eq_some_iff.1 hj).2]
        · simp [hij]
      have hpw : (M.set j (p.1, n)).Pairwise (fun p q => p.1 ≠ q.1) := by
        have h5 : (M.map Prod.fst).Pairwise (· ≠ ·) := List.pairwise_map.2 h2
        rw [← hk'] at h5
        exact List.pairwise_map.1 h5
      refine ⟨M.set j (p.1, n), by unfold IntsIs; rw [List.map_set]; exact r2, hpw, fun t => ?_⟩
      by_cases e : p.1 = t
      · subst e
        rw [atL_mem hpw (n := n) (List.mem_iff_getElem?.2 ⟨j, by rw [List.getElem?_set]; simp [hjl]⟩)]
        unfold atL
        simp
      · have h6 : atL t ((p.1, n) :: L) = atL t L := by unfold atL; simp [e]
        rw [h6, ← h3 t]
        cases hm : atL t M with
        | none =>
          refine atL_not fun q hq => ?_
          rcases List.mem_or_eq_of_mem_set hq with hq | hq
          · intro e'
            have : atL t M = some q.2 := atL_mem h2 (by rw [← e']; exact hq)
            rw [hm] at this; cases this
          · subst hq; exact e
        | some v =>
          refine atL_mem hpw ?_
          unfold atL at hm
          obtain ⟨q, hq, hv⟩ := Option.map_eq_some_iff.1 hm
          have hqm := List.mem_of_find?_eq_some hq
          have hqt := List.find?_some hq
          simp only [decide_eq_true_eq] at hqt
          obtain ⟨i, hi⟩ := List.getElem?_of_mem hqm
          refine List.mem_iff_getElem?.2 ⟨i, ?_⟩
          rw [List.getElem?_set]
          by_cases hij : j = i
          · subst hij; rw [hj] at hi; cases hi; exact absurd hqt e
          · rw [if_neg hij, hi, ← hqt, ← hv]
/-! ### the names of the jumps -/
def namL (J : List (Nat × ByteArray)) : List (Value × Value) := J.map fun q => (.int .i64 (q.1 : Nat), .string q.2)
def NamIs (w : World) (b : Nat) (J : List (Nat × ByteArray)) : Prop := MapG Tryd.prog 3 w b (namL J)
theorem intKey (n : Nat) (h : n ≤ 9223372036854775807) : ∃ l, keyOf Tryd.prog 3 (.int .i64 (n : Nat)) = some l :=
  ⟨_, Maps.keyOf_int_mk Tryd.underlying3 (by simp [Lit.wf, IntKind.min, IntKind.max, IntKind.bits, IntKind.signed]; omega)⟩
theorem strZero (w : World) : (zeroValue 9).run Tryd.prog w = .ok (.string ⟨#[]⟩) w := by kernel_rfl
theorem NamIs.look {w : World} {b : Nat} {J : List (Nat × ByteArray)} (h : NamIs w b J) (hr : J.Pairwise (fun a b => a.1 < b.1)) {j k : Nat} {s : ByteArray} (hj : J[j]? = some (k, s)) (hk : k ≤ 9223372036854775807) :
    (Instr.lookup 121 (.map (some b)) (.int .i64 (k : Nat)) false).run Tryd.prog w = .ok (.string s) w := by
  obtain ⟨l, hl⟩ := intKey k hk
  rcases MapG.lookup (int_keyed Tryd.underlying3) Tryd.underlying121 (strZero w) h _ hl with ⟨h1, h2⟩ | ⟨v, h1, i, h2⟩
  · exact absurd rfl (h2 (.int .i64 (k : Nat), .string s) (List.mem_map.2 ⟨(k, s), List.mem_of_getElem? hj, rfl⟩))
  · unfold namL at h2
    rw [List.getElem?_map] at h2
    cases hi : J[i]? with
    | none => rw [hi] at h2; cases h2
    | some q =>
      rw [hi] at h2
      simp only [Option.map_some, Option.some.injEq, Prod.mk.injEq, Value.int.injEq, true_and] at h2
      obtain ⟨h3, rfl⟩ := h2
      have h4 : q.1 = k := by omega
      have hii := List.getElem?_eq_some_iff.1 hi
      have hjj := List.getElem?_eq_some_iff.1 hj
      have : i = j := by
        rcases Nat.lt_trichotomy i j with h' | h' | h'
        · have := List.pairwise_iff_getElem.1 hr i j hii.1 hjj.1 h'
          rw [hii.2, hjj.2] at this
          simp only at this
          omega
        · exact h'
        · have := List.pairwise_iff_getElem.1 hr j i hjj.1 hii.1 h'
          rw [hii.2, hjj.2] at this
          simp only at this
          omega
      subst this
      rw [hi] at hj
      cases hj
      exact h1
theorem NamIs.store {w : World} {b : Nat} {J : List (Nat × ByteArray)} (h : NamIs w b J) (k : Nat) (s : ByteArray) (hn : ∀ q ∈ J, q.1 < k) (hk : k ≤ 9223372036854775807) :
    ∃ w', (Instr.mapUpdate 121 (.map (some b)) (.int .i64 (k : Nat)) (.string s)).run Tryd.prog w = .ok () w' ∧ NamIs w' b (J ++ [(k, s)]) ∧ w.grownBy w' (some b) ∧ w'.heap.size = w.heap.size := by
  obtain ⟨l, hl⟩ := intKey k hk
  obtain ⟨w', h1, h2, h3, h4⟩ := MapG.store_new (int_keyed Tryd.underlying3) Tryd.underlying121 h _ hl (.string s) (fun p hp e => by
    obtain ⟨q, hq, rfl⟩ := List.mem_map.1 hp
    have := hn q hq
    simp only [Value.int.injEq, true_and] at e
    omega)
  exact ⟨w', h1, by unfold NamIs namL; rw [List.map_append]; exact h2, h3, h4⟩
/-! ### a body under way -/
structure BdS where
  m : MkS
  kv0 : Value
  w : World
  B0 : Nat
  mb : Nat
  fb : Nat
  lb : Nat
  nb : Nat
  f : Int
namespace BdS
abbrev jCells (J : List (Nat × ByteArray)) : List Value := J.flatMap fun q => [.int .i64 (q.1 : Nat)]
abbrev tCells (T : List Nat) : List Value := T.flatMap fun k => [.int .i64 (k : Nat)]
structure Ok (b : BdS) : Prop where
  mok : b.m.Ok
  sf : InI64 b.f
  l1 : b.w.heap.size ≤ b.mb ∧ b.mb < b.B0
  l2 : b.w.heap.size ≤ b.fb ∧ b.fb < b.B0
  l3 : b.w.heap.size ≤ b.lb ∧ b.lb < b.B0
  l4 : b.w.heap.size ≤ b.nb ∧ b.nb < b.B0
  ln : b.lb ≠ b.nb
  rl : b.m.rb < b.w.heap.size
  wl : b.m.w0.heap.size ≤ b.w.heap.size
/-- What lies in memory; N: the jumps whose names the map knows. -/
structure At (b : BdS) (kv jv tv : Value) (S : StF) (N : List (Nat × ByteArray)) (x : World) : Prop where
  mak : b.m.At kv S.C x
  grew : b.m.Grew b.kv0 kv b.w x
  mbx : x.heap[b.mb]? = some (.cells #[.pointer (some ⟨b.m.M, 0, none⟩)] 74 (0, 0))
  fbx : x.heap[b.fb]? = some (.cells #[.int .i64 b.f] 3 (0, 0))
  lab : LabIs x b.lb S.L
  nam : NamIs x b.nb N
  jo : x.ownsRow b.B0 3 1 jv S.J.length (jCells S.J)
  tor : x.ownsRow b.B0 3 1 tv S.T.length (tCells S.T)
  jt : ∀ k, jv.ownBlock = some k → tv.ownBlock ≠ some k
  size : b.B0 ≤ x.heap.size
/-- Where neither a box, a map nor a row of the body has turned. -/
theorem At.turn {b : BdS} {kv kv' jv tv : Value} {S : StF} {N : List (Nat × ByteArray)} {C : List CodeD} {x y : World} {T : Nat → Prop} (h : b.At kv jv tv S N x) (k : Turned T x y) (h1 : ¬ T b.mb) (h2 : ¬ T b.fb) (h3 : ¬ T b.lb) (h4 : ¬ T b.nb)
    (h5 : ∀ i, jv.ownBlock = some i → ¬ T i) (h6 : ∀ i, tv.ownBlock = some i → ¬ T i) (mk : b.m.At kv' C y) (gr : b.m.Grew b.kv0 kv' b.w y) : b.At kv' jv tv { S with C := C } N y :=
  ⟨mk, gr, (k.block _ (Array.getElem?_eq_some_iff.1 h.mbx).1 h1).trans h.mbx, (k.block _ (Array.getElem?_eq_some_iff.1 h.fbx).1 h2).trans h.fbx, h.lab.at (k.block _ h.lab.lt h3), MapG.at h.nam (k.block _ (MapG.lt h.nam) h4),
    own_turn h.jo k h5, own_turn h.tor k h6, h.jt, Nat.le_trans h.size k.size⟩
theorem At.keep {b : BdS} {kv jv tv : Value} {S : StF} {N : List (Nat × ByteArray)} {x y : World} (h : b.At kv jv tv S N x) (k : Below x.heap.size x y) : b.At kv jv tv S N y :=
  h.turn (T := fun _ => False) (C := S.C) (Turned.of_below k) id id id id (fun _ _ => id) (fun _ _ => id) (h.mak.keep k) (h.grew.trans (MkS.Grew.of_below k))
theorem lab_ne {x : World} {b g : Nat} {L : List (ByteArray × Int)} (h : LabIs x b L) {cs : Array Value} {T : TypeId} (hc : x.heap[g]? = some (.cells cs T (0, 0))) : b ≠ g := by
  obtain ⟨M, h1, _⟩ := h; exact map_ne_cells h1 hc
theorem nam_ne {x : World} {b g : Nat} {J : List (Nat × ByteArray)} (h : NamIs x b J) {cs : Array Value} {T : TypeId} (hc : x.heap[g]? = some (.cells cs T (0, 0))) : b ≠ g := by
  intro e
  obtain ⟨es, cl, h', _⟩ := h
  rw [e, hc] at h'; cases h'
theorem own_ne_lab {w : World} {base : Nat} {e : TypeId} {size : Nat} {v : Value} {n : Nat} {xs : List Value} (h : w.ownsRow base e size v n xs) {b : Nat} {L : List (ByteArray × Int)} (hm : LabIs w b L) : v.ownBlock ≠ some b := by
  obtain ⟨M, h1, _⟩ := hm; exact own_ne_map h h1
theorem own_ne_nam {w : World} {base : Nat} {e : TypeId} {size : Nat} {v : Value} {n : Nat} {xs : List Value} (h : w.ownsRow base e size v n xs) {b : Nat} {J : List (Nat × ByteArray)} (hm : NamIs w b J) : v.ownBlock ≠ some b := by
  intro hk
  obtain ⟨_, cur, hb⟩ := own_is h hk
  obtain ⟨es, cl, h', _⟩ := hm
  rw [hb] at h'; cases h'
/-- Behind a call that has made instructions. -/
theorem At.made {b : BdS} {kv kv' jv tv : Value} {S : StF} {N : List (Nat × ByteArray)} {C : List CodeD} {x y : World} (h : b.At kv jv tv S N x) (mk : b.m.At kv' C y) (gr : b.m.Grew kv kv' x y) : b.At kv' jv tv { S with C := C } N y := by
  refine h.turn gr.1 ?_ ?_ ?_ ?_ ?_ ?_ mk (h.grew.trans gr)
  · rintro (e | e)
    · have h1 := h.mbx; rw [e, h.mak.hm] at h1; simp at h1
    · exact own_ne_cells h.mak.own h.mbx (by decide) e
  · rintro (e | e)
    · have h1 := h.fbx; rw [e, h.mak.hm] at h1; simp at h1
    · exact own_ne_cells h.mak.own h.fbx (by decide) e
  · rintro (e | e)
    · exact lab_ne h.lab h.mak.hm e
    · exact own_ne_lab h.mak.own h.lab e
  · rintro (e | e)
    · exact nam_ne h.nam h.mak.hm e
    · exact own_ne_nam h.mak.own h.nam e
  · rintro i hi (e | e)
    · exact own_ne_cells h.jo h.mak.hm (by decide) (by rw [hi, e])
    · exact MkS.own_ne_own h.jo h.mak.own (by decide) hi e
  · rintro i hi (e | e)
    · exact own_ne_cells h.tor h.mak.hm (by decide) (by rw [hi, e])
    · exact MkS.own_ne_own h.tor h.mak.own (by decide) hi e
/-- Where a block of the body's own has turned: what the maker knows stays. -/
theorem At.mkTurn {b : BdS} (H : b.Ok) {kv jv tv : Value} {S : StF} {N : List (Nat × ByteArray)} {x y : World} {T : Nat → Prop} (h : b.At kv jv tv S N x) (k : Turned T x y) (hg : ∀ i, T i → b.w.heap.size ≤ i) (h1 : ¬ T b.m.M) (h2 : ∀ i, kv.ownBlock = some i → ¬ T i) (h4 : ∀ i, (Value.slice b.m.sa b.m.E.S.length b.m.sk).ownBlock = some i → ¬ T i) :
    b.m.At kv S.C y ∧ b.m.Grew b.kv0 kv b.w y :=
  ⟨⟨below_then h.mak.below k h.mak.below.size (fun i e => Nat.le_trans H.wl (hg i e)), (k.block _ h.mak.mlt h1).trans h.mak.hm, own_turn h.mak.own k h2, h.mak.ok, h.mak.regs.at (k.block _ (MapG.lt h.mak.regs) (fun e => by have := hg _ e; have := H.rl; omega)),
    own_turn h.mak.sites k h4, h.mak.sok, h.mak.slen, h.mak.lm⟩,
   ⟨h.grew.1.step k fun i hi e => by have := hg i e; omega, h.grew.2⟩⟩
theorem own_ge' {w : World} {base : Nat} {e : TypeId} {size : Nat} {v : Value} {n : Nat} {xs : List Value} (h : w.ownsRow base e size v n xs) {k : Nat} (hk : v.ownBlock = some k) : base ≤ k := (own_is h hk).1
/-- Behind 'labels[s] = n'. -/
theorem At.labelled {b : BdS} (H : b.Ok) {kv jv tv : Value} {S : StF} {N : List (Nat × ByteArray)} {L : List (ByteArray × Int)} {x y : World} (h : b.At kv jv tv S N x) (hl : LabIs y b.lb L) (g : x.grownBy y (some b.lb)) : b.At kv jv tv { S with L := L } N y := by
  have k : Turned (fun i => i = b.lb) x y := Turned.of_grown g fun c e => (Option.some.inj e).symm
  obtain ⟨mk, gr⟩ := h.mkTurn H k (fun i e => by rw [e]; exact H.l3.1) (fun e => lab_ne h.lab h.mak.hm e.symm) (fun i hi e => own_ne_lab h.mak.own h.lab (by rw [hi, e])) (fun i hi e => own_ne_lab h.mak.sites h.lab (by rw [hi, e]))
  exact ⟨mk, gr, (k.block _ (Array.getElem?_eq_some_iff.1 h.mbx).1 (fun e => lab_ne h.lab h.mbx e.symm)).trans h.mbx, (k.block _ (Array.getElem?_eq_some_iff.1 h.fbx).1 (fun e => lab_ne h.lab h.fbx e.symm)).trans h.fbx, hl, MapG.at h.nam (k.block _ (MapG.lt h.nam) (fun e => H.ln e.symm)),
    own_turn h.jo k (fun i hi e => own_ne_lab h.jo h.lab (by rw [hi, e])), own_turn h.tor k (fun i hi e => own_ne_lab h.tor h.lab (by rw [hi, e])), h.jt, Nat.le_trans h.size k.size⟩
/-- Behind 'names[k] = s'. -/
theorem At.named {b : BdS} (H : b.Ok) {kv jv tv : Value} {S : StF} {N N' : List (Nat × ByteArray)} {x y : World} (h : b.At kv jv tv S N x) (hl : NamIs y b.nb N') (g : x.grownBy y (some b.nb)) : b.At kv jv tv S N' y := by
  have k : Turned (fun i => i = b.nb) x y := Turned.of_grown g fun c e => (Option.some.inj e).symm
  obtain ⟨mk, gr⟩ := h.mkTurn H k (fun i e => by rw [e]; exact H.l4.1) (fun e => nam_ne h.nam h.mak.hm e.symm) (fun i hi e => own_ne_nam h.mak.own h.nam (by rw [hi, e])) (fun i hi e => own_ne_nam h.mak.sites h.nam (by rw [hi, e]))
  exact ⟨mk, gr, (k.block _ (Array.getElem?_eq_some_iff.1 h.mbx).1 (fun e => nam_ne h.nam h.mbx e.symm)).trans h.mbx, (k.block _ (Array.getElem?_eq_some_iff.1 h.fbx).1 (fun e => nam_ne h.nam h.fbx e.symm)).trans h.fbx, h.lab.at (k.block _ h.lab.lt H.ln), hl,
    own_turn h.jo k (fun i hi e => own_ne_nam h.jo h.nam (by rw [hi, e])), own_turn h.tor k (fun i hi e => own_ne_nam h.tor h.nam (by rw [hi, e])), h.jt, Nat.le_trans h.size k.size⟩
/-- Behind 'jumps = append(jumps, k)'. -/
theorem At.jumped {b : BdS} (H : b.Ok) {kv jv tv v' : Value} {S : StF} {N : List (Nat × ByteArray)} {x y : World} {q : Nat × ByteArray} (h : b.At kv jv tv S N x) (ho : y.ownsRow b.B0 3 1 v' (S.J.length + 1) (jCells S.J ++ [.int .i64 (q.1 : Nat)])) (g : x.grownBy y jv.ownBlock) (hb : v'.ownBlock = jv.ownBlock ∨ v'.ownBlock = some x.heap.size) :
    b.At kv v' tv { S with J := S.J ++ [q] } N y := by
  have k : Turned (fun i => jv.ownBlock = some i) x y := Turned.of_grown g fun c e => e
  have hge : ∀ i, jv.ownBlock = some i → b.B0 ≤ i := fun i hi => own_ge' h.jo hi
  have a1 := H.l1; have a2 := H.l2; have a3 := H.l3; have a4 := H.l4
  obtain ⟨mk, gr⟩ := h.mkTurn H k (fun i e => by have := hge i e; omega) (fun e => own_ne_cells h.jo h.mak.hm (by decide) e) (fun i hi e => MkS.own_ne_own h.jo h.mak.own (by decide) e hi) (fun i hi e => MkS.own_ne_own h.jo h.mak.sites (by decide) e hi)
  refine ⟨mk, gr, (k.block _ (Array.getElem?_eq_some_iff.1 h.mbx).1 (fun e => by have := hge _ e; omega)).trans h.mbx, (k.block _ (Array.getElem?_eq_some_iff.1 h.fbx).1 (fun e => by have := hge _ e; omega)).trans h.fbx, h.lab.at (k.block _ h.lab.lt (fun e => by have := hge _ e; omega)), MapG.at h.nam (k.block _ (MapG.lt h.nam) (fun e => by have := hge _ e; omega)), ?_, own_turn h.tor k (fun i hi e => h.jt i e hi), ?_, Nat.le_trans h.size k.size⟩
  · have e1 : jCells (S.J ++ [q]) = jCells S.J ++ [.int .i64 (q.1 : Nat)] := by unfold jCells; simp
    show y.ownsRow _ _ _ _ (S.J ++ [q]).length (jCells (S.J ++ [q]))
    rw [e1, List.length_append, List.length_singleton]; exact ho
  · intro i hi ht
    rcases hb with e | e
    · exact h.jt i (e.symm.trans hi) ht
    · have h1 : i = x.heap.size := Option.some.inj (hi.symm.trans e)
      obtain ⟨_, cur, hc⟩ := own_is h.tor ht
      have := (Array.getElem?_eq_some_iff.1 hc).1
      omega
/-- Behind 'rets = append(rets, k)'. -/
theorem At.returned {b : BdS} (H : b.Ok) {kv jv tv v' : Value} {S : StF} {N : List (Nat × ByteArray)} {x y : World} {q : Nat} (h : b.At kv jv tv S N x) (ho : y.ownsRow b.B0 3 1 v' (S.T.length + 1) (tCells S.T ++ [.int .i64 (q : Nat)])) (g : x.grownBy y tv.ownBlock) (hb : v'.ownBlock = tv.ownBlock ∨ v'.ownBlock = some x.heap.size) :
    b.At kv jv v' { S with T := S.T ++ [q] } N y := by
  have k : Turned (fun i => tv.ownBlock = some i) x y := Turned.of_grown g fun c e => e
  have hge : ∀ i, tv.ownBlock = some i → b.B0 ≤ i := fun i hi => own_ge' h.tor hi
  have a1 := H.l1; have a2 := H.l2; have a3 := H.l3; have a4 := H.l4
  obtain ⟨mk, gr⟩ := h.mkTurn H k (fun i e => by have := hge i e; omega) (fun e => own_ne_cells h.tor h.mak.hm (by decide) e) (fun i hi e => MkS.own_ne_own h.tor h.mak.own (by decide) e hi) (fun i hi e => MkS.own_ne_own h.tor h.mak.sites (by decide) e hi)
  refine ⟨mk, gr, (k.block _ (Array.getElem?_eq_some_iff.1 h.mbx).1 (fun e => by have := hge _ e; omega)).trans h.mbx, (k.block _ (Array.getElem?_eq_some_iff.1 h.fbx).1 (fun e => by have := hge _ e; omega)).trans h.fbx, h.lab.at (k.block _ h.lab.lt (fun e => by have := hge _ e; omega)), MapG.at h.nam (k.block _ (MapG.lt h.nam) (fun e => by have := hge _ e; omega)), own_turn h.jo k (fun i hi e => h.jt i hi e), ?_, ?_, Nat.le_trans h.size k.size⟩
  · have e1 : tCells (S.T ++ [q]) = tCells S.T ++ [.int .i64 (q : Nat)] := by unfold tCells; simp
    show y.ownsRow _ _ _ _ (S.T ++ [q]).length (tCells (S.T ++ [q]))
    rw [e1, List.length_append, List.length_singleton]; exact ho
  · intro i hi ht
    rcases hb with e | e
    · exact h.jt i hi (e.symm.trans ht)
    · have h1 : i = x.heap.size := Option.some.inj (ht.symm.trans e)
      obtain ⟨_, cur, hc⟩ := own_is h.jo hi
      have := (Array.getElem?_eq_some_iff.1 hc).1
      omega
end BdS
/-! ### a jump's number is written -/
theorem code_mid (A B : List CodeD) (x : CodeD) (n : Int) : ((A ++ x :: B).flatMap cellsCode).set (A.length * 8 + 3) (.int .i64 n) = (A ++ { x with n := n } :: B).flatMap cellsCode := by
  have hA : (A.flatMap cellsCode).length = A.length * 8 := flat_length cellsCode 8 (fun _ => rfl) A
  rw [List.flatMap_append, List.flatMap_append, List.flatMap_cons, List.flatMap_cons, List.set_append, if_neg (by omega), hA, show A.length * 8 + 3 - A.length * 8 = 3 by omega]
  rfl
theorem code_set {C : List CodeD} {k : Nat} (hk : k < C.length) (n : Int) : (C.flatMap cellsCode).set (k * 8 + 3) (.int .i64 n) = (EnvF.setN C k n).flatMap cellsCode := by
  have hP : C = C.take k ++ C[k] :: C.drop (k + 1) := by
    rw [← List.drop_eq_getElem_cons hk, List.take_append_drop]
  have hl : (C.take k).length = k := by rw [List.length_take]; omega
  have h2 : EnvF.setN C k n = C.take k ++ { C[k] with n := n } :: C.drop (k + 1) := by
    unfold EnvF.setN
    rw [List.modify_eq_take_cons_drop hk]
  rw [h2, ← code_mid (C.take k) (C.drop (k + 1)) C[k] n, hl, ← hP]
theorem MkS.At.patched {m : MkS} {C : List CodeD} {x : World} {g n c k : Nat} (h : m.At (.slice (some ⟨g, 0, none⟩) n c) C x) (hk : k < C.length) (v : Int) (hv : InI64 v) :
    m.At (.slice (some ⟨g, 0, none⟩) n c) (EnvF.setN C k v) (x.setCell ⟨g, k * 8 + 3, none⟩ (.int .i64 v)) ∧ m.Grew (.slice (some ⟨g, 0, none⟩) n c) (.slice (some ⟨g, 0, none⟩) n c) x (x.setCell ⟨g, k * 8 + 3, none⟩ (.int .i64 v)) := by
  have hn : n = C.length := by
    obtain ⟨_, ⟨e, _⟩ | ⟨g', cap, cur, e, _⟩⟩ := h.own
    · simp at e
    · simp only [Value.slice.injEq] at e; exact e.2.1
  subst hn
  have hst := World.ownsRow.stored h.own (k * 8 + 3) (.int .i64 v)
  have hT : Turned (fun i => i = g) x (x.setCell ⟨g, k * 8 + 3, none⟩ (.int .i64 v)) := setCell_turned x ⟨g, k * 8 + 3, none⟩ _
  have hgM : m.M ≠ g := fun e => own_ne_cells h.own h.hm (by decide) (by simp [Value.ownBlock, e])
  have hgr : m.rb ≠ g := fun e => MkS.own_ne_regs h.own h.regs (by simp [Value.ownBlock, e])
  refine ⟨⟨below_then h.below hT h.below.size (fun i e => by rw [e]; exact (own_is h.own (k := g) (by simp [Value.ownBlock])).1), (hT.block _ h.mlt hgM).trans h.hm, ?_, ?_, h.regs.at (hT.block _ (MapG.lt h.regs) hgr), own_turn h.sites hT (fun i hi e => MkS.own_ne_own h.own h.sites (by decide) (k := g) (by simp [Value.ownBlock]) (by rw [hi, e])), h.sok, h.slen, h.lm⟩, ?_, fun i hi => .inl hi⟩
  · rw [← code_set hk v, EnvF.setN_length]; exact hst.1
  · intro d hd
    unfold EnvF.setN at hd
    rw [List.modify_eq_take_cons_drop hk] at hd
    rcases List.mem_append.1 hd with hd | hd
    · exact h.ok d (List.mem_of_mem_take hd)
    · rcases List.mem_cons.1 hd with rfl | hd
      · obtain ⟨a1, a2, a3, a4, a5⟩ := h.ok C[k] (List.getElem_mem hk)
        exact ⟨a1, a2, a3, hv, a5⟩
      · exact h.ok d (List.mem_of_mem_drop hd)
  · exact hT.mono fun i e => .inr (by simp [Value.ownBlock, e])
/-! ### the maps, at the operations -/
section
variable {w : World} {ops : Array Oper} {rest : List Oper} {o : Oper} {a : Act} {Q : Exit → Act → World → Prop}
theorem wpList_lab_store {P : Program} (hg : o.guard = none) (m x v : Operand) (t : TypeId) (hop : o.op = Op.mapUpdate t m x v) (k e : TypeId) (hk : P.underlying k = some .string) (ht : P.underlying t = some (.map k e))
    (b : Nat) (L : List (ByteArray × Int)) (hm : a.eval m = .map (some b)) (s : ByteArray) (hx : a.eval x = .string s) (n : Int) (hv : a.eval v = .int .i64 n) (hs : s.size ≤ maxLen) (h : LabIs w b L)
    (hK : ∀ w', LabIs w' b ((s, n) :: L) → w.grownBy w' (some b) → wpList P ops Q rest (a.put o.dst undef) w') : wpList P ops Q (o :: rest) a w := by
  refine wpList_plain hg fun K' hK' => ?_
  obtain ⟨w', hrun, r1, r2, r3⟩ := h.store hk ht s hs n
  unfold Oper.wp
  simp [execOp, hop, hm, hx, hv, hrun, Result.andThen]
  exact hK' _ _ (hK w' r1 r2)
theorem wpList_nam_store (hg : o.guard = none) (m x v : Operand) (hop : o.op = Op.mapUpdate 121 m x v)
    (b : Nat) (J : List (Nat × ByteArray)) (hm : a.eval m = .map (some b)) (k : Nat) (hx : a.eval x = .int .i64 (k : Nat)) (s : ByteArray) (hv : a.eval v = .string s) (hn : ∀ q ∈ J, q.1 < k) (hk : k ≤ 9223372036854775807) (h : NamIs w b J)
    (hK : ∀ w', NamIs w' b (J ++ [(k, s)]) → w.grownBy w' (some b) → wpList Tryd.prog ops Q rest (a.put o.dst undef) w') : wpList Tryd.prog ops Q (o :: rest) a w := by
  refine wpList_plain hg fun K' hK' => ?_
  obtain ⟨w', hrun, r1, r2, r3⟩ := h.store k s hn hk
  unfold Oper.wp
  simp [execOp, hop, hm, hx, hv, hrun, Result.andThen]
  exact hK' _ _ (hK w' r1 r2)
end
/-! ### the function of a name -/
theorem fnames_at {l : List FuncD} {k : Nat} {x : FuncD} (h : l[k]? = some x) : (fNames l)[k]? = some x.name := by unfold fNames; rw [List.getElem?_map, h]; rfl
theorem fnames_len (l : List FuncD) : (fNames l).length = l.length := by unfold fNames; simp
set_option maxRecDepth 100000 in
theorem fnIs (x : FuncD) (pv cv : Value) (ib : Nat) (s : ByteArray) (w : World) (hc : w.cell? ⟨ib, 3, none⟩ = some (.string s)) (hpv : ∃ a n c, pv = .slice a n c) (hcv : ∃ a n c, cv = .slice a n c) :
    Calls Tryd.prog 96 #[funcV x pv cv, .pointer (some ⟨ib, 0, none⟩)] w fun e w' => e = .returned (.bool (s.toList == x.name.toList)) ∧ Below w.heap.size w w' := by
  obtain ⟨a1, n1, c1, rfl⟩ := hpv
  obtain ⟨a2, n2, c2, rfl⟩ := hcv
  have HV : Hid ((s.toList == x.name.toList) = (x.name.toList == s.toList)) := toList_comm _ _
  go_enter Tryd.func96, Tryd.ntmps96
  go_upto_region 1 with fail
  have hb0 : Below w.heap.size w (w.alloc (.cells #[.string x.name, .slice a1 n1 c1, .slice a2 n2 c2, .int .i64 x.line, .int .i64 x.col] 57)) := (Below.refl _ _).alloc (Nat.le_refl _) _
  have G0 := heap_alloc_new w (.cells #[.string x.name, .slice a1 n1 c1, .slice a2 n2 c2, .int .i64 x.line, .int .i64 x.col] 57)
  generalize w.alloc (.cells #[.string x.name, .slice a1 n1 c1, .slice a2 n2 c2, .int .i64 x.line, .int .i64 x.col] 57) = W1 at *
  have i0 := row_of G0 0 (.string x.name) rfl
  have hc1 := cell_keep hb0 hc
  have HB := Lib.hid hb0
  clear G0 hb0 hc
  go_wp2
  go_ret
  exact ⟨by rw [HV.out]; rfl, HB.out⟩
set_option maxRecDepth 100000 in
set_option maxHeartbeats 1600000 in
theorem fnIndex (fv : Value) (fs : List FuncD) (ib : Nat) (s : ByteArray) (w : World) (h : RdFuncs none w fv fs) (hc : w.cell? ⟨ib, 3, none⟩ = some (.string s)) :
    Calls Tryd.prog 95 #[fv, .func (.func 96) #[] #[.pointer (some ⟨ib, 0, none⟩)]] w fun e w' => e = .returned (.int .i64 (idxS s (fNames fs) 0)) ∧ Below w.heap.size w w' := by
  obtain ⟨a, cp, rfl, ⟨hl, _⟩, hr⟩ := id h
  have HR := Lib.hid hr
  have HS := Lib.hid hc
  have hal := fnames_len fs
  clear h hc hr
  go_enter Tryd.func95, Tryd.ntmps95
  go_wp2
  go_loopw [5, 8] (fun _ i wr => ∃ k : Nat, k ≤ fs.length ∧ i = .int .i64 k ∧ Hid (idxS s (fNames fs) 0 = idxS s ((fNames fs).drop k) k) ∧ Below w.heap.size w wr) (fun _ i _ => fs.length - (intOf i).toNat)
  case atStart => exact ⟨0, Nat.zero_le _, rfl, rfl, Below.refl _ _⟩
  case round =>
    obtain ⟨k, hk, rfl, HQ, hb⟩ := hrel
    obtain ⟨w1, rfl⟩ : ∃ x : World, x = wr := ⟨_, rfl⟩
    have HB := Lib.hid hb
    clear hb
    by_cases hlt : k < fs.length
    · have hlt1 : (k : Int) < fs.length := by omega
      obtain ⟨x, hx⟩ : ∃ x, fs[k]? = some x := ⟨_, List.getElem?_eq_getElem hlt⟩
      obtain ⟨b, o, pv2, cv2, rfl, _, c0, c1, c2, c3, c4, hf⟩ := HR.out k x hx
      obtain ⟨ap, kp, rfl, _⟩ := id hf.1
      obtain ⟨ac, kc, rfl, _⟩ := id hf.2.1
      have d0 := cell_keepB HB.out c0 (block_lt_of_cell c0)
      have d1 := cell_keepB HB.out c1 (block_lt_of_cell c1)
      have d2 := cell_keepB HB.out c2 (block_lt_of_cell c2)
      have d3 := cell_keepB HB.out c3 (block_lt_of_cell c3)
      have d4 := cell_keepB HB.out c4 (block_lt_of_cell c4)
      have hs := idxS_at (s := s) (l := fNames fs) (k := k) (x := x.name) (fnames_at hx)
      have HI := Lib.hid (fnIs x (.slice ap x.params.length kp) (.slice ac x.code.length kc) ib s w1 (cell_keep HB.out HS.out) ⟨_, _, _, rfl⟩ ⟨_, _, _, rfl⟩)
      clear hx c0 c1 c2 c3 c4 hal hf
      cases he : (s.toList == x.name.toList)
      · rw [he, if_neg (by simp)] at hs
        rw [he] at HI
        have HN := Lib.hid (HQ.out.trans hs)
        clear hs he
        go_wp2_with (go_at_call 96; refine HI.out.mono ?_; rintro e w' ⟨rfl, hz⟩; have B1 := Lib.hid (bcomp HB.out hz); clear hz)
        go_roundw
        case rel => exact ⟨k + 1, by omega, by go_num, HN, B1.out⟩
        case measure => simp [intOf]; omega
      · rw [he, if_pos rfl] at hs
        rw [he] at HI
        have HN := Lib.hid (HQ.out.trans hs)
        clear hs he
        go_wp2_with (go_at_call 96; refine HI.out.mono ?_; rintro e w' ⟨rfl, hz⟩; have B1 := Lib.hid (bcomp HB.out hz); clear hz)
        go_ret
        exact ⟨by rw [HN.out]; rfl, B1.out⟩
    · obtain rfl : k = fs.length := by omega
      have HN : Hid (idxS s (fNames fs) 0 = -1) := by
        show _ = _
        rw [HQ.out, ← hal, List.drop_length]; rfl
      have hlt1 : ¬ (fs.length : Int) < fs.length := by omega
      clear hal
      go_wp2
      go_ret
      exact ⟨by rw [HN.out]; rfl, HB.out⟩
end Go.Proofs.YtgcfdbhpophnjaaDoor
