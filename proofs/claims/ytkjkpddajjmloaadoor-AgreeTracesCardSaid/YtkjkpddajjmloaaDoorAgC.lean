/- Leaks as plain data: what rules.Levels, agree.Leaks and agree.Holds compute. No program. Plain laws of leaks: their order does not matter, nothing leaks with itself, inputs count as words, both modes. No program. -/
import Derived.Test.YtkjkpddajjmloaaDoorMMq
import Derived.Test.YtkjkpddajjmloaaDoorAgR
import Derived.Test.YtkjkpddajjmloaaDoorLMe
set_option linter.unusedVariables false
set_option linter.unusedSimpArgs false
set_option linter.unnecessarySimpa false
namespace Go.Proofs.YtkjkpddajjmloaaDoor
open Go.ChangeShapes Go.WideShapes Go.ChangeAt Go.RowKit
def rulesErr (f : FlatD) (q : PolD) : Int :=
  if flatE f ≠ 0 then flatE f else if polErr q ≠ 0 then polErr q else if (levelsOf q.chans f.chans).isNone then 6 else if (levelsOf q.sites f.sites).isNone then 6 else 0
def chansL (f : FlatD) (q : PolD) : List Int := (levelsOf q.chans f.chans).getD []
def sitesL (f : FlatD) (q : PolD) : List Int := (levelsOf q.sites f.sites).getD []
def inpAt (A : List (List Int)) (c k : Nat) : Int := (inAt A c k).getD 0
def lenAt (A : List (List Int)) (c : Nat) : Nat := (A.getD c []).length
def chanSame (A B : List (List Int)) (c : Nat) : Bool := allN (max (lenAt A c) (lenAt B c)) fun k => inpAt A c k == inpAt B c k
def inpErr (L : LatD) (level : Int) (levels : List Int) (A B : List (List Int)) : Int := if knownL L level levels = false ∨ levels.length < A.length ∨ levels.length < B.length then 3 else 0
def inpSame (L : LatD) (level : Int) (levels : List Int) (A B : List (List Int)) : Bool := allN levels.length fun c => !leL L (levels.getD c 0) level || chanSame A B c
def trimL (f : FlatD) (A : List (List Int)) : List (List Int) := A.map fun l => l.map fun x => x % 2 ^ f.width.toNat
def sideErr (f : FlatD) (q : PolD) : Int := if flatE f ≠ 0 ∨ polErr q ≠ 0 then 2 else rulesErr f q
def sideLat (q : PolD) : LatD := latOf q.levels.length q.order
def rangeBad (f : FlatD) (q : PolD) (level : Int) (A B : List (List Int)) : Prop := level < 0 ∨ (q.levels.length : Int) ≤ level ∨ f.chans.length < A.length ∨ f.chans.length < B.length
instance (f : FlatD) (q : PolD) (level : Int) (A B : List (List Int)) : Decidable (rangeBad f q level A B) := by unfold rangeBad; infer_instance
def leaksErr (f : FlatD) (q : PolD) (level : Int) (A B : List (List Int)) : Int := if sideErr f q ≠ 0 then sideErr f q else if rangeBad f q level A B then 3 else 0
/-- Whether inputs with these traces leak at a level. -/
def leaks1 (f : FlatD) (q : PolD) (level : Int) (A B : List (List Int)) (x y : TraceD) : Bool :=
  inpSame (sideLat q) level (chansL f q) (trimL f A) (trimL f B) && premB (sideLat q) level (sitesL f q) q.sens x y && !sameB (sideLat q) level (chansL f q) q.sens x y
def leaksB (f : FlatD) (q : PolD) (level : Int) (A B : List (List Int)) : Bool :=
  if leaksErr f q level A B ≠ 0 then false else leaks1 f q level A B (runT f A q.steps) (runT f B q.steps)
def longI (f : FlatD) (Ls : List (List (List Int))) : Bool := Ls.any fun A => decide (f.chans.length < A.length)
def holdsErr (f : FlatD) (q : PolD) (Ls : List (List (List Int))) : Int := if sideErr f q ≠ 0 then sideErr f q else if longI f Ls then 3 else 0
def holdsB (f : FlatD) (q : PolD) (Ls : List (List (List Int))) : Bool :=
  if holdsErr f q Ls ≠ 0 then false
  else allN Ls.length fun i => !(q.sens && (runT f (Ls.getD i []) q.steps).status == 2) && allN i fun k => allN q.levels.length fun level => !leaks1 f q level (Ls.getD k []) (Ls.getD i []) (runT f (Ls.getD k []) q.steps) (runT f (Ls.getD i []) q.steps)
open Go.ChangeShapes Go.WideShapes Go.ChangeAt Go.RowKit
theorem eqEv_comm (x y : EvD) : eqEv x y = eqEv y x := by unfold eqEv; rw [Bool.eq_iff_iff]; simp; constructor <;> rintro ⟨h, g⟩ <;> exact ⟨h.symm, g.symm⟩
theorem eqEv_self (x : EvD) : eqEv x x = true := by unfold eqEv; simp
theorem prefL_comm : ∀ a b : List EvD, prefL a b = prefL b a
  | [], b => by rw [prefL_nil]; cases b <;> rfl
  | x :: a, [] => rfl
  | x :: a, y :: b => by rw [prefL, prefL, prefL_comm a b, eqEv_comm]
theorem prefL_refl : ∀ a : List EvD, prefL a a = true
  | [] => rfl
  | x :: a => by rw [prefL, prefL_refl a, eqEv_self]; rfl
theorem alikeE_comm (p : Bool) (a b : List EvD) : alikeE p a b = alikeE p b a := by
  unfold alikeE
  split
  · exact prefL_comm a b
  · rw [← prefL_eq, ← prefL_eq, prefL_comm a b]
    congr 1
    rw [Bool.eq_iff_iff]; simp; exact eq_comm
theorem alikeE_refl (p : Bool) (a : List EvD) : alikeE p a a = true := by
  unfold alikeE
  split
  · exact prefL_refl a
  · rw [← prefL_eq, prefL_refl]; simp
theorem fuelT_comm (x y : TraceD) : fuelT x y = fuelT y x := by unfold fuelT; rw [Bool.or_comm]
theorem partT_comm (s : Bool) (x y : TraceD) : partT s x y = partT s y x := by unfold partT; rw [fuelT_comm]
theorem evsErr_cases (L : LatD) (lv : Int) (ls : List Int) (a : List EvD) : evsErr L lv ls a = 0 ∨ evsErr L lv ls a = 3 := by
  unfold evsErr; repeat' split
  all_goals simp
theorem viewsErr_comm (L : LatD) (lv : Int) (ls : List Int) (a b : List EvD) : viewsErr L lv ls a b = viewsErr L lv ls b a := by
  unfold viewsErr
  rcases evsErr_cases L lv ls a with h | h <;> rcases evsErr_cases L lv ls b with g | g <;> simp [h, g]
theorem premB_comm (L : LatD) (lv : Int) (ls : List Int) (s : Bool) (x y : TraceD) : premB L lv ls s x y = premB L lv ls s y x := by
  unfold premB; rw [viewsErr_comm, alikeE_comm, partT_comm]
theorem sameB_comm (L : LatD) (lv : Int) (ls : List Int) (s : Bool) (x y : TraceD) : sameB L lv ls s x y = sameB L lv ls s y x := by
  unfold sameB; rw [viewsErr_comm, alikeE_comm, partT_comm]
  have : (x.status == y.status) = (y.status == x.status) := by rw [Bool.eq_iff_iff]; simp; exact eq_comm
  rw [this]
theorem sameB_refl (L : LatD) (lv : Int) (ls : List Int) (s : Bool) (x : TraceD) (h : evsErr L lv ls x.outs = 0) : sameB L lv ls s x x = true := by
  unfold sameB viewsErr
  rw [if_neg (by simp [h]), alikeE_refl]
  simp
/-- Inputs are the same for a channel if each input is. -/
theorem inpAt_len {A : List (List Int)} {c k : Nat} (h : lenAt A c ≤ k) : inpAt A c k = 0 := by
  unfold inpAt inAt lenAt at *
  rw [List.getD_eq_getElem?_getD] at h
  cases hc : A[c]? with
  | none => rfl
  | some l =>
    rw [hc] at h
    simp only [Option.bind_some, Option.getD_some] at h ⊢
    rw [List.getElem?_eq_none h]; rfl
theorem chanSame_iff (A B : List (List Int)) (c : Nat) : chanSame A B c = true ↔ ∀ k, inpAt A c k = inpAt B c k := by
  unfold chanSame
  rw [allN_iff]
  constructor
  · intro h k
    by_cases hk : k < max (lenAt A c) (lenAt B c)
    · simpa using h k hk
    · rw [inpAt_len (by omega), inpAt_len (by omega)]
  · intro h k _
    simp [h k]
theorem chanSame_comm (A B : List (List Int)) (c : Nat) : chanSame A B c = chanSame B A c := by
  rw [Bool.eq_iff_iff, chanSame_iff, chanSame_iff]
  exact ⟨fun h k => (h k).symm, fun h k => (h k).symm⟩
theorem chanSame_congr {A A' : List (List Int)} (h : ∀ c k, inpAt A c k = inpAt A' c k) (B : List (List Int)) (c : Nat) : chanSame A B c = chanSame A' B c := by
  rw [Bool.eq_iff_iff, chanSame_iff, chanSame_iff]
  exact ⟨fun g k => (h c k).symm.trans (g k), fun g k => (h c k).trans (g k)⟩
theorem inpSame_comm (L : LatD) (lv : Int) (ls : List Int) (A B : List (List Int)) : inpSame L lv ls A B = inpSame L lv ls B A := by
  unfold inpSame
  congr 1
  funext c
  rw [chanSame_comm]
theorem inpSame_congr {A A' : List (List Int)} (h : ∀ c k, inpAt A c k = inpAt A' c k) (L : LatD) (lv : Int) (ls : List Int) (B : List (List Int)) : inpSame L lv ls A B = inpSame L lv ls A' B := by
  unfold inpSame
  congr 1
  funext c
  rw [chanSame_congr h]
theorem leaksErr_comm (f : FlatD) (q : PolD) (lv : Int) (A B : List (List Int)) : leaksErr f q lv A B = leaksErr f q lv B A := by
  have : rangeBad f q lv A B ↔ rangeBad f q lv B A := by unfold rangeBad; constructor <;> (intro h; omega)
  unfold leaksErr
  simp only [this]
theorem leaks1_comm (f : FlatD) (q : PolD) (lv : Int) (A B : List (List Int)) (x y : TraceD) : leaks1 f q lv A B x y = leaks1 f q lv B A y x := by
  unfold leaks1; rw [inpSame_comm, premB_comm, sameB_comm]
/-- The order of both lists of inputs does not matter. -/
theorem leaksB_comm (f : FlatD) (q : PolD) (lv : Int) (A B : List (List Int)) : leaksB f q lv A B = leaksB f q lv B A := by
  unfold leaksB; rw [leaksErr_comm, leaks1_comm]
/-- An input as a word. -/
theorem word_trim (f : FlatD) (A : List (List Int)) (c k : Nat) : inpAt (trimL f A) c k = wordAt f A c k := by
  unfold inpAt trimL wordAt inAt
  rw [List.getElem?_map]
  cases hc : A[c]? with
  | none => rfl
  | some l =>
    simp only [Option.map_some, Option.bind_some, List.getElem?_map]
    cases hx : l[k]? <;> rfl
theorem inpAt_over {A : List (List Int)} {c : Nat} (h : A.length ≤ c) (k : Nat) : inpAt A c k = 0 := by
  unfold inpAt inAt; rw [List.getElem?_eq_none h]; rfl
/-- Runs whose inputs are the same words are the same. -/
theorem runT_words {f : FlatD} (hok : flatOk f = true) {A B : List (List Int)} (hA : A.length ≤ f.chans.length) (hB : B.length ≤ f.chans.length) (h : ∀ c k, wordAt f A c k = wordAt f B c k) (s : Int) : runT f A s = runT f B s := by
  have e : errRun f A.length s = errRun f B.length s := by
    unfold errRun errNew
    split
    · rfl
    · try simp only [hok, if_true]
      rw [if_neg (by omega), if_neg (by omega)]
  unfold runT
  rw [e]
  split
  · unfold runM
    rw [← iterM_pad, ← iterM_pad]
    have hh := headP hok
    rw [iterM_words _ _ (fun c hc hk => ?_) (fun n => ?_) (fun n q _ => h n q)]
    · have hp := codeP (hh.codes c hc)
      have h1 := hp.n1
      rw [hk] at h1
      have : mostF f 4 = f.chans.length := rfl
      have h0 := hp.n0
      simp only [newM, List.length_replicate]
      exact ⟨h0, by omega⟩
    · unfold readsAt newM
      rw [List.getD_eq_getElem?_getD, List.getElem?_replicate]
      split <;> simp
  · rfl
/-- Inputs count as words. -/
theorem leaksB_words {f : FlatD} {q : PolD} {lv : Int} {A A' B : List (List Int)} (hok : flatOk f = true) (hl : A'.length = A.length) (h : ∀ c k, wordAt f A c k = wordAt f A' c k) :
    leaksB f q lv A B = leaksB f q lv A' B ∧ leaksErr f q lv A B = leaksErr f q lv A' B := by
  have he : leaksErr f q lv A B = leaksErr f q lv A' B := by
    have : rangeBad f q lv A B ↔ rangeBad f q lv A' B := by unfold rangeBad; rw [hl]
    unfold leaksErr; simp only [this]
  refine ⟨?_, he⟩
  unfold leaksB
  rw [← he]
  by_cases h0 : leaksErr f q lv A B = 0
  · have hr : ¬ rangeBad f q lv A B := by
      intro hb
      unfold leaksErr at h0
      split at h0
      · contradiction
      · first | (rw [if_pos hb] at h0; cases h0) | cases h0
    unfold rangeBad at hr
    rw [if_neg (by simp [h0]), if_neg (by simp [h0])]
    unfold leaks1
    rw [runT_words hok (by omega) (by omega) h, inpSame_congr (A' := trimL f A') (fun c k => by rw [word_trim, word_trim]; exact h c k)]
  · rw [if_pos h0, if_pos h0]
/-- Levels of names are levels of the policy. -/
theorem bindsAt_in (n : Int) : ∀ (l : List BindD) (had : List ByteArray), bindsAt n had l = 0 → ∀ b ∈ l, 0 ≤ b.level ∧ b.level < n
  | [], _, _, b, hb => by simp at hb
  | x :: l, had, h, b, hb => by
    rw [bindsAt] at h
    split at h
    · cases h
    split at h
    · cases h
    split at h
    · cases h
    rcases List.mem_cons.1 hb with rfl | hb
    · omega
    · exact bindsAt_in n l _ h b hb
theorem bindsErr_in {n : Int} {l : List BindD} (h : bindsErr n l = 0) : ∀ b ∈ l, 0 ≤ b.level ∧ b.level < n := by
  unfold bindsErr at h
  split at h
  · cases h
  · exact bindsAt_in n l _ h
theorem levelOf_in {n : Int} : ∀ {l : List BindD} {s : ByteArray} {x : Int}, (∀ b ∈ l, 0 ≤ b.level ∧ b.level < n) → levelOf l s = some x → 0 ≤ x ∧ x < n
  | [], _, _, _, h => by cases h
  | b :: l, s, x, hb, h => by
    rw [levelOf] at h
    split at h
    · simp only [Option.some.injEq] at h; subst h; exact hb b (by simp)
    · exact levelOf_in (fun c hc => hb c (by simp [hc])) h
theorem levelsOf_in {n : Int} {l : List BindD} (hb : ∀ b ∈ l, 0 ≤ b.level ∧ b.level < n) : ∀ {ns : List ByteArray} {r : List Int}, levelsOf l ns = some r → r.length = ns.length ∧ ∀ x ∈ r, 0 ≤ x ∧ x < n
  | [], r, h => by simp only [levelsOf, Option.some.injEq] at h; subst h; simp
  | s :: ns, r, h => by
    rw [levelsOf] at h
    split at h
    · cases h
    · next x hx =>
      cases hr : levelsOf l ns with
      | none => rw [hr] at h; cases h
      | some r' =>
        rw [hr] at h
        simp only [Option.map_some, Option.some.injEq] at h
        subst h
        obtain ⟨h1, h2⟩ := levelsOf_in hb hr
        refine ⟨by simp [h1], fun y hy => ?_⟩
        rcases List.mem_cons.1 hy with rfl | hy
        · exact levelOf_in hb hx
        · exact h2 y hy
/-- What the sides of a flat program and a policy are, where there is no error. -/
structure SideP (f : FlatD) (q : PolD) : Prop where
  ok : flatOk f = true
  pol : polErr q = 0
  lv1 : 1 ≤ q.levels.length
  lv2 : q.levels.length ≤ 32
  lat : latErr q.levels.length q.order = 0
  ch : levelsOf q.chans f.chans = some (chansL f q)
  st : levelsOf q.sites f.sites = some (sitesL f q)
  cl : (chansL f q).length = f.chans.length
  sl : (sitesL f q).length = f.sites.length
  ci : ∀ x ∈ chansL f q, 0 ≤ x ∧ x < q.levels.length
  si : ∀ x ∈ sitesL f q, 0 ≤ x ∧ x < q.levels.length
  s1 : 1 ≤ q.steps
  s2 : q.steps ≤ 65536
theorem sideP {f : FlatD} {q : PolD} (h : sideErr f q = 0) : SideP f q := by
  unfold sideErr at h
  split at h
  · cases h
  next hn =>
  have h1 : flatE f = 0 := by omega
  have h2 : polErr q = 0 := by omega
  have hok : flatOk f = true := by
    unfold flatE at h1
    split at h1
    · assumption
    · cases h1
  unfold rulesErr at h
  rw [if_neg (by simp [h1]), if_neg (by simp [h2])] at h
  split at h
  · cases h
  next hc =>
  split at h
  · cases h
  next hs =>
  have hp := h2
  unfold polErr at hp
  split at hp
  · cases hp
  split at hp
  · cases hp
  split at hp
  · contradiction
  split at hp
  · contradiction
  next hl =>
  split at hp
  · contradiction
  next hbc =>
  split at hp
  · contradiction
  next hbs =>
  unfold limErr at hp
  split at hp
  · cases hp
  next hlim =>
  obtain ⟨rc, hrc⟩ : ∃ r, levelsOf q.chans f.chans = some r := by
    cases e : levelsOf q.chans f.chans with
    | none => rw [e] at hc; exact absurd rfl hc
    | some r => exact ⟨r, rfl⟩
  obtain ⟨rs, hrs⟩ : ∃ r, levelsOf q.sites f.sites = some r := by
    cases e : levelsOf q.sites f.sites with
    | none => rw [e] at hs; exact absurd rfl hs
    | some r => exact ⟨r, rfl⟩
  have ec : chansL f q = rc := by unfold chansL; rw [hrc]; rfl
  have es : sitesL f q = rs := by unfold sitesL; rw [hrs]; rfl
  have gc := levelsOf_in (bindsErr_in (n := (q.levels.length : Int)) (by omega)) hrc
  have gs := levelsOf_in (bindsErr_in (n := (q.levels.length : Int)) (by omega)) hrs
  exact ⟨hok, h2, by omega, by omega, by omega, by rw [hrc, ec], by rw [hrs, es], by rw [ec]; exact gc.1, by rw [es]; exact gs.1, by rw [ec]; exact gc.2, by rw [es]; exact gs.2, by omega, by omega⟩
theorem known_side {q : PolD} {lv : Int} {ls : List Int} (h0 : 0 ≤ lv) (h1 : lv < q.levels.length) (h : ∀ x ∈ ls, 0 ≤ x ∧ x < q.levels.length) : knownL (sideLat q) lv ls = true := by
  have e : ((sideLat q).n : Int) = q.levels.length := by unfold sideLat latOf; simp
  unfold knownL isL
  rw [e]
  simp only [Bool.and_eq_true, decide_eq_true_eq, List.all_eq_true]
  exact ⟨⟨h0, h1⟩, h⟩
/-- The views of a run have no error. -/
theorem evs_side {q : PolD} {lv : Int} {ls : List Int} {l : List EvD} (hk : knownL (sideLat q) lv ls = true) (h : ∀ e ∈ l, 0 ≤ e.n ∧ e.n < ls.length) : evsErr (sideLat q) lv ls l = 0 := by
  unfold evsErr
  rw [if_neg (by simp [hk]), if_neg]
  simp only [List.any_eq_true, not_exists, not_and]
  intro e he hb
  have := h e he
  unfold badEv at hb
  simp only [Bool.or_eq_true, decide_eq_true_eq] at hb
  omega
theorem run_events {f : FlatD} (hok : flatOk f = true) (hci : ∀ c ∈ f.code, CodeIn c) (A : List (List Int)) (s : Int) :
    (∀ e ∈ (runT f A s).outs, 0 ≤ e.n ∧ e.n < f.chans.length) ∧ (∀ e ∈ (runT f A s).rels, 0 ≤ e.n ∧ e.n < f.sites.length) := by
  unfold runT
  split
  · have g := small_run (ins := insM f A) (headP hok) hci s.toNat
    exact ⟨fun e he => (g.os e he).2, fun e he => (g.rs e he).2⟩
  · exact ⟨fun e he => by simp [zeroT] at he, fun e he => by simp [zeroT] at he⟩
/-- Nothing leaks with itself. -/
theorem leaksB_self {f : FlatD} {q : PolD} (hci : ∀ c ∈ f.code, CodeIn c) (lv : Int) (A : List (List Int)) : leaksB f q lv A A = false := by
  unfold leaksB
  split
  · rfl
  next h =>
  have h0 : leaksErr f q lv A A = 0 := by omega
  unfold leaksErr at h0
  split at h0
  · contradiction
  next hs =>
  split at h0
  · cases h0
  next hr =>
  have hp := sideP (f := f) (q := q) (by omega)
  unfold rangeBad at hr
  have hk := known_side (ls := chansL f q) (show 0 ≤ lv by omega) (show lv < q.levels.length by omega) hp.ci
  unfold leaks1
  rw [sameB_refl _ _ _ _ _ (evs_side hk (fun e he => by have := (run_events hp.ok hci A q.steps).1 e he; have := hp.cl; omega))]
  simp
/-- The mode does not count where neither run has no fuel left. -/
theorem leaksErr_sens (f : FlatD) (q : PolD) (b : Bool) (lv : Int) (A B : List (List Int)) : leaksErr f { q with sens := b } lv A B = leaksErr f q lv A B := rfl
theorem leaks1_sens {f : FlatD} {q : PolD} {s t : Bool} {lv : Int} {A B : List (List Int)} {x y : TraceD} (h : partT s x y = partT t x y) : leaks1 f { q with sens := s } lv A B x y = leaks1 f { q with sens := t } lv A B x y := by
  have h1 : premB (sideLat q) lv (sitesL f q) s x y = premB (sideLat q) lv (sitesL f q) t x y := by unfold premB; rw [h]
  have h2 : sameB (sideLat q) lv (chansL f q) s x y = sameB (sideLat q) lv (chansL f q) t x y := by unfold sameB; rw [h]
  show (inpSame (sideLat q) lv (chansL f q) (trimL f A) (trimL f B) && premB (sideLat q) lv (sitesL f q) s x y && !sameB (sideLat q) lv (chansL f q) s x y) = (inpSame (sideLat q) lv (chansL f q) (trimL f A) (trimL f B) && premB (sideLat q) lv (sitesL f q) t x y && !sameB (sideLat q) lv (chansL f q) t x y)
  rw [h1, h2]
theorem leaksB_modes {f : FlatD} {q : PolD} {lv : Int} {A B : List (List Int)} (hA : (runT f A q.steps).status ≠ 2) (hB : (runT f B q.steps).status ≠ 2) :
    leaksB f { q with sens := true } lv A B = leaksB f { q with sens := false } lv A B := by
  have hp : partT true (runT f A q.steps) (runT f B q.steps) = partT false (runT f A q.steps) (runT f B q.steps) := by unfold partT fuelT; simp [hA, hB]
  unfold leaksB
  by_cases h0 : leaksErr f q lv A B = 0
  · exact (if_neg (fun h => h h0)).trans ((leaks1_sens hp).trans (if_neg (fun h => h h0)).symm)
  · exact (if_pos h0).trans (if_pos h0).symm
theorem holdsB_one {f : FlatD} {q : PolD} {A : List (List Int)} (h : holdsErr f q [A] = 0) : holdsB f q [A] = !(q.sens && (runT f A q.steps).status == 2) := by
  unfold holdsB
  rw [if_neg (by simp [h])]
  simp [allN]
/-- A level that sees everything. -/
theorem leaksB_open {f : FlatD} {q : PolD} (hci : ∀ c ∈ f.code, CodeIn c) (h1 : q.levels.length = 1) (lv : Int) (A B : List (List Int)) : leaksB f q lv A B = false := by
  unfold leaksB
  split
  · rfl
  next h =>
  have h0 : leaksErr f q lv A B = 0 := by omega
  unfold leaksErr at h0
  split at h0
  · contradiction
  next hs =>
  split at h0
  · cases h0
  next hr =>
  have hp := sideP (f := f) (q := q) (by omega)
  unfold rangeBad at hr
  obtain rfl : lv = 0 := by omega
  unfold leaks1
  by_cases hi : inpSame (sideLat q) 0 (chansL f q) (trimL f A) (trimL f B) = true
  · have hw : ∀ c k, wordAt f A c k = wordAt f B c k := by
      intro c k
      by_cases hc : c < f.chans.length
      · unfold inpSame at hi
        rw [allN_iff] at hi
        have := hi c (by rw [hp.cl]; exact hc)
        have hx : (chansL f q).getD c 0 = 0 := by
          have hl := hp.cl
          rw [List.getD_eq_getElem?_getD, List.getElem?_eq_getElem (by omega)]
          have := hp.ci _ (List.getElem_mem (show c < (chansL f q).length by omega))
          simp only [Option.getD_some]
          omega
        have hle : leL (sideLat q) 0 0 = true := by
          have e : ((sideLat q).n : Int) = q.levels.length := by unfold sideLat latOf; simp
          unfold leL isL
          rw [e, h1]
          have : (sideLat q).M (0 : Int).toNat (0 : Int).toNat = true := by unfold sideLat latOf; exact latM_refl _ _ _
          rw [this]; rfl
        rw [hx, hle] at this
        simp only [Bool.not_true, Bool.false_or] at this
        have := (chanSame_iff _ _ _).1 this k
        rwa [word_trim, word_trim] at this
      · rw [← word_trim, ← word_trim, inpAt_over (by unfold trimL; simp; omega), inpAt_over (by unfold trimL; simp; omega)]
    rw [runT_words hp.ok (by omega) (by omega) hw]
    have hk := known_side (ls := chansL f q) (show (0 : Int) ≤ 0 by omega) (show (0 : Int) < q.levels.length by omega) hp.ci
    rw [sameB_refl _ _ _ _ _ (evs_side hk (fun e he => by have := (run_events hp.ok hci B q.steps).1 e he; have := hp.cl; omega))]
    simp
  · simp [hi]
end Go.Proofs.YtkjkpddajjmloaaDoor
