/- Renaming a variable of main into a fresh name: the check and the list of variables. Plain. -/
import Derived.Test.YteeebofjlchndaaDoorLoc
set_option linter.unusedVariables false
set_option linter.unusedSimpArgs false
set_option linter.unnecessarySimpa false
namespace Go.Proofs.YteeebofjlchndaaDoor
/-- The name o becomes F. -/
def renS (o F s : ByteArray) : ByteArray := if s = o then F else s
def renA (o F : ByteArray) (a : ArgD) : ArgD := { a with name := renS o F a.name }
def renI (o F : ByteArray) (x : InstrD) : InstrD := { x with dst := renS o F x.dst, args := x.args.map (renA o F) }
section
variable {o F : ByteArray}
theorem renS_self : renS o F o = F := by unfold renS; rw [if_pos rfl]
theorem renS_other {s : ByteArray} (h : ¬ s = o) : renS o F s = s := by unfold renS; rw [if_neg h]
theorem named_nonempty {s : ByteArray} (h : named s = true) : s.toList.isEmpty = false := by
  cases he : s.toList.isEmpty
  · rfl
  · rw [named_empty he] at h; cases h
theorem ren_named (ho : named o = true) (hF : named F = true) (s : ByteArray) : named (renS o F s) = named s := by
  by_cases h : s = o
  · subst h; rw [renS_self, ho, hF]
  · rw [renS_other h]
theorem ren_empty (ho : named o = true) (hF : named F = true) (s : ByteArray) : (renS o F s).toList.isEmpty = s.toList.isEmpty := by
  by_cases h : s = o
  · subst h; rw [renS_self, named_nonempty ho, named_nonempty hF]
  · rw [renS_other h]
theorem ren_form (ho : named o = true) (hF : named F = true) (x : InstrD) : formB (renI o F x) = formB x := by
  have h1 : ∀ d, fieldB d (renS o F x.dst) = fieldB d x.dst := fun d => by unfold fieldB; rw [ren_named ho hF, ren_empty ho hF]
  have h2 : ∀ l : List ArgD, (l.map (renA o F)).all argB = l.all argB := by
    intro l
    induction l with
    | nil => rfl
    | cons a r ih =>
      have h3 : argB (renA o F a) = argB a := by unfold argB renA; simp only; rw [ren_named ho hF, ren_empty ho hF]
      rw [List.map_cons, List.all_cons, List.all_cons, ih, h3]
  unfold formB renI
  simp only
  split
  · rfl
  · rename_i d nm n he
    rw [h1, h2]
    congr 1
    congr 1
    unfold countB wantZ
    simp only [List.length_map]
theorem ren_labels (l : List InstrD) : labelsOf (l.map (renI o F)) = labelsOf l := by
  unfold labelsOf
  rw [List.filter_map, List.map_map]; rfl
theorem ren_sites (s : List ByteArray) (l : List InstrD) : sitesOf s (l.map (renI o F)) = sitesOf s l := by
  unfold sitesOf
  rw [List.foldl_map]; rfl
theorem ren_first {α β : Type} (b : α → β) (f : List α → α → Option FaultD) (g : List β → β → Option FaultD) (h : ∀ d x, g (d.map b) (b x) = f d x) : ∀ (l d : List α), firstF g (d.map b) (l.map b) = firstF f d l
  | [], _ => rfl
  | x :: r, d => by
    simp only [List.map_cons, firstF, h]
    rw [← ren_first b f g h r (d ++ [x]), List.map_append]; rfl
theorem ren_instr (ho : named o = true) (hF : named F = true) (chans arrays : List ByteArray) (m : Bool) (labels sites : List ByteArray) (x : InstrD) : instrF chans arrays m labels sites (renI o F x) = instrF chans arrays m labels sites x := by
  unfold instrF
  rw [ren_form ho hF]
  rfl
theorem ren_code (ho : named o = true) (hF : named F = true) (chans arrays : List ByteArray) (m : Bool) (sites : List ByteArray) (l : List InstrD) : codeF chans arrays m sites (l.map (renI o F)) = codeF chans arrays m sites l :=
  ren_first (renI o F) _ _ (fun d x => by rw [ren_labels, ren_sites, ren_instr ho hF]) l []
theorem ren_instrs (ho : named o = true) (hF : named F = true) (chans arrays : List ByteArray) (m : Bool) (sites : List ByteArray) (l : List InstrD) (x y : Int) : instrsF chans arrays m sites (l.map (renI o F)) x y = instrsF chans arrays m sites l x y := by
  unfold instrsF
  rw [ren_code ho hF, List.length_map]
theorem ren_target (ps : List (ByteArray × Int)) (labels : List ByteArray) (x : InstrD) : targetF ps labels (renI o F x) = targetF ps labels x := by
  unfold targetF
  simp only [renI, List.length_map]
theorem ren_targets (ps : List (ByteArray × Int)) (labels : List ByteArray) (l : List InstrD) : targetsF ps labels (l.map (renI o F)) = targetsF ps labels l :=
  ren_first (renI o F) _ _ (fun d x => ren_target ps labels x) l []
/-- The program with the renamed main. -/
def renP (o F : ByteArray) (p : ProgD) : ProgD := { p with main := p.main.map (renI o F) }
/-- **The check says the same.** -/
theorem ren_check (ho : named o = true) (hF : named F = true) (p : ProgD) : checkF (renP o F p) = checkF p := by
  unfold checkF renP
  simp only
  rw [ren_instrs ho hF, ren_labels, ren_targets]
/-! ### the list of variables -/
/-- The names of an instruction: its destination, its operands. -/
def namesI (x : InstrD) : List ByteArray := x.dst :: x.args.map (·.name)
theorem argsL_names (ps : List ByteArray) : ∀ (l : List ArgD) (out : List ByteArray), argsL ps l out = (l.map (·.name)).foldl (addF ps) out
  | [], _ => rfl
  | a :: r, out => argsL_names ps r (addF ps out a.name)
theorem localsL_names (ps : List ByteArray) : ∀ (l : List InstrD) (out : List ByteArray), localsL ps l out = (l.flatMap namesI).foldl (addF ps) out
  | [], _ => rfl
  | x :: r, out => by
    have h := localsL_names ps r (argsL ps x.args (addF ps out x.dst))
    show localsL ps r (argsL ps x.args (addF ps out x.dst)) = _
    rw [h, argsL_names, List.flatMap_cons, List.foldl_append]
    rfl
theorem names_ren (l : List InstrD) : (l.map (renI o F)).flatMap namesI = (l.flatMap namesI).map (renS o F) := by
  induction l with
  | nil => rfl
  | cons x r ih =>
    rw [List.map_cons, List.flatMap_cons, List.flatMap_cons, List.map_append, ih]
    congr 1
    simp only [namesI, renI, List.map_cons, List.map_map]
    rfl
theorem addF_sub {ps out : List ByteArray} {s t : ByteArray} (h : t ∈ out) : t ∈ addF ps out s := by
  unfold addF
  split
  · exact h
  · exact List.mem_append_left _ h
theorem fold_sub (ps : List ByteArray) : ∀ (l out : List ByteArray) (t : ByteArray), t ∈ out → t ∈ l.foldl (addF ps) out
  | [], _, _, h => h
  | s :: r, out, t, h => fold_sub ps r (addF ps out s) t (addF_sub h)
theorem inL_mem {s : ByteArray} {l : List ByteArray} : inL s l = true ↔ s ∈ l := by
  unfold inL
  rw [List.any_eq_true]
  constructor
  · rintro ⟨t, h1, h2⟩
    have e := of_decide_eq_true h2
    first | exact e ▸ h1 | exact e.symm ▸ h1
  · intro h
    exact ⟨s, h, decide_eq_true rfl⟩
theorem addF_has {out : List ByteArray} {s : ByteArray} (h : s.toList.isEmpty = false) : s ∈ addF [] out s := by
  unfold addF
  by_cases hi : inL s out = true
  · have : (s.toList.isEmpty || (inL s [] || inL s out)) = true := by simp [hi]
    rw [if_pos this]
    exact inL_mem.1 hi
  · by_cases hc : (s.toList.isEmpty || (inL s [] || inL s out)) = true
    · exfalso
      rw [h] at hc
      simp [inL] at hc
      exact hi (inL_mem.2 (by simpa [inL] using hc))
    · rw [if_neg hc]
      exact List.mem_append_right _ (by simp)
theorem fold_has : ∀ (l out : List ByteArray) (s : ByteArray), s ∈ l → s.toList.isEmpty = false → s ∈ l.foldl (addF []) out
  | t :: r, out, s, h, he => by
    rcases List.mem_cons.1 h with rfl | h
    · exact fold_sub [] r _ _ (addF_has he)
    · exact fold_has r _ s h he
theorem ren_inj {s t : ByteArray} (hs : ¬ s = F) (ht : ¬ t = F) (h : renS o F s = renS o F t) : s = t := by
  unfold renS at h
  split at h <;> split at h
  · rename_i h1 h2; rw [h1, h2]
  · exact absurd h.symm ht
  · exact absurd h hs
  · exact h
theorem ren_in {s : ByteArray} {out : List ByteArray} (hs : ¬ s = F) (ho : ∀ t ∈ out, ¬ t = F) : inL (renS o F s) (out.map (renS o F)) = inL s out := by
  rw [Bool.eq_iff_iff, inL_mem, inL_mem, List.mem_map]
  constructor
  · rintro ⟨t, h1, h2⟩
    rw [← ren_inj (ho t h1) hs h2]
    exact h1
  · intro h
    exact ⟨s, h, rfl⟩
theorem ren_fold (hno : named o = true) (hnF : named F = true) : ∀ (l out : List ByteArray), (∀ s ∈ l, ¬ s = F) → (∀ t ∈ out, ¬ t = F) → (l.map (renS o F)).foldl (addF []) (out.map (renS o F)) = (l.foldl (addF []) out).map (renS o F)
  | [], _, _, _ => rfl
  | s :: r, out, h1, h2 => by
    have hs := h1 s List.mem_cons_self
    have e : addF [] (out.map (renS o F)) (renS o F s) = (addF [] out s).map (renS o F) := by
      unfold addF
      have e2 : inL (renS o F s) [] = inL s [] := by simp [inL]
      rw [ren_empty hno hnF, ren_in hs h2, e2]
      split
      · rfl
      · rw [List.map_append]; rfl
    rw [List.map_cons, List.foldl_cons, List.foldl_cons, e]
    refine ren_fold hno hnF r _ (fun t ht => h1 t (List.mem_cons_of_mem _ ht)) (fun t ht => ?_)
    rcases addF_mem ht with h | rfl
    · exact h2 t h
    · exact hs
/-- **The variables are renamed as main is.** -/
theorem ren_locals (hno : named o = true) (hnF : named F = true) (l : List InstrD) (h : F ∉ localsL [] l []) : localsL [] (l.map (renI o F)) [] = (localsL [] l []).map (renS o F) := by
  rw [localsL_names, names_ren, localsL_names] at *
  refine ren_fold hno hnF _ [] (fun s hs e => ?_) (fun t ht => by cases ht)
  subst e
  exact h (fold_has _ [] _ hs (named_nonempty hnF))
theorem addF_nodup {out : List ByteArray} {s : ByteArray} (h : out.Nodup) : (addF [] out s).Nodup := by
  unfold addF
  split
  · exact h
  · rename_i hc
    refine List.nodup_append.2 ⟨h, by simp, fun a ha b hb => ?_⟩
    simp only [List.mem_singleton] at hb
    subst hb
    rintro rfl
    exact hc (by simp [inL_mem.2 ha])
theorem fold_nodup : ∀ (l out : List ByteArray), out.Nodup → (l.foldl (addF []) out).Nodup
  | [], _, h => h
  | s :: r, out, h => fold_nodup r _ (addF_nodup h)
theorem locals_nodup (l : List InstrD) : (localsL [] l []).Nodup := by
  rw [localsL_names]
  exact fold_nodup _ [] List.nodup_nil
theorem map_set {l : List ByteArray} (hn : l.Nodup) {k : Nat} (hk : l[k]? = some o) : l.map (renS o F) = l.set k F := by
  apply List.ext_getElem?
  intro i
  rw [List.getElem?_map, List.getElem?_set]
  have hkl := (List.getElem?_eq_some_iff.1 hk).1
  by_cases hi : k = i
  · subst hi
    rw [if_pos rfl, if_pos hkl, hk]
    simp [renS_self]
  · rw [if_neg hi]
    cases hx : l[i]? with
    | none => rfl
    | some s =>
      have : ¬ s = o := by
        rintro rfl
        have hil := (List.getElem?_eq_some_iff.1 hx).1
        have h1 := (List.getElem?_eq_some_iff.1 hx).2
        have h2 := (List.getElem?_eq_some_iff.1 hk).2
        exact hi ((List.getElem_inj hn).1 (h2.trans h1.symm))
      simp [renS_other this]
end
end Go.Proofs.YteeebofjlchndaaDoor
