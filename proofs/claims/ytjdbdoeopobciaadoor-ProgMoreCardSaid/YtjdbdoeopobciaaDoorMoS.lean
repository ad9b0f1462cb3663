/- A program that is well formed, said without order: it stays so with its functions in another order, with one more channel or function, and without an instruction of main that is no label. Plain. What the walk of ProgMore needs besides: has, rows of functions that are written in place, and the programs that it makes. No condition of its own. The program that ProgMore builds, in memory: what goes on reading behind a write into blocks of one type. Plain lemmas; no condition of their own. -/
import Derived.Test.YtjdbdoeopobciaaDoorRck
import Derived.Test.YtjdbdoeopobciaaDoorExH
import Derived.Laws.OwnMore
set_option linter.unnecessarySimpa false
set_option linter.unusedVariables false
set_option linter.unusedSimpArgs false
namespace Go.Proofs.YtjdbdoeopobciaaDoor
def okNames (l : List ByteArray) : Prop := l.length ≤ 32 ∧ (∀ s ∈ l, named s = true) ∧ l.Nodup
theorem nd_iff {l : List ByteArray} : (∀ p x r, l = p ++ x :: r → x ∉ p) ↔ l.Nodup := by
  constructor
  · intro h
    rw [List.Nodup, List.pairwise_iff_getElem]
    intro i j hi hj hij e
    refine h (l.take j) l[j] (l.drop (j + 1)) (by rw [List.getElem_cons_drop, List.take_append_drop]) ?_
    rw [← e]
    exact List.mem_iff_getElem?.2 ⟨i, by rw [List.getElem?_take, if_pos hij, List.getElem?_eq_getElem hi]⟩
  · rintro h p x r rfl hx
    exact (List.nodup_append.1 h).2.2 x hx x (List.mem_cons_self ..) rfl
theorem need_iff {ok : Bool} {x y e : Int} : needF ok x y e = none ↔ ok = true := by cases ok <;> simp [needF]
theorem declsF_iff {l : List ByteArray} {x y : Int} : declsF l x y = none ↔ (∀ s ∈ l, named s = true) ∧ l.Nodup := by
  unfold declsF
  rw [firstF_none]
  unfold declF
  constructor
  · intro h
    refine ⟨fun s hs => ?_, nd_iff.1 fun p s r e hm => ?_⟩
    · obtain ⟨p, r, e⟩ := List.append_of_mem hs
      exact need_iff.1 (Option.or_eq_none_iff.1 (h p s r e)).1
    · have := need_iff.1 (Option.or_eq_none_iff.1 (h p s r e)).2
      simp only [List.nil_append, Bool.not_eq_true'] at this
      exact inL_not.1 this hm
  · rintro ⟨h1, h2⟩ p s r e
    rw [Option.or_eq_none_iff, need_iff, need_iff]
    refine ⟨h1 s (by rw [e]; simp), ?_⟩
    simp only [List.nil_append, Bool.not_eq_true']
    exact inL_not.2 (nd_iff.2 h2 p s r e)
theorem namesF_iff {l : List ByteArray} {x y : Int} : namesF l x y = none ↔ okNames l := by
  unfold namesF okNames
  split
  · rename_i h
    constructor
    · intro h'; cases h'
    · rintro ⟨h', _⟩; omega
  · rename_i h
    rw [Option.map_eq_none_iff, declsF_iff]
    exact ⟨fun h' => ⟨by omega, h'⟩, fun h' => h'.2⟩
def CodeOk (p : ProgD) (b : Bool) (c : List InstrD) : Prop := ∀ d x r, c = d ++ x :: r → bodyR p.chans (aNames p.arrays) b (sitesP p) (labelsOf d) x = none
structure OkP (p : ProgD) : Prop where
  width : 1 ≤ p.width ∧ p.width ≤ 64
  chans : okNames p.chans
  alen : p.arrays.length ≤ 32
  arrs : firstF refArrF [] p.arrays = none
  flen : p.funcs.length ≤ 32
  fnames : okNames (fNames p.funcs)
  params : ∀ f ∈ p.funcs, okNames f.params
  codes : ∀ f ∈ p.funcs, f.code.length ≤ 1024 ∧ CodeOk p false f.code
  main : p.main.length ≤ 1024 ∧ CodeOk p true p.main
  targs : ∀ c ∈ codesL p, targetsF (paramsOf p.funcs) (labelsOf c) c = none
  loops : ∀ f ∈ p.funcs, ¬ Reach p.funcs f.name f.name
theorem codeR_iff {p : ProgD} {i : Nat} : codeR p i = none ↔ CodeOk p (decide (i = p.funcs.length)) (codeAt p i) := by
  unfold codeR CodeOk
  rw [firstF_none]
  simp only [List.nil_append]
theorem okNames_pre {l m : List ByteArray} (h : okNames (l ++ m)) : okNames l := by
  obtain ⟨h1, h2, h3⟩ := h
  exact ⟨by rw [List.length_append] at h1; omega, fun s hs => h2 s (by simp [hs]), (List.nodup_append.1 h3).1⟩
theorem okNames_nil : okNames [] := ⟨by simp, (by intro s h; cases h), List.nodup_nil⟩
theorem funs_iff {p : ProgD} : firstF (refFunF p) [] p.funcs = none ∧ p.funcs.length ≤ 32 ↔ p.funcs.length ≤ 32 ∧ okNames (fNames p.funcs) ∧ (∀ f ∈ p.funcs, okNames f.params) ∧ (∀ f ∈ p.funcs, f.code.length ≤ 1024 ∧ CodeOk p false f.code) := by
  rw [firstF_none]
  unfold refFunF
  simp only [List.nil_append, Option.or_eq_none_iff, namesF_iff, need_iff, decide_eq_true_eq, codeR_iff]
  have hcode : ∀ d f r, p.funcs = d ++ f :: r → codeAt p d.length = f.code ∧ decide (d.length = p.funcs.length) = false := by
    intro d f r e
    constructor
    · unfold codeAt
      rw [e, List.getElem?_append_right (Nat.le_refl _), Nat.sub_self]; rfl
    · rw [e]; simp
  constructor
  · rintro ⟨h, hl⟩
    refine ⟨hl, ?_, fun f hf => ?_, fun f hf => ?_⟩
    · rcases List.eq_nil_or_concat p.funcs with e | ⟨d, f, e⟩
      · rw [e]; exact okNames_nil
      · rw [List.concat_eq_append] at e
        have := (h d f [] e).1
        rwa [e]
    · obtain ⟨d, r, e⟩ := List.append_of_mem hf
      exact (h d f r e).2.1
    · obtain ⟨d, r, e⟩ := List.append_of_mem hf
      have := (h d f r e).2.2
      rw [(hcode d f r e).1, (hcode d f r e).2] at this
      exact this
  · rintro ⟨hl, h1, h2, h3⟩
    refine ⟨fun d f r e => ?_, hl⟩
    have hf : f ∈ p.funcs := by rw [e]; simp
    refine ⟨?_, h2 f hf, ?_⟩
    · refine okNames_pre (m := fNames r) ?_
      have : fNames (d ++ [f]) ++ fNames r = fNames p.funcs := by rw [e]; simp [fNames]
      rw [this]; exact h1
    · rw [(hcode d f r e).1, (hcode d f r e).2]
      exact h3 f hf
theorem later_iff {p : ProgD} : laterF p = none ↔ (∀ c ∈ codesL p, targetsF (paramsOf p.funcs) (labelsOf c) c = none) ∧ ∀ f ∈ p.funcs, ¬ Reach p.funcs f.name f.name := by
  unfold laterF tgtsF loopsF
  rw [Option.or_eq_none_iff, firstF_none, firstF_none]
  constructor
  · rintro ⟨h1, h2⟩
    refine ⟨fun c hc => ?_, fun f hf hr => ?_⟩
    · obtain ⟨d, r, e⟩ := List.append_of_mem hc
      exact h1 d c r e
    · obtain ⟨d, r, e⟩ := List.append_of_mem hf
      have := need_iff.1 (h2 d f r e)
      rw [(loop_iff _ _).2 hr] at this; cases this
  · rintro ⟨h1, h2⟩
    refine ⟨fun d c r e => h1 c (by rw [e]; simp), fun d f r e => ?_⟩
    rw [need_iff]
    cases hb : loopB p.funcs f.name
    · rfl
    · exact absurd ((loop_iff _ _).1 hb) (h2 f (by rw [e]; simp))
theorem ok_iff {p : ProgD} : checkF p = none ↔ OkP p := by
  rw [ref_is]
  simp only [Option.or_eq_none_iff, namesF_iff, need_iff, decide_eq_true_eq, Bool.and_eq_true, codeR_iff, later_iff]
  have hm : codeAt p p.funcs.length = p.main := by unfold codeAt; rw [List.getElem?_eq_none (Nat.le_refl _)]
  rw [hm]
  constructor
  · rintro ⟨h1, h2, h3, h4, h5, h6, h7, h8, h9, h10⟩
    obtain ⟨k1, k2, k3, k4⟩ := funs_iff.1 ⟨h6, h5⟩
    exact ⟨h1, h2, h3, h4, k1, k2, k3, k4, ⟨h7, by simpa using h8⟩, h9, h10⟩
  · intro h
    have hf := funs_iff.2 ⟨h.flen, h.fnames, h.params, h.codes⟩
    exact ⟨h.width, h.chans, h.alen, h.arrs, hf.2, hf.1, h.main.1, by simpa using h.main.2, h.targs, h.loops⟩
/-! ### what does not hang on the order -/
theorem body_mono {chans chans' A S S' L : List ByteArray} {b : Bool} {x : InstrD} (h : bodyR chans A b S L x = none) (hc : ∀ s ∈ chans, s ∈ chans') (hs : x.kind = 7 → x.name ∈ S') : bodyR chans' A b S' L x = none := by
  unfold bodyR at h ⊢
  split at h
  · cases h
  split at h
  · cases h
  split at h
  · cases h
  split at h
  · cases h
  split at h
  · cases h
  rename_i h1 h2 h3 h4 h5
  rw [if_neg h1, if_neg ?_, if_neg h3, if_neg h4, if_neg ?_]
  · intro k
    rw [Bool.and_eq_true, decide_eq_true_eq, Bool.not_eq_true', inL_not] at k
    exact k.2 (hs k.1)
  · intro k
    rw [Bool.and_eq_true, Bool.not_eq_true', inL_not] at k
    refine h2 ?_
    rw [Bool.and_eq_true, Bool.not_eq_true', inL_not]
    exact ⟨k.1, fun hm => k.2 (hc _ hm)⟩
theorem body_site {chans A S L : List ByteArray} {b : Bool} {x : InstrD} (h : bodyR chans A b S L x = none) (hk : x.kind = 7) : x.name ∈ S := by
  unfold bodyR at h
  split at h
  · cases h
  split at h
  · cases h
  split at h
  · cases h
  split at h
  · cases h
  split at h
  · cases h
  rename_i h5
  rw [Bool.and_eq_true, decide_eq_true_eq, Bool.not_eq_true', inL_not] at h5
  exact Classical.byContradiction fun hn => h5 ⟨hk, hn⟩
theorem mem_put {s t : ByteArray} {l : List ByteArray} : s ∈ putL t l ↔ s ∈ l ∨ s = t := by
  unfold putL
  split
  · rename_i h
    have := inL_iff.1 h
    exact ⟨.inl, fun k => k.elim id fun e => e ▸ this⟩
  · simp
theorem mem_sites {s : ByteArray} : ∀ (l : List InstrD) (a : List ByteArray), s ∈ sitesOf a l ↔ s ∈ a ∨ ∃ x ∈ l, x.kind = 7 ∧ x.name = s
  | [], a => by simp [sitesOf]
  | x :: l, a => by
    have e : sitesOf a (x :: l) = sitesOf (if x.kind == 7 then putL x.name a else a) l := rfl
    rw [e, mem_sites l]
    by_cases h : x.kind = 7
    · rw [if_pos (by simpa using h), mem_put]
      simp only [List.mem_cons, exists_eq_or_imp]
      constructor
      · rintro ((k | k) | k)
        · exact .inl k
        · exact .inr (.inl ⟨h, k.symm⟩)
        · exact .inr (.inr k)
      · rintro (k | ⟨_, k⟩ | k)
        · exact .inl (.inl k)
        · exact .inl (.inr k.symm)
        · exact .inr k
    · rw [if_neg (by simpa using h)]
      simp only [List.mem_cons, exists_eq_or_imp, h, false_and, false_or]
theorem nd_sites : ∀ (l : List InstrD) (a : List ByteArray), a.Nodup → (sitesOf a l).Nodup
  | [], a, h => h
  | x :: l, a, h => by
    have e : sitesOf a (x :: l) = sitesOf (if x.kind == 7 then putL x.name a else a) l := rfl
    rw [e]
    refine nd_sites l _ ?_
    split
    · unfold putL
      split
      · exact h
      · rename_i h2
        have h3 := inL_not.1 (by simpa using h2)
        rw [List.nodup_append]
        refine ⟨h, by simp, fun s hs t ht e => ?_⟩
        rw [List.mem_singleton] at ht
        subst ht e
        exact h3 hs
    · exact h
theorem len_sub : ∀ (l t : List ByteArray), l.Nodup → (∀ s ∈ l, s ∈ t) → l.length ≤ t.length
  | [], _, _, _ => by simp
  | a :: l, t, h, hs => by
    have ha := hs a (List.mem_cons_self ..)
    obtain ⟨h1, h2⟩ := List.nodup_cons.1 h
    have h3 := len_sub l (t.filter fun s => decide (s ≠ a)) h2 fun s hm => by
      rw [List.mem_filter]
      refine ⟨hs s (List.mem_cons_of_mem _ hm), ?_⟩
      rw [decide_eq_true_eq]
      rintro rfl
      exact h1 hm
    have h4 : (t.filter fun s => decide (s ≠ a)).length < t.length := List.length_filter_lt_length_iff_exists.2 ⟨a, ha, by simp⟩
    simp only [List.length_cons]
    omega
theorem find_nd {fs : List FuncD} (hn : (fNames fs).Nodup) {f : FuncD} (hf : f ∈ fs) : fs.find? (fun g => decide (g.name = f.name)) = some f := by
  induction fs with
  | nil => cases hf
  | cons g fs ih =>
    have e : fNames (g :: fs) = g.name :: fNames fs := rfl
    rw [e, List.nodup_cons] at hn
    rw [List.find?_cons]
    rcases List.mem_cons.1 hf with rfl | h
    · simp
    · have hne : ¬ g.name = f.name := fun e => hn.1 (by rw [e]; exact List.mem_map_of_mem h)
      rw [decide_eq_false hne]
      exact ih hn.2 h
theorem find_param (fs : List FuncD) (s : ByteArray) : atL s (paramsOf fs) = (fs.find? fun g => decide (g.name = s)).map fun f => (f.params.length : Int) := by
  unfold atL paramsOf
  rw [List.find?_map, Option.map_map]
  rfl
theorem target_mono {ps ps' : List (ByteArray × Int)} {L : List ByteArray} {x : InstrD} (h : targetF ps L x = none) (hp : ∀ s v, atL s ps = some v → atL s ps' = some v) : targetF ps' L x = none := by
  unfold targetF at h ⊢
  split
  · rename_i h1; rw [if_pos h1] at h; exact h
  · rename_i h1
    rw [if_neg h1] at h
    split
    · rename_i h2
      rw [if_pos h2, Option.or_eq_none_iff, need_iff] at h
      obtain ⟨v, hv⟩ := Option.isSome_iff_exists.1 h.1
      have h3 := h.2
      rw [hv] at h3
      rw [hp _ _ hv, h3]; rfl
    · rfl
/-- A program with more channels, its functions in another order and some without instructions besides, and a main that has the same labels, and of the instructions. -/
theorem more_ok {p : ProgD} (h : OkP p) {chans : List ByteArray} {funcs : List FuncD} {main : List InstrD} (hc : okNames chans) (hc2 : ∀ s ∈ p.chans, s ∈ chans)
    (hl : funcs.length ≤ 32) (hn : okNames (fNames funcs)) (hf : ∀ g ∈ funcs, g ∈ p.funcs ∨ (g.code = [] ∧ okNames g.params)) (hf2 : ∀ f ∈ p.funcs, f ∈ funcs)
    (hm : main.length ≤ 1024) (hlab : labelsOf main = labelsOf p.main) (hm2 : ∀ d x r, main = d ++ x :: r → ∃ d' r', p.main = d' ++ x :: r' ∧ labelsOf d' = labelsOf d) : OkP ⟨p.width, chans, p.arrays, funcs, main⟩ := by
  have hsite : ∀ x ∈ preC ⟨p.width, chans, p.arrays, funcs, main⟩ (funcs.length + 1), x.kind = 7 → x.name ∈ sitesP p := by
    intro x hx hk
    unfold preC at hx
    simp only [List.take_of_length_le (Nat.le_succ _), if_pos (Nat.lt_succ_self _)] at hx
    rcases List.mem_append.1 hx with hx | hx
    · unfold codesOf at hx
      obtain ⟨g, hg, hx⟩ := List.mem_flatMap.1 hx
      rcases hf g hg with k | ⟨k, _⟩
      · obtain ⟨d, r, e⟩ := List.append_of_mem hx
        exact body_site ((h.codes g k).2 d x r e) hk
      · rw [k] at hx; cases hx
    · obtain ⟨d, r, e⟩ := List.append_of_mem hx
      obtain ⟨d', r', e', _⟩ := hm2 d x r e
      exact body_site (h.main.2 d' x r' e') hk
  have hsub : ∀ s ∈ sitesOf [] (preC ⟨p.width, chans, p.arrays, funcs, main⟩ (funcs.length + 1)), s ∈ sitesP p := by
    intro s hs
    rcases (mem_sites _ _).1 hs with k | ⟨x, hx, hk, rfl⟩
    · cases k
    · exact hsite x hx hk
  have hlen : (sitesP p).length ≤ 32 := by unfold sitesP; rw [List.length_take]; omega
  have hall : sitesP ⟨p.width, chans, p.arrays, funcs, main⟩ = sitesOf [] (preC ⟨p.width, chans, p.arrays, funcs, main⟩ (funcs.length + 1)) := by
    have h1 := len_sub _ _ (nd_sites _ _ List.nodup_nil) hsub
    show List.take 32 _ = _
    exact List.take_of_length_le (Nat.le_trans h1 hlen)
  have hin : ∀ x ∈ preC ⟨p.width, chans, p.arrays, funcs, main⟩ (funcs.length + 1), x.kind = 7 → x.name ∈ sitesP ⟨p.width, chans, p.arrays, funcs, main⟩ := by
    intro x hx hk
    rw [hall]
    exact (mem_sites _ _).2 (.inr ⟨x, hx, hk, rfl⟩)
  have hpre : preC ⟨p.width, chans, p.arrays, funcs, main⟩ (funcs.length + 1) = codesOf funcs ++ main := by
    unfold preC
    simp only [List.take_of_length_le (Nat.le_succ _), if_pos (Nat.lt_succ_self _)]
  rw [hpre] at hin
  have hfind : ∀ f ∈ p.funcs, funcs.find? (fun g => decide (g.name = f.name)) = some f := fun f hm => find_nd hn.2.2 (hf2 f hm)
  have hps : ∀ s v, atL s (paramsOf p.funcs) = some v → atL s (paramsOf funcs) = some v := by
    intro s v hv
    rw [find_param] at hv ⊢
    obtain ⟨f, h1, h2⟩ := Option.map_eq_some_iff.1 hv
    have h3 := List.mem_of_find?_eq_some h1
    have h4 : f.name = s := by simpa using List.find?_some h1
    rw [← h4, hfind f h3, ← h2]; rfl
  have htg : ∀ c, targetsF (paramsOf p.funcs) (labelsOf c) c = none → targetsF (paramsOf funcs) (labelsOf c) c = none := by
    intro c hcc
    unfold targetsF at hcc ⊢
    rw [firstF_none] at hcc ⊢
    exact fun d x r e => target_mono (hcc d x r e) hps
  have hcalls : ∀ a b, CallsN funcs a b → CallsN p.funcs a b := by
    rintro a b ⟨f, h1, h2⟩
    have h3 := List.mem_of_find?_eq_some h1
    have h4 : f.name = a := by simpa using List.find?_some h1
    rcases hf f h3 with k | ⟨k, _⟩
    · exact ⟨f, by rw [← h4]; exact find_nd h.fnames.2.2 k, h2⟩
    · rw [k] at h2; cases h2
  have hreach : ∀ a b, Reach funcs a b → Reach p.funcs a b := by
    intro a b hr
    induction hr with
    | one hc => exact .one (hcalls _ _ hc)
    | more _ hc ih => exact .more ih (hcalls _ _ hc)
  refine ⟨h.width, hc, h.alen, h.arrs, hl, hn, fun g hg => ?_, fun g hg => ?_, ⟨hm, fun d x r e => ?_⟩, fun c hcm => ?_, fun g hg hr => ?_⟩
  · rcases hf g hg with k | ⟨_, k⟩
    · exact h.params g k
    · exact k
  · rcases hf g hg with k | ⟨k, _⟩
    · refine ⟨(h.codes g k).1, fun d x r e => ?_⟩
      refine body_mono ((h.codes g k).2 d x r e) hc2 (hin x ?_)
      exact List.mem_append_left _ (List.mem_flatMap.2 ⟨g, hg, by rw [e]; simp⟩)
    · rw [k]
      exact ⟨by simp, fun d x r e => by simp at e⟩
  · obtain ⟨d', r', e', hd⟩ := hm2 d x r e
    rw [← hd]
    refine body_mono (h.main.2 d' x r' e') hc2 (hin x ?_)
    have e2 : main = d ++ x :: r := e
    exact List.mem_append_right _ (by rw [e2]; simp)
  · unfold codesL at hcm
    rcases List.mem_append.1 hcm with hcm | hcm
    · obtain ⟨g, hg, rfl⟩ := List.mem_map.1 hcm
      rcases hf g hg with k | ⟨k, _⟩
      · exact htg _ (h.targs _ (List.mem_append_left _ (List.mem_map_of_mem k)))
      · show targetsF _ (labelsOf g.code) g.code = none
        rw [k]; rfl
    · rw [List.mem_singleton] at hcm
      have hcm' : c = main := hcm
      show targetsF (paramsOf funcs) (labelsOf c) c = none
      rw [hcm']
      have h1 := h.targs p.main (List.mem_append_right _ (by simp))
      unfold targetsF at h1 ⊢
      rw [firstF_none] at h1 ⊢
      intro d x r e
      obtain ⟨d', r', e', _⟩ := hm2 d x r e
      have h2 := h1 d' x r' e'
      show targetF (paramsOf funcs) (labelsOf main) x = none
      rw [hlab]
      exact target_mono h2 hps
  · have h1 := hreach _ _ hr
    rcases hf g hg with k | ⟨k, _⟩
    · exact h.loops g k h1
    · have : ∀ a b, Reach funcs a b → a ≠ g.name := by
        intro a b hr2
        induction hr2 with
        | one hc =>
          rintro rfl
          obtain ⟨f, h3, h4⟩ := hc
          rw [find_nd hn.2.2 hg] at h3
          cases h3
          rw [k] at h4; cases h4
        | more _ _ ih => exact ih
      exact this _ _ hr rfl
open Go.ChangeShapes Go.WideShapes Go.ChangeAt Go.RowKit
set_option maxRecDepth 100000 in
set_option maxHeartbeats 1600000 in
theorem has_any (v : Value) (l : List ByteArray) (s : ByteArray) (w : World) (h : RdStrs none w v l) :
    Calls Tryd.prog 23 #[v, .string s] w fun e w' => e = .returned (.bool (inL s l)) ∧ w = w' := by
  obtain ⟨a, c, rfl, hl, hr⟩ := h
  have HR := Lib.hid hr
  clear hr
  go_enter Tryd.func23, Tryd.ntmps23
  go_wp2
  go_loop [5] (fun i => ∃ k : Nat, k ≤ l.length ∧ i = .int .i64 k ∧ Hid (∀ (j : Nat) x, j < k → l[j]? = some x → (x.toList == s.toList) = false)) (fun i => l.length - (intOf i).toNat)
  case atStart => exact ⟨0, Nat.zero_le _, rfl, fun j x h => by omega⟩
  case round =>
    obtain ⟨k, hk, rfl, hq⟩ := hrel
    by_cases hlt : k < l.length
    · obtain ⟨x, hx⟩ : ∃ x, l[k]? = some x := ⟨_, List.getElem?_eq_getElem hlt⟩
      obtain ⟨b, o, rfl, _, c0, _⟩ := HR.out k x hx
      have HX := Lib.hid hx
      have hlt2 : (k : Int) < (l.length : Int) := by omega
      clear hx
      cases he : (x.toList == s.toList)
      · have HE := Lib.hid he
        go_wp2
        go_round
        case rel =>
          refine ⟨k + 1, by omega, by go_num, fun j y hj hy => ?_⟩
          rcases Nat.lt_or_ge j k with h | h
          · exact hq.out j y h hy
          · obtain rfl : j = k := by omega
            rw [HX.out] at hy; cases hy; exact HE.out
        case measure => simp [intOf]; omega
      · have HV := Lib.hid (inL_hit HX.out he)
        go_wp2
        go_ret
        exact ⟨by rw [HV.out]; rfl, rfl⟩
    · obtain rfl : k = l.length := by omega
      have HV := Lib.hid (inL_none (s := s) (l := l) (fun j x h => hq.out j x (List.getElem?_eq_some_iff.1 h).1 h))
      go_wp2
      go_ret
      exact ⟨by rw [HV.out]; rfl, rfl⟩
set_option maxRecDepth 100000 in
theorem mod_more (n m : Int) (hn : InI64 n) (hm : 1 ≤ m ∧ m ≤ 1000) (w : World) : Calls Tryd.prog 24 #[.int .i64 n, .int .i64 m] w fun e w' => ∃ r, e = .returned (.int .i64 r) ∧ 0 ≤ r ∧ r < m ∧ Below w.heap.size w w' := by
  obtain ⟨hm1, hm2⟩ := hm
  unfold InI64 at hn
  have h1 : ¬ m < 1 := by omega
  have h0 : ¬ m = 0 := by omega
  have hb1 : -m < n.tmod m := by
    have := Int.tmod_lt_of_pos (-n) (show 0 < m by omega)
    rw [Int.neg_tmod] at this
    omega
  have hb2 : n.tmod m < m := Int.tmod_lt_of_pos n (by omega)
  go_enter Tryd.func24, Tryd.ntmps24
  go_wp2_with fail
  go_ret
  exact ⟨_, rfl, Int.emod_nonneg _ h0, Int.emod_lt_of_pos _ (by omega), Below.refl _ _⟩
/-- One element of a row, written anew cell by cell. -/
theorem flat_set5 (P : List (FuncD × Value × Value)) (i : Nat) (q : FuncD × Value × Value) (hi : i < P.length) :
    (((((P.flatMap funCells).toArray.setIfInBounds (i * 5) (.string q.1.name)).setIfInBounds (i * 5 + 1) q.2.1).setIfInBounds (i * 5 + 2) q.2.2).setIfInBounds (i * 5 + 3) (.int .i64 q.1.line)).setIfInBounds (i * 5 + 4) (.int .i64 q.1.col) = ((P.set i q).flatMap funCells).toArray := by
  have hlen : ∀ R : List (FuncD × Value × Value), (R.flatMap funCells).length = R.length * 5 := fun R => flat_length funCells 5 (fun _ => rfl) R
  apply Array.ext'
  apply List.ext_getElem?
  intro j
  simp only [List.setIfInBounds_toArray]
  simp only [List.getElem?_set, List.length_set, hlen]
  by_cases hj : j / 5 = i
  · have hj5 : j = i * 5 + j % 5 := by omega
    have hr : j % 5 < 5 := by omega
    have h2 : (P.set i q)[i]? = some q := by rw [List.getElem?_set, if_pos rfl, if_pos hi]
    have h1 := flat_get funCells 5 (fun _ => rfl) (P.set i q) i (j % 5) q h2 hr
    rw [← hj5] at h1
    rw [h1]
    generalize j % 5 = r at *
    subst hj5
    match r, hr with
    | 0, _ => simp [funCells]; omega
    | 1, _ => simp [funCells]; omega
    | 2, _ => simp [funCells]; omega
    | 3, _ => simp [funCells]; omega
    | 4, _ => simp [funCells]; omega
  · rw [if_neg (by omega), if_neg (by omega), if_neg (by omega), if_neg (by omega), if_neg (by omega)]
    have hj5 : j = j / 5 * 5 + j % 5 := by omega
    cases hp : P[j / 5]? with
    | none =>
      rw [List.getElem?_eq_none_iff] at hp
      rw [List.getElem?_eq_none (by rw [hlen]; omega), List.getElem?_eq_none (by rw [hlen, List.length_set]; omega)]
    | some p =>
      have h1 := flat_get funCells 5 (fun _ => rfl) P (j / 5) (j % 5) p hp (by omega)
      have h2 : (P.set i q)[j / 5]? = some p := by rw [List.getElem?_set, if_neg (fun e => hj e.symm), hp]
      have h3 := flat_get funCells 5 (fun _ => rfl) (P.set i q) (j / 5) (j % 5) p h2 (by omega)
      rw [← hj5] at h1 h3
      rw [h1, h3]
/-! ### the programs -/
def unB : ByteArray := ⟨#[117, 110, 117, 115, 101, 100]⟩
def unF : FuncD := ⟨⟨#[117, 110, 117, 115, 101, 100, 95]⟩, [⟨#[120]⟩], [], 0, 0⟩
theorem unB_named : named unB = true := by kernel_rfl
theorem unF_named : named unF.name = true := by kernel_rfl
theorem unX_named : named ⟨#[120]⟩ = true := by kernel_rfl
theorem unF_params : okNames unF.params := ⟨by decide, by intro s hs; rw [show unF.params = [⟨#[120]⟩] from rfl, List.mem_singleton] at hs; subst hs; exact unX_named, by simp [unF]⟩
theorem chans_more {l : List ByteArray} (h : okNames l) (h1 : l.length < 32) (h2 : unB ∉ l) : okNames (unB :: l) :=
  ⟨by simp only [List.length_cons]; omega, by intro s hs; rcases List.mem_cons.1 hs with rfl | k; exact unB_named; exact h.2.1 s k, List.nodup_cons.2 ⟨h2, h.2.2⟩⟩
theorem names_rev {fs : List FuncD} (h : okNames (fNames fs)) : okNames (fNames fs.reverse) := by
  have e : fNames fs.reverse = (fNames fs).reverse := by simp [fNames]
  rw [e]
  refine ⟨by rw [List.length_reverse]; exact h.1, fun s hs => h.2.1 s (List.mem_reverse.1 hs), ?_⟩
  rw [List.Nodup, List.pairwise_reverse]
  exact List.Pairwise.imp (fun h => Ne.symm h) h.2.2
theorem names_more {fs : List FuncD} (h : okNames (fNames fs)) (hl : fs.length < 32) (h2 : unF.name ∉ fNames fs) : okNames (fNames (fs ++ [unF])) := by
  have e : fNames (fs ++ [unF]) = fNames fs ++ [unF.name] := by simp [fNames]
  rw [e]
  have e3 : (fNames fs).length = fs.length := by simp [fNames]
  refine ⟨by rw [List.length_append, List.length_singleton, e3]; omega, fun s hs => ?_, ?_⟩
  · rcases List.mem_append.1 hs with k | k
    · exact h.2.1 s k
    · rw [List.mem_singleton] at k; subst k; exact unF_named
  · rw [List.nodup_append]
    refine ⟨h.2.2, by simp, fun s hs t ht e => ?_⟩
    rw [List.mem_singleton] at ht
    subst ht e
    exact h2 hs
/-- The first program: one more channel, one more function, the functions turned round. -/
theorem first_ok {p : ProgD} (h : OkP p) (hl : p.funcs.length ≤ 5) {chans : List ByteArray} (hc : chans = p.chans ∨ (chans = unB :: p.chans ∧ p.chans.length < 32 ∧ unB ∉ p.chans)) {funcs : List FuncD} (hf : funcs = p.funcs ∨ (funcs = p.funcs ++ [unF] ∧ unF.name ∉ fNames p.funcs)) :
    OkP ⟨p.width, chans, p.arrays, funcs.reverse, p.main⟩ := by
  have h1 : okNames chans := by
    rcases hc with rfl | ⟨rfl, k1, k2⟩
    · exact h.chans
    · exact chans_more h.chans k1 k2
  have h2 : ∀ s ∈ p.chans, s ∈ chans := by
    intro s hs
    rcases hc with rfl | ⟨rfl, _⟩
    · exact hs
    · exact List.mem_cons_of_mem _ hs
  have h3 : okNames (fNames funcs) := by
    rcases hf with rfl | ⟨rfl, k⟩
    · exact h.fnames
    · exact names_more h.fnames (by omega) k
  have h4 : funcs.length ≤ 6 := by
    rcases hf with rfl | ⟨rfl, k⟩
    · omega
    · rw [List.length_append]; simp only [List.length_singleton]; omega
  refine more_ok h h1 h2 (by rw [List.length_reverse]; omega) (names_rev h3) (fun g hg => ?_) (fun f hm => ?_) h.main.1 rfl (fun d x r e => ⟨d, r, e, rfl⟩)
  · rw [List.mem_reverse] at hg
    rcases hf with rfl | ⟨rfl, k⟩
    · exact .inl hg
    · rcases List.mem_append.1 hg with k | k
      · exact .inl k
      · rw [List.mem_singleton] at k; subst k; exact .inr ⟨rfl, unF_params⟩
  · rw [List.mem_reverse]
    rcases hf with rfl | ⟨rfl, k⟩
    · exact hm
    · exact List.mem_append_left _ hm
theorem labels_append (l m : List InstrD) : labelsOf (l ++ m) = labelsOf l ++ labelsOf m := by unfold labelsOf; rw [List.filter_append, List.map_append]
/-- The second program: one instruction of main less, which is no label. -/
theorem second_ok {p : ProgD} (h : OkP p) {k : Nat} {y : InstrD} (hk : p.main[k]? = some y) (hy : y.kind ≠ 10) : OkP ⟨p.width, p.chans, p.arrays, p.funcs, p.main.take k ++ p.main.drop (k + 1)⟩ := by
  have hkl := (List.getElem?_eq_some_iff.1 hk).1
  have e : p.main = p.main.take k ++ y :: p.main.drop (k + 1) := by
    rw [← (List.getElem?_eq_some_iff.1 hk).2, List.getElem_cons_drop, List.take_append_drop]
  have hly : labelsOf [y] = [] := by simp [labelsOf, hy]
  have hlc : ∀ r, labelsOf (y :: r) = labelsOf r := fun r => by
    rw [show y :: r = [y] ++ r from rfl, labels_append, hly, List.nil_append]
  refine more_ok h h.chans (fun s hs => hs) h.flen h.fnames (fun g hg => .inl hg) (fun f hf => hf) ?_ ?_ fun d x r e2 => ?_
  · have := h.main.1
    rw [List.length_append, List.length_take, List.length_drop]
    omega
  · conv => rhs; rw [e]
    rw [labels_append, labels_append, hlc]
  · rcases List.append_eq_append_iff.1 e2 with ⟨a, h1, h2⟩ | ⟨a, h1, h2⟩
    · refine ⟨p.main.take k ++ y :: a, r, ?_, ?_⟩
      · conv => lhs; rw [e]
        rw [h2]; simp
      · rw [labels_append, hlc, h1, labels_append]
    · cases a with
      | nil =>
        rw [List.append_nil] at h1
        refine ⟨p.main.take k ++ [y], r, ?_, ?_⟩
        · conv => lhs; rw [e]
          rw [List.nil_append] at h2
          rw [← h2]; simp
        · rw [labels_append, hly, List.append_nil, h1]
      | cons b a =>
        simp only [List.cons_append, List.cons.injEq] at h2
        obtain ⟨rfl, rfl⟩ := h2
        refine ⟨d, a ++ y :: p.main.drop (k + 1), ?_, rfl⟩
        conv => lhs; rw [e]
        rw [h1]; simp
open Go.ChangeShapes Go.WideShapes Go.ChangeAt Go.RowKit
theorem run_append_nonec {P : Program} {w : World} (base : Nat) (t ty e : TypeId) (i : TypeInfo) (size : Nat) (ht : P.underlying t = some (.slice e)) (hi : P.info? e = some i)
    (v : Value) (n c : Nat) (xs : List Value) (hown : w.ownsRow base e size v n xs) :
    (Builtin.append_ #[t, t] ty #[v, .slice none 0 c]).run P w = .ok v w := by
  rcases hown.2 with ⟨rfl, rfl⟩ | ⟨g, cap, cur, rfl, _, _, hnc, _⟩
  · simp [Builtin.append_, run_underlying ht, sizeOf, typeInfo, hi, Builtin.lenOf, Builtin.firstCells]
  · simp [Builtin.append_, run_underlying ht, sizeOf, typeInfo, hi, Builtin.lenOf, Builtin.firstCells, hnc, storeCells]
theorem wpList_append_nonec {P : Program} {w : World} {ops : Array Oper} {rest : List Oper} {o : Oper} {a : Act} {Q : Exit → Act → World → Prop} (hgd : o.guard = none) (s x : Operand) (t : TypeId)
    (ho : o.op = .call { callee := .builtin .append, args := #[s, x], argTypes := #[t, t] })
    (base : Nat) (e : TypeId) (i : TypeInfo) (size : Nat) (ht : P.underlying t = some (.slice e)) (hi : P.info? e = some i)
    (v : Value) (n c : Nat) (xs : List Value) (hs : a.eval s = v) (hown : w.ownsRow base e size v n xs) (hx : a.eval x = .slice none 0 c)
    (h : wpList P ops Q rest (a.put o.dst v) w) : wpList P ops Q (o :: rest) a w := by
  refine wpList_plain hgd fun K hK => ?_
  have hrun := run_append_nonec (P := P) (w := w) base t o.type e i size ht hi v n c xs hown
  unfold Oper.wp
  simp [execOp, ho, resolve, invoke, builtin, hs, hx, hrun, Result.andThen]
  exact hK _ _ h
/-- What a slice of strings reads as, as the cells from an address on. -/
theorem strs_cells {lo : Option (Nat → Prop)} {w : World} {ad : Addr} {n c : Nat} {l : List ByteArray} (h : RdStrs lo w (.slice (some ad) n c) l) : ∀ j u, (l.flatMap strCells)[j]? = some u → w.cell? (ad.add j) = some u := by
  obtain ⟨a', c', e, _, hr⟩ := h
  simp only [Value.slice.injEq] at e
  obtain ⟨rfl, _, _⟩ := e
  intro j u hj
  have hlt : j < l.length := by
    have := (List.getElem?_eq_some_iff.1 hj).1
    rw [flat_length strCells 1 (fun _ => rfl)] at this
    omega
  obtain ⟨b, o, e, _, hc, _⟩ := hr j _ (List.getElem?_eq_getElem hlt)
  simp only [Option.some.injEq] at e
  subst e
  have h1 := flat_get strCells 1 (fun _ => rfl) l j 0 _ (List.getElem?_eq_getElem hlt) (by omega)
  rw [Nat.mul_one, Nat.add_zero] at h1
  rw [h1] at hj
  have e2 : (⟨b, o, none⟩ : Addr).add j = ⟨b, o + j, none⟩ := by simp [Addr.add]
  rw [e2, hc]
  exact hj
theorem unF_list : unF.name.toList = [117, 110, 117, 115, 101, 100, 95] := by rw [ByteArray.toList_eq]; rfl
theorem unF_eq (s : ByteArray) : (s.toList == [117, 110, 117, 115, 101, 100, 95]) = decide (s = unF.name) := by rw [← unF_list, beq_is]
/-- Blocks of other types than T0 are as they were. -/
def Only (T0 : TypeId) (w w' : World) : Prop := ∀ (b : Nat) (T : TypeId) (cs : Array Value), T ≠ T0 → w.heap[b]? = some (.cells cs T (0, 0)) → w'.heap[b]? = w.heap[b]?
theorem Only.of_below {T0 : TypeId} {w w' : World} (h : Below w.heap.size w w') : Only T0 w w' := fun b _ _ _ hc => h.block b (Array.getElem?_eq_some_iff.1 hc).1
theorem Only.trans {T0 : TypeId} {a b c : World} (h : Only T0 a b) (k : Only T0 b c) : Only T0 a c := fun g T cs hT hc => (k g T cs hT ((h g T cs hT hc).trans hc)).trans (h g T cs hT hc)
theorem Only.set {T0 : TypeId} {w : World} {g : Nat} {cs : Array Value} (h : w.heap[g]? = some (.cells cs T0 (0, 0))) (o : Nat) (v : Value) : Only T0 w (w.setCell ⟨g, o, none⟩ v) := by
  intro b T cs' hT hc
  refine heap_setCell_other _ _ _ _ ?_
  rintro rfl
  rw [h] at hc
  simp at hc
  exact hT hc.2.symm
theorem Only.grown {T0 : TypeId} {w w' : World} {base size n : Nat} {v : Value} {xs : List Value} (h : w.ownsRow base T0 size v n xs) (hg : w.grownBy w' v.ownBlock) : Only T0 w w' := by
  intro b T cs hT hc
  exact hg.block b (Array.getElem?_eq_some_iff.1 hc).1 (fun e => own_ne_cells h hc hT e.symm)
theorem only_hF {T0 : TypeId} {G : Nat → Prop} {w w' : World} (h : Only T0 w w') : ∀ T b, T ≠ T0 → b < w.heap.size → Free (some G) T w b → Free (some G) T w' b := by
  intro T b hT _ hf k e
  cases e
  obtain ⟨h1, cs, h2⟩ := hf G rfl
  exact ⟨h1, cs, (h b T cs hT h2).trans h2⟩
theorem only_hC {T0 : TypeId} {G : Nat → Prop} {w w' : World} (h : Only T0 w w') : ∀ T b o v, T ≠ T0 → Free (some G) T w b → w.cell? ⟨b, o, none⟩ = some v → w'.cell? ⟨b, o, none⟩ = some v := by
  intro T b o v hT hf hc
  obtain ⟨_, cs, h2⟩ := hf G rfl
  rw [World.cell?_of_block (w := w) (h b T cs hT h2)]; exact hc
structure MoS (B qb : Nat) (wd : Int) (ch : List ByteArray) (chv : Value) (ars : List ArrD) (av : Value) (ms : List InstrD) (mv : Value) (fv : Value) (Q : List (FuncD × Value × Value)) (w : World) : Prop where
  own : w.ownsRow B 52 5 fv Q.length (Q.flatMap funCells)
  el : ∀ q ∈ Q, RdFunc (some (upFrom B)) w q.1 q.2.1 q.2.2
  chs : RdStrs (some (upFrom B)) w chv ch
  ars : RdArrs (some (upFrom B)) w av ars
  ms : RdInstrs (some (upFrom B)) w mv ms
  box : w.heap[qb]? = some (.cells #[.int .i64 wd, chv, av, fv, mv] 27 (0, 0))
section
variable {B qb : Nat} {wd : Int} {ch ch' : List ByteArray} {chv chv' : Value} {ars : List ArrD} {av : Value} {ms : List InstrD} {mv : Value} {fv fv' : Value} {Q Q' : List (FuncD × Value × Value)} {w w' : World} {T0 : TypeId}
theorem func_only (ho : Only T0 w w') (h1 : 9 ≠ T0) (h3 : 43 ≠ T0) (h4 : 46 ≠ T0) {x : FuncD} {pv cv : Value} (h : RdFunc (some (upFrom B)) w x pv cv) : RdFunc (some (upFrom B)) w' x pv cv :=
  RdFunc.map (S := fun T => T ≠ T0) (only_hF ho) (only_hC ho) h1 h3 h4 h
theorem MoS.turn (h : MoS B qb wd ch chv ars av ms mv fv Q w) (ho : Only T0 w w') (h1 : 9 ≠ T0) (h2 : 50 ≠ T0) (h3 : 43 ≠ T0) (h4 : 46 ≠ T0)
    (hown : w'.ownsRow B 52 5 fv' Q'.length (Q'.flatMap funCells)) (hel : ∀ q ∈ Q', q ∈ Q ∨ RdFunc (some (upFrom B)) w' q.1 q.2.1 q.2.2)
    (hbox : w'.heap[qb]? = some (.cells #[.int .i64 wd, chv, av, fv', mv] 27 (0, 0))) : MoS B qb wd ch chv ars av ms mv fv' Q' w' :=
  ⟨hown, fun q hq => (hel q hq).elim (fun k => func_only ho h1 h3 h4 (h.el q k)) id,
    RdStrs.map (S := fun T => T ≠ T0) (only_hF ho) (only_hC ho) h1 h.chs, RdArrs.map (S := fun T => T ≠ T0) (only_hF ho) (only_hC ho) h2 h.ars, RdInstrs.map (S := fun T => T ≠ T0) (only_hF ho) (only_hC ho) h3 h4 h.ms, hbox⟩
theorem MoS.below (h : MoS B qb wd ch chv ars av ms mv fv Q w) (hb : Below w.heap.size w w') : MoS B qb wd ch chv ars av ms mv fv Q w' :=
  ⟨own_below h.own hb, fun q hq => (h.el q hq).keep hb, h.chs.keep hb, h.ars.keep hb, h.ms.keep hb, (hb.block qb (Array.getElem?_eq_some_iff.1 h.box).1).trans h.box⟩
/-- Behind a write of the channels. -/
theorem MoS.chan (h : MoS B qb wd ch chv ars av ms mv fv Q w) (hc : RdStrs (some (upFrom B)) w chv' ch') : MoS B qb wd ch' chv' ars av ms mv fv Q (w.setCell ⟨qb, 1, none⟩ chv') := by
  have ho : Only 27 w (w.setCell ⟨qb, 1, none⟩ chv') := Only.set h.box 1 chv'
  have h1 : MoS B qb wd ch' chv' ars av ms mv fv Q w → True := fun _ => trivial
  refine ⟨ownsRow_setCell_other h.own (own_ne_cells h.own h.box (by decide)) _, fun q hq => func_only ho (by decide) (by decide) (by decide) (h.el q hq), RdStrs.map (S := fun T => T ≠ 27) (only_hF ho) (only_hC ho) (by decide) hc, RdArrs.map (S := fun T => T ≠ 27) (only_hF ho) (only_hC ho) (by decide) h.ars, RdInstrs.map (S := fun T => T ≠ 27) (only_hF ho) (only_hC ho) (by decide) (by decide) h.ms, heap_setCell_same _ _ 1 _ _ _ h.box⟩
/-- Behind a write of the functions. -/
theorem MoS.func (h : MoS B qb wd ch chv ars av ms mv fv Q w) (hown : w.ownsRow B 52 5 fv' Q'.length (Q'.flatMap funCells)) (hel : ∀ q ∈ Q', RdFunc (some (upFrom B)) w q.1 q.2.1 q.2.2) : MoS B qb wd ch chv ars av ms mv fv' Q' (w.setCell ⟨qb, 3, none⟩ fv') := by
  have ho : Only 27 w (w.setCell ⟨qb, 3, none⟩ fv') := Only.set h.box 3 fv'
  exact h.turn ho (by decide) (by decide) (by decide) (by decide) (ownsRow_setCell_other hown (own_ne_cells hown h.box (by decide)) _) (fun q hq => .inr (func_only ho (by decide) (by decide) (by decide) (hel q hq))) (heap_setCell_same _ _ 3 _ _ _ h.box)
theorem MoS.prog (h : MoS B qb wd ch chv ars av ms mv fv Q w) (hl : Q.length ≤ 1000) (hw : InI64 wd) : RdProg none w ⟨wd, ch, ars, Q.map Prod.fst, ms⟩ chv av fv mv :=
  ⟨h.chs.forget, h.ars.forget, (own_funcs (P := Q) rfl (by rw [List.length_map]; exact h.own) (by rw [List.length_map]; omega) h.el).forget, h.ms.forget, hw⟩
/-- Behind an append to the functions. -/
theorem MoS.append (h : MoS B qb wd ch chv ars av ms mv fv Q w) (hg : w.grownBy w' fv.ownBlock) (hown : w'.ownsRow B 52 5 fv' Q'.length (Q'.flatMap funCells)) (hel : ∀ q ∈ Q', q ∈ Q ∨ RdFunc (some (upFrom B)) w q.1 q.2.1 q.2.2) : MoS B qb wd ch chv ars av ms mv fv' Q' (w'.setCell ⟨qb, 3, none⟩ fv') := by
  have ho : Only 52 w w' := Only.grown h.own hg
  have hbox : w'.heap[qb]? = some (.cells #[.int .i64 wd, chv, av, fv, mv] 27 (0, 0)) := (ho qb _ _ (by decide) h.box).trans h.box
  have ho2 : Only 27 w' (w'.setCell ⟨qb, 3, none⟩ fv') := Only.set hbox 3 fv'
  refine ⟨ownsRow_setCell_other hown (own_ne_cells hown hbox (by decide)) _, fun q hq => func_only ho2 (by decide) (by decide) (by decide) (func_only ho (by decide) (by decide) (by decide) ((hel q hq).elim (h.el q) id)), ?_, ?_, ?_, heap_setCell_same _ _ 3 _ _ _ hbox⟩
  · exact RdStrs.map (S := fun T => T ≠ 27) (only_hF ho2) (only_hC ho2) (by decide) (RdStrs.map (S := fun T => T ≠ 52) (only_hF ho) (only_hC ho) (by decide) h.chs)
  · exact RdArrs.map (S := fun T => T ≠ 27) (only_hF ho2) (only_hC ho2) (by decide) (RdArrs.map (S := fun T => T ≠ 52) (only_hF ho) (only_hC ho) (by decide) h.ars)
  · exact RdInstrs.map (S := fun T => T ≠ 27) (only_hF ho2) (only_hC ho2) (by decide) (by decide) (RdInstrs.map (S := fun T => T ≠ 52) (only_hF ho) (only_hC ho) (by decide) (by decide) h.ms)
end
theorem own_cut {w : World} {base n m : Nat} {e : TypeId} {size : Nat} {a : Option Addr} {c : Nat} {xs : List Value} (h : w.ownsRow base e size (.slice a m c) m xs) (hn : n ≤ m) (hp : 0 < m) : w.ownsRow base e size (.slice a n c) n (xs.take (n * size)) := by
  obtain ⟨hl, ⟨h1, h2⟩ | ⟨g, cap, cur, h1, hg, hb, hm, hc, hs, ht⟩⟩ := h
  · omega
  · simp only [Value.slice.injEq] at h1
    obtain ⟨rfl, _, rfl⟩ := h1
    have hle : n * size ≤ m * size := Nat.mul_le_mul_right _ hn
    refine ⟨by rw [List.length_take, hl]; omega, .inr ⟨g, c, cur, rfl, hg, hb, by omega, hc, hs, ?_⟩⟩
    rw [← ht, List.take_take, Nat.min_eq_left hle]
def w5set (w : World) (g i : Nat) (q : FuncD × Value × Value) : World :=
  ((((w.setCell ⟨g, i * 5, none⟩ (.string q.1.name)).setCell ⟨g, i * 5 + 1, none⟩ q.2.1).setCell ⟨g, i * 5 + 2, none⟩ q.2.2).setCell ⟨g, i * 5 + 3, none⟩ (.int .i64 q.1.line)).setCell ⟨g, i * 5 + 4, none⟩ (.int .i64 q.1.col)
theorem own_set5 {w : World} {base g n c : Nat} {S : List (FuncD × Value × Value)} (h : w.ownsRow base 52 5 (.slice (some ⟨g, 0, none⟩) n c) n (S.flatMap funCells)) {i : Nat} (hi : i < S.length) (q : FuncD × Value × Value) : (w5set w g i q).ownsRow base 52 5 (.slice (some ⟨g, 0, none⟩) n c) n ((S.set i q).flatMap funCells) := by
  have h5 := ((((h.stored (i * 5) (.string q.1.name)).1.stored (i * 5 + 1) q.2.1).1.stored (i * 5 + 2) q.2.2).1.stored (i * 5 + 3) (.int .i64 q.1.line)).1.stored (i * 5 + 4) (.int .i64 q.1.col)
  have e := congrArg Array.toList (flat_set5 S i q hi)
  simp only [Array.toList_setIfInBounds] at e
  rw [← e]
  exact h5.1
theorem only_set5 {w : World} {g : Nat} {cs : Array Value} (h : w.heap[g]? = some (.cells cs 52 (0, 0))) (i : Nat) (q : FuncD × Value × Value) : Only 52 w (w5set w g i q) := by
  have h1 := heap_setCell_same _ _ (i * 5) _ _ (.string q.1.name) h
  have h2 := heap_setCell_same _ _ (i * 5 + 1) _ _ q.2.1 h1
  have h3 := heap_setCell_same _ _ (i * 5 + 2) _ _ q.2.2 h2
  have h4 := heap_setCell_same _ _ (i * 5 + 3) _ _ (.int .i64 q.1.line) h3
  exact ((((Only.set h _ _).trans (Only.set h1 _ _)).trans (Only.set h2 _ _)).trans (Only.set h3 _ _)).trans (Only.set h4 _ _)
theorem MoS.set5 {B qb : Nat} {wd : Int} {ch : List ByteArray} {chv : Value} {ars : List ArrD} {av : Value} {ms : List InstrD} {mv : Value} {g m c : Nat} {S : List (FuncD × Value × Value)} {w : World} (h : MoS B qb wd ch chv ars av ms mv (.slice (some ⟨g, 0, none⟩) m c) S w) (hm : S.length = m) {i : Nat} (hi : i < S.length) {q : FuncD × Value × Value} (hq : RdFunc (some (upFrom B)) w q.1 q.2.1 q.2.2) :
    MoS B qb wd ch chv ars av ms mv (.slice (some ⟨g, 0, none⟩) m c) (S.set i q) (w5set w g i q) ∧ Only 52 w (w5set w g i q) := by
  have hown := h.own
  rw [hm] at hown
  obtain ⟨_, ⟨e, _⟩ | ⟨g', cap, cur, e, _, hb, _⟩⟩ := id hown
  · cases e
  · simp only [Value.slice.injEq, Option.some.injEq, Addr.mk.injEq, and_true, true_and] at e
    obtain ⟨rfl, rfl⟩ := e
    have ho := only_set5 hb i q
    refine ⟨h.turn ho (by decide) (by decide) (by decide) (by decide) ?_ (fun q' hq' => ?_) ((ho qb _ _ (by decide) h.box).trans h.box), ho⟩
    · rw [List.length_set, hm]
      exact own_set5 hown hi q
    · rcases List.mem_or_eq_of_mem_set hq' with k | rfl
      · exact .inl k
      · exact .inr (func_only ho (by decide) (by decide) (by decide) hq)
theorem below_set5 {base : Nat} {W w : World} (h : Below base W w) {g : Nat} (hg : base ≤ g) (i : Nat) (q : FuncD × Value × Value) : Below base W (w5set w g i q) :=
  ((((h.setCell hg _).setCell hg _).setCell hg _).setCell hg _).setCell hg _
theorem set5_other {w : World} {g i k : Nat} {q : FuncD × Value × Value} (h : k ≠ g) : (w5set w g i q).heap[k]? = w.heap[k]? :=
  ((((heap_setCell_other _ ⟨g, i * 5 + 4, none⟩ k _ h).trans (heap_setCell_other _ ⟨g, i * 5 + 3, none⟩ k _ h)).trans (heap_setCell_other _ ⟨g, i * 5 + 2, none⟩ k _ h)).trans (heap_setCell_other _ ⟨g, i * 5 + 1, none⟩ k _ h)).trans (heap_setCell_other _ ⟨g, i * 5, none⟩ k _ h)
theorem swap_at {α : Type} {R S : List α} {m i j : Nat} {qi qj : α} (hl : S.length = m) (hi : i < m / 2) (hj : m - 1 - i = j) (h : ∀ k, k < m → S[k]? = if k < i ∨ m - i ≤ k then R[m - 1 - k]? else R[k]?) (h1 : S[i]? = some qi) (h2 : S[j]? = some qj) :
    ∀ k, k < m → ((S.set i qj).set j qi)[k]? = if k < i + 1 ∨ m - (i + 1) ≤ k then R[m - 1 - k]? else R[k]? := by
  intro k hk
  have k1 := h i (by omega)
  have k2 := h j (by omega)
  rw [h1, if_neg (by omega)] at k1
  rw [h2, if_neg (by omega)] at k2
  rw [List.getElem?_set, List.getElem?_set, List.length_set, hl]
  by_cases e1 : j = k
  · rw [if_pos e1, if_pos (by omega), if_pos (by omega), k1, show m - 1 - k = i by omega]
  · rw [if_neg e1]
    by_cases e2 : i = k
    · rw [if_pos e2, if_pos (by omega), if_pos (by omega), k2, show m - 1 - k = j by omega]
    · rw [if_neg e2, h k hk]
      by_cases h3 : k < i ∨ m - i ≤ k
      · rw [if_pos h3, if_pos (by omega)]
      · rw [if_neg h3, if_neg (by omega)]
theorem own_blk5 {w : World} {base g n c : Nat} {xs : List Value} (h : w.ownsRow base 52 5 (.slice (some ⟨g, 0, none⟩) n c) n xs) : base ≤ g ∧ ∃ cur, w.heap[g]? = some (.cells cur 52 (0, 0)) := by
  obtain ⟨_, ⟨e, _⟩ | ⟨g', cap, cur, e, hg, hb, _⟩⟩ := h
  · cases e
  · simp only [Value.slice.injEq, Option.some.injEq, Addr.mk.injEq, and_true, true_and] at e
    obtain ⟨rfl, rfl⟩ := e
    exact ⟨hg, cur, hb⟩
theorem MoS.ne {B qb : Nat} {wd : Int} {ch : List ByteArray} {chv : Value} {ars : List ArrD} {av : Value} {ms : List InstrD} {mv fv : Value} {S : List (FuncD × Value × Value)} {w : World} (h : MoS B qb wd ch chv ars av ms mv fv S w) {g : Nat} {cur : Array Value} (hg : w.heap[g]? = some (.cells cur 52 (0, 0))) : qb ≠ g := by
  rintro rfl
  have h1 := h.box
  rw [hg] at h1
  simp at h1
theorem keepB_goal {w w' : World} {b : Nat} {K : Prop} (h : w'.heap[b]? = w.heap[b]?) (k : K) : (∃ x, w' = keepB w b x) ∧ K := ⟨⟨_, keepB_of h⟩, k⟩
/-- Two elements of a row change places. -/
theorem MoS.swap {B qb : Nat} {wd : Int} {ch : List ByteArray} {chv : Value} {ars : List ArrD} {av : Value} {ms : List InstrD} {mv : Value} {g m c : Nat} {S : List (FuncD × Value × Value)} {w : World} (h : MoS B qb wd ch chv ars av ms mv (.slice (some ⟨g, 0, none⟩) m c) S w) (hm : S.length = m) {i j : Nat} {qi qj : FuncD × Value × Value} (hi : S[i]? = some qi) (hj : S[j]? = some qj) :
    MoS B qb wd ch chv ars av ms mv (.slice (some ⟨g, 0, none⟩) m c) ((S.set i qj).set j qi) (w5set (w5set w g i qj) g j qi) := by
  obtain ⟨h1, ho⟩ := h.set5 hm (List.getElem?_eq_some_iff.1 hi).1 (h.el qj (List.mem_of_getElem? hj))
  exact (h1.set5 (by rw [List.length_set]; exact hm) (by rw [List.length_set]; exact (List.getElem?_eq_some_iff.1 hj).1) (func_only ho (by decide) (by decide) (by decide) (h.el qi (List.mem_of_getElem? hi)))).1
theorem swap_world {B qb : Nat} {wd : Int} {ch : List ByteArray} {chv : Value} {ars : List ArrD} {av : Value} {ms : List InstrD} {mv : Value} {g m c : Nat} {S : List (FuncD × Value × Value)} {w W4 : World} (h : MoS B qb wd ch chv ars av ms mv (.slice (some ⟨g, 0, none⟩) m c) S w) (hm : S.length = m) {i j : Nat} {fi fj : FuncD} {pvi cvi pvj cvj : Value} (hi : S[i]? = some (fi, pvi, cvi)) (hj : S[j]? = some (fj, pvj, cvj)) (hb : Below B W4 w) (hg : B ≤ g) (hne : qb ≠ g) :
    MoS B qb wd ch chv ars av ms mv (.slice (some ⟨g, 0, none⟩) m c) ((S.set i (fj, pvj, cvj)).set j (fi, pvi, cvi)) ((((((((((w.setCell ⟨g, i * 5, none⟩ (.string fj.name)).setCell ⟨g, i * 5 + 1, none⟩ pvj).setCell ⟨g, i * 5 + 2, none⟩ cvj).setCell ⟨g, i * 5 + 3, none⟩ (.int .i64 fj.line)).setCell ⟨g, i * 5 + 4, none⟩ (.int .i64 fj.col)).setCell ⟨g, j * 5, none⟩ (.string fi.name)).setCell ⟨g, j * 5 + 1, none⟩ pvi).setCell ⟨g, j * 5 + 2, none⟩ cvi).setCell ⟨g, j * 5 + 3, none⟩ (.int .i64 fi.line)).setCell ⟨g, j * 5 + 4, none⟩ (.int .i64 fi.col)).drew ∧ Below B W4 ((((((((((w.setCell ⟨g, i * 5, none⟩ (.string fj.name)).setCell ⟨g, i * 5 + 1, none⟩ pvj).setCell ⟨g, i * 5 + 2, none⟩ cvj).setCell ⟨g, i * 5 + 3, none⟩ (.int .i64 fj.line)).setCell ⟨g, i * 5 + 4, none⟩ (.int .i64 fj.col)).setCell ⟨g, j * 5, none⟩ (.string fi.name)).setCell ⟨g, j * 5 + 1, none⟩ pvi).setCell ⟨g, j * 5 + 2, none⟩ cvi).setCell ⟨g, j * 5 + 3, none⟩ (.int .i64 fi.line)).setCell ⟨g, j * 5 + 4, none⟩ (.int .i64 fi.col)).drew ∧ (((((w.setCell ⟨g, i * 5, none⟩ (.string fj.name)).setCell ⟨g, i * 5 + 1, none⟩ pvj).setCell ⟨g, i * 5 + 2, none⟩ cvj).setCell ⟨g, i * 5 + 3, none⟩ (.int .i64 fj.line)).setCell ⟨g, i * 5 + 4, none⟩ (.int .i64 fj.col)).drew.heap[qb]? = w.heap[qb]? ∧ ((((((((((w.setCell ⟨g, i * 5, none⟩ (.string fj.name)).setCell ⟨g, i * 5 + 1, none⟩ pvj).setCell ⟨g, i * 5 + 2, none⟩ cvj).setCell ⟨g, i * 5 + 3, none⟩ (.int .i64 fj.line)).setCell ⟨g, i * 5 + 4, none⟩ (.int .i64 fj.col)).setCell ⟨g, j * 5, none⟩ (.string fi.name)).setCell ⟨g, j * 5 + 1, none⟩ pvi).setCell ⟨g, j * 5 + 2, none⟩ cvi).setCell ⟨g, j * 5 + 3, none⟩ (.int .i64 fi.line)).setCell ⟨g, j * 5 + 4, none⟩ (.int .i64 fi.col)).drew.heap[qb]? = w.heap[qb]? := by
  have h1 : (((((w.setCell ⟨g, i * 5, none⟩ (.string fj.name)).setCell ⟨g, i * 5 + 1, none⟩ pvj).setCell ⟨g, i * 5 + 2, none⟩ cvj).setCell ⟨g, i * 5 + 3, none⟩ (.int .i64 fj.line)).setCell ⟨g, i * 5 + 4, none⟩ (.int .i64 fj.col)) = w5set w g i (fj, pvj, cvj) := rfl
  rw [h1]
  have h2 : ((((((w5set w g i (fj, pvj, cvj)).setCell ⟨g, j * 5, none⟩ (.string fi.name)).setCell ⟨g, j * 5 + 1, none⟩ pvi).setCell ⟨g, j * 5 + 2, none⟩ cvi).setCell ⟨g, j * 5 + 3, none⟩ (.int .i64 fi.line)).setCell ⟨g, j * 5 + 4, none⟩ (.int .i64 fi.col)) = w5set (w5set w g i (fj, pvj, cvj)) g j (fi, pvi, cvi) := rfl
  rw [h2]
  have h3 : ∀ X : World, X.drew.heap = X.heap := fun _ => rfl
  refine ⟨(h.swap hm hi hj).below (Below.refl _ _).drew, (below_set5 (below_set5 hb hg _ _) hg _ _).drew, ?_, ?_⟩
  · rw [h3]; exact set5_other hne
  · rw [h3]; exact (set5_other hne).trans (set5_other hne)
/-- What a slice of instructions reads as, with the values of their operands. -/
theorem rd_pairs {lo : Option (Nat → Prop)} {w : World} {b o n c : Nat} {l : List InstrD} (h : RdInstrs lo w (.slice (some ⟨b, o, none⟩) n c) l) :
    ∃ Ps : List (InstrD × Value), Ps.map Prod.fst = l ∧ (∀ j u, (Ps.flatMap insCells)[j]? = some u → w.cell? ⟨b, o + j, none⟩ = some u) ∧ ∀ p ∈ Ps, RdInstr lo w p.1 p.2 := by
  obtain ⟨a', c', e, _, hr⟩ := h
  simp only [Value.slice.injEq] at e
  obtain ⟨rfl, _, _⟩ := e
  have hch : ∀ i, ∃ av, ∀ s, l[i]? = some s → (∀ r u, (insCells (s, av))[r]? = some u → w.cell? ⟨b, o + (i * 7 + r), none⟩ = some u) ∧ RdInstr lo w s av := by
    intro i
    cases hl : l[i]? with
    | none => exact ⟨.bool true, fun s hs => by cases hs⟩
    | some s =>
      obtain ⟨b', o', av, e, _, c0, c1, c2, c3, c4, c5, c6, hri⟩ := hr i s hl
      simp only [Option.some.injEq, Addr.mk.injEq, and_true] at e
      obtain ⟨rfl, rfl⟩ := e
      refine ⟨av, fun s' hs => ?_⟩
      cases hs
      refine ⟨fun r u hu => ?_, hri⟩
      have hr7 : r < 7 := (List.getElem?_eq_some_iff.1 hu).1
      rw [← Nat.add_assoc]
      match r, hr7 with
      | 0, _ => cases hu; exact c0
      | 1, _ => cases hu; exact c1
      | 2, _ => cases hu; exact c2
      | 3, _ => cases hu; exact c3
      | 4, _ => cases hu; exact c4
      | 5, _ => cases hu; exact c5
      | 6, _ => cases hu; exact c6
  obtain ⟨f, hf⟩ := Classical.axiomOfChoice hch
  have hget : ∀ i, (l.mapIdx fun i s => (s, f i))[i]? = (l[i]?).map fun s => (s, f i) := fun i => by rw [List.getElem?_mapIdx]
  refine ⟨l.mapIdx fun i s => (s, f i), ?_, fun j u hu => ?_, fun p hp => ?_⟩
  · apply List.ext_getElem?
    intro i
    rw [List.getElem?_map, hget, Option.map_map]
    cases l[i]? <;> rfl
  · have hlen : (l.mapIdx fun i s => (s, f i)).length = l.length := List.length_mapIdx
    have hj := (List.getElem?_eq_some_iff.1 hu).1
    rw [flat_length insCells 7 (fun _ => rfl), hlen] at hj
    obtain ⟨s, hs⟩ : ∃ s, l[j / 7]? = some s := ⟨_, List.getElem?_eq_getElem (by omega)⟩
    have h1 : (l.mapIdx fun i s => (s, f i))[j / 7]? = some (s, f (j / 7)) := by rw [hget, hs]; rfl
    have h2 := flat_get insCells 7 (fun _ => rfl) _ (j / 7) (j % 7) _ h1 (by omega)
    have e : j / 7 * 7 + j % 7 = j := by omega
    rw [e] at h2
    rw [h2] at hu
    have h3 := (hf (j / 7) s hs).1 (j % 7) u hu
    rwa [e] at h3
  · obtain ⟨i, hi⟩ := List.mem_iff_getElem?.1 hp
    rw [hget] at hi
    obtain ⟨s, hs, rfl⟩ := Option.map_eq_some_iff.1 hi
    exact (hf i s hs).2
theorem ins_one {lo : Option (Nat → Prop)} {w : World} {p : InstrD × Value} (h : RdInstr lo w p.1 p.2) : ∀ u ∈ insCells p, u.oneCell' = true := by
  obtain ⟨x, av⟩ := p
  dsimp only at h
  obtain ⟨a, c, rfl, _⟩ := h.1
  intro u hu
  simp [insCells] at hu
  rcases hu with rfl | rfl | rfl | rfl | rfl | rfl | rfl <;> rfl
theorem flat_takeI {Ps : List (InstrD × Value)} {k j : Nat} {u : Value} (h : ((Ps.take k).flatMap insCells)[j]? = some u) : (Ps.flatMap insCells)[j]? = some u := by
  have e : Ps.flatMap insCells = (Ps.take k).flatMap insCells ++ (Ps.drop k).flatMap insCells := by rw [← List.flatMap_append, List.take_append_drop]
  rw [e, List.getElem?_append_left (List.getElem?_eq_some_iff.1 h).1]
  exact h
theorem flat_dropI {Ps : List (InstrD × Value)} {k j : Nat} {u : Value} (hk : k ≤ Ps.length) (h : ((Ps.drop k).flatMap insCells)[j]? = some u) : (Ps.flatMap insCells)[k * 7 + j]? = some u := by
  have e : Ps.flatMap insCells = (Ps.take k).flatMap insCells ++ (Ps.drop k).flatMap insCells := by rw [← List.flatMap_append, List.take_append_drop]
  have hl : ((Ps.take k).flatMap insCells).length = k * 7 := by rw [flat_length insCells 7 (fun _ => rfl), List.length_take, Nat.min_eq_left hk]
  rw [e, List.getElem?_append_right (by rw [hl]; omega), hl, Nat.add_sub_cancel_left]
  exact h
/-- A slice cut at its front, all of whose rest is left out. -/
theorem rd_front {lo : Option (Nat → Prop)} {w : World} {b n c k : Nat} {l : List InstrD} (h : RdInstrs lo w (.slice (some ⟨b, 0, none⟩) n c) l) (hn : l.length = n) (hk : k + 1 = n) : RdInstrs lo w (.slice (some ⟨b, 0, none⟩) k k) (l.take k ++ l.drop (k + 1)) := by
  have e : l.take k ++ l.drop (k + 1) = l.take k := by rw [List.drop_eq_nil_of_le (by omega), List.append_nil]
  rw [e]
  obtain ⟨a', c', e', hl, hr⟩ := h
  simp only [Value.slice.injEq] at e'
  obtain ⟨rfl, _, rfl⟩ := e'
  have hlt : (l.take k).length = k := by rw [List.length_take]; omega
  refine ⟨_, k, by rw [hlt], ⟨by rw [hlt]; omega, by rw [hlt]; exact Nat.le_refl _⟩, fun i s hs => hr i s ?_⟩
  rw [List.getElem?_take] at hs
  split at hs
  · exact hs
  · cases hs
theorem prog_only {T0 : TypeId} {w w' : World} {G1 G2 G3 G4 : Nat → Prop} (ho : Only T0 w w') (h1 : 9 ≠ T0) (h2 : 50 ≠ T0) (h3 : 43 ≠ T0) (h4 : 46 ≠ T0) (h5 : 52 ≠ T0) {wd : Int} {ch : List ByteArray} {ars : List ArrD} {fs : List FuncD} {ms : List InstrD} {cv av fv mv : Value}
    (r1 : RdStrs (some G1) w cv ch) (r2 : RdArrs (some G2) w av ars) (r3 : RdFuncs (some G3) w fv fs) (r4 : RdInstrs (some G4) w mv ms) (hw : InI64 wd) : RdProg none w' ⟨wd, ch, ars, fs, ms⟩ cv av fv mv :=
  ⟨(RdStrs.map (S := fun T => T ≠ T0) (only_hF ho) (only_hC ho) h1 r1).forget, (RdArrs.map (S := fun T => T ≠ T0) (only_hF ho) (only_hC ho) h2 r2).forget, (RdFuncs.map (S := fun T => T ≠ T0) (only_hF ho) (only_hC ho) h5 h1 h3 h4 r3).forget, (RdInstrs.map (S := fun T => T ≠ T0) (only_hF ho) (only_hC ho) h3 h4 r4).forget, hw⟩
/-- The elements of a row that is owned and reads as a list of functions. -/
theorem own_elems {lo : Option (Nat → Prop)} {w : World} {base n : Nat} {v : Value} {l : List FuncD} {Q : List (FuncD × Value × Value)} (h : RdFuncs lo w v l) (hown : w.ownsRow base 52 5 v n (Q.flatMap funCells)) (hQ : Q.map Prod.fst = l) : ∀ q ∈ Q, RdFunc lo w q.1 q.2.1 q.2.2 := by
  intro q hq
  obtain ⟨i, hi⟩ := List.mem_iff_getElem?.1 hq
  have hl : l[i]? = some q.1 := by rw [← hQ, List.getElem?_map, hi]; rfl
  obtain ⟨a, c, rfl, _, hr⟩ := h
  obtain ⟨b, o, pv, cv, rfl, _, _, c1, c2, _, _, hf⟩ := hr i _ hl
  obtain ⟨a', c', e, hc⟩ := own_read hown
  simp only [Value.slice.injEq] at e
  obtain ⟨rfl, _, _⟩ := e
  have g1 := flat_get funCells 5 (fun _ => rfl) Q i 1 q hi (by omega)
  have g2 := flat_get funCells 5 (fun _ => rfl) Q i 2 q hi (by omega)
  obtain ⟨g, e1, _, k1⟩ := hc _ _ (g1.trans (show (funCells q)[1]? = some q.2.1 from rfl))
  obtain ⟨g', e2, _, k2⟩ := hc _ _ (g2.trans (show (funCells q)[2]? = some q.2.2 from rfl))
  simp only [Option.some.injEq, Addr.mk.injEq] at e1 e2
  obtain ⟨rfl, rfl, _⟩ := e1
  obtain ⟨rfl, _, _⟩ := e2
  rw [show 0 + (i * 5 + 1) = 0 + i * 5 + 1 by omega] at k1
  rw [show 0 + (i * 5 + 2) = 0 + i * 5 + 2 by omega] at k2
  rw [k1] at c1; rw [k2] at c2
  cases c1; cases c2
  exact hf
end Go.Proofs.YtjdbdoeopobciaaDoor
