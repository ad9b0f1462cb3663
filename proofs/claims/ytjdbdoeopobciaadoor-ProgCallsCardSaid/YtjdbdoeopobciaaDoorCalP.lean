/- What the check answers for a chain of functions that call the next one, and for three programs made of it. Plain. -/
import Derived.Test.YtjdbdoeopobciaaDoorEva
set_option linter.unusedVariables false
set_option linter.unusedSimpArgs false
namespace Go.Proofs.YtjdbdoeopobciaaDoor
def cName (i : Nat) : ByteArray := bs [102, UInt8.ofNat (97 + i)]
def callI (i : Nat) : InstrD := ins 4 0 (bs [120]) (cName (i + 1)) [] (50 + (i : Int)) 3
def fnD (n i : Nat) : FuncD := ⟨cName i, [], if i + 1 < n then [callI i] else [], (i : Int) + 2, 1⟩
def chainL (n : Nat) : List FuncD := (List.range n).map (fnD n)
def chainD (n : Nat) : ProgD := ⟨8, [], [], chainL n, []⟩
def callT (tt : Nat) : InstrD := ins 4 0 (bs [121]) (cName tt) [] 99 1
def moreT (tt : Nat) : InstrD := ins 4 0 (bs [121]) (cName tt) [⟨bs [], 1⟩] 99 1
def iNone : InstrD := ins 4 0 (bs [121]) (bs [103]) [] 98 2
def lastD (n tt : Nat) : FuncD := ⟨cName (n - 1), [], [callT tt], ((n - 1 : Nat) : Int) + 2, 1⟩
def loopL (n tt : Nat) : List FuncD := (chainL n).set (n - 1) (lastD n tt)
def loopD (n tt : Nat) : ProgD := ⟨8, [], [], loopL n tt, []⟩
def noneD (n : Nat) : ProgD := ⟨8, [], [], chainL n, [iNone]⟩
def callsFormD (n tt : Nat) : ProgD := ⟨8, [], [], chainL n, [callT tt, moreT tt]⟩
set_option maxRecDepth 100000
theorem ckA_chain : ((List.range 21).all fun n => (checkA (chainD n)).isNone) = true := by kernel_rfl
theorem ckA_loop : ((List.range 21).all fun n => (List.range n).all fun t => (checkA (loopD n t)).isNone) = true := by kernel_rfl
theorem ckA_none : ((List.range 21).all fun n => decide (checkA (noneD n) = some ⟨98, 2, 6⟩)) = true := by kernel_rfl
theorem ckA_form : ((List.range 21).all fun n => (List.range n).all fun t => decide (checkA (callsFormD n t) = some ⟨99, 1, 4⟩)) = true := by kernel_rfl
theorem cName_inj {i j : Nat} (hi : i < 100) (hj : j < 100) (h : cName i = cName j) : i = j := by
  have e := congrArg (fun b : ByteArray => b.data[1]?) h
  simp [cName, bs] at e
  have := congrArg UInt8.toNat e
  simp at this
  omega
theorem find_at {l : List FuncD} {k : Nat} {f : FuncD} (h : l[k]? = some f) (hd : ∀ i g, l[i]? = some g → g.name = f.name → i = k) : l.find? (fun g => decide (g.name = f.name)) = some f := by
  have hk : k < l.length := (List.getElem?_eq_some_iff.1 h).1
  rw [List.find?_eq_some_iff_getElem]
  refine ⟨by simp, k, hk, (List.getElem?_eq_some_iff.1 h).2, fun j hj => ?_⟩
  have := hd j l[j] (List.getElem?_eq_getElem (by omega))
  simp only [Bool.not_eq_true', decide_eq_false_iff_not]
  intro e
  have := this e
  omega
theorem firstF_at {α : Type} {f : List α → α → Option FaultD} {l : List α} {k : Nat} {x : α} {F : FaultD} (h : l[k]? = some x) (hf : ∀ d, f d x = some F) (hn : ∀ i y, l[i]? = some y → i < k → ∀ d, f d y = none) : firstF f [] l = some F := by
  have hk : k < l.length := (List.getElem?_eq_some_iff.1 h).1
  have e : l = l.take k ++ x :: l.drop (k + 1) := by
    rw [← (List.getElem?_eq_some_iff.1 h).2, List.getElem_cons_drop, List.take_append_drop]
  rw [e, firstF_append]
  have h1 : firstF f [] (l.take k) = none := by
    refine (firstF_none f _ _).2 (fun p y r he => ?_)
    have : (l.take k)[p.length]? = some y := by rw [he]; simp
    rw [List.getElem?_take] at this
    split at this
    · exact hn _ _ this (by assumption) _
    · cases this
  rw [h1, Option.none_or, firstF, hf]
  rfl
theorem chain_get {n i : Nat} {f : FuncD} : (chainL n)[i]? = some f ↔ i < n ∧ f = fnD n i := by
  unfold chainL
  rw [List.getElem?_map]
  by_cases h : i < n
  · rw [List.getElem?_range h]; simp [h, eq_comm]
  · rw [List.getElem?_eq_none (by simp; omega)]; simp [h]
theorem loop_get {n tt i : Nat} {f : FuncD} (hn : 0 < n) : (loopL n tt)[i]? = some f ↔ i < n ∧ f = (if i = n - 1 then lastD n tt else fnD n i) := by
  unfold loopL
  have hl : (chainL n).length = n := by simp [chainL]
  by_cases h : i = n - 1
  · subst h
    rw [List.getElem?_set_self (by rw [hl]; omega), if_pos rfl]
    simp [eq_comm]; omega
  · rw [List.getElem?_set_ne (by omega), chain_get, if_neg h]
theorem mem_callsOf {b : ByteArray} {l : List InstrD} : b ∈ callsOf l ↔ ∃ x ∈ l, x.kind = 4 ∧ x.name = b := by
  simp [callsOf, and_assoc]
theorem chain_calls {n i : Nat} {b : ByteArray} (hn : n ≤ 20) (hi : i < 100) (h : CallsN (chainL n) (cName i) b) : b = cName (i + 1) ∧ i + 1 < n := by
  obtain ⟨f, hf, hb⟩ := h
  have hm := List.mem_of_find?_eq_some hf
  have hnm := List.find?_some hf
  simp only [decide_eq_true_eq] at hnm
  obtain ⟨k, hk⟩ := List.mem_iff_getElem?.1 hm
  obtain ⟨h1, rfl⟩ := chain_get.1 hk
  have : k = i := cName_inj (by omega) hi hnm
  subst this
  obtain ⟨x, hx, _, rfl⟩ := mem_callsOf.1 hb
  by_cases hl : k + 1 < n
  · simp [fnD, hl] at hx
    subst hx
    exact ⟨rfl, hl⟩
  · simp [fnD, hl] at hx
theorem chain_reach {n i : Nat} {b : ByteArray} (hn : n ≤ 20) (hi : i < n) (h : Reach (chainL n) (cName i) b) : ∃ j, b = cName j ∧ i < j ∧ j < n := by
  induction h with
  | one h => obtain ⟨rfl, h2⟩ := chain_calls hn (by omega) h; exact ⟨i + 1, rfl, by omega, h2⟩
  | more _ h ih =>
    obtain ⟨j, rfl, h1, h2⟩ := ih
    obtain ⟨rfl, h3⟩ := chain_calls hn (by omega) h
    exact ⟨j + 1, rfl, by omega, h3⟩
theorem ck_chain {n : Nat} (hn : n ≤ 20) : checkF (chainD n) = none := by
  have h0 : checkA (chainD n) = none := by simpa using List.all_eq_true.1 ckA_chain n (by simp; omega)
  rw [check_split, h0, Option.none_or]
  refine (firstF_none _ _ _).2 (fun p f r he => ?_)
  have hg : (chainL n)[p.length]? = some f := by
    have : (chainD n).funcs = chainL n := rfl
    rw [← this, he]; simp
  obtain ⟨h1, rfl⟩ := chain_get.1 hg
  have : loopB (chainD n).funcs (fnD n p.length).name = false := by
    unfold loopB
    simp only [decide_eq_false_iff_not]
    intro hr
    obtain ⟨j, e, h2, h3⟩ := chain_reach hn h1 hr
    have := cName_inj (by omega) (by omega) e
    omega
  simp [this, needF]
theorem loop_calls {n tt i : Nat} {b : ByteArray} (hn : 0 < n) (hn2 : n ≤ 20) (hi : i < 100) (h : CallsN (loopL n tt) (cName i) b) : i < n ∧ ((i + 1 < n ∧ b = cName (i + 1)) ∨ (i + 1 = n ∧ b = cName tt)) := by
  obtain ⟨f, hf, hb⟩ := h
  have hm := List.mem_of_find?_eq_some hf
  have hnm := List.find?_some hf
  simp only [decide_eq_true_eq] at hnm
  obtain ⟨k, hk⟩ := List.mem_iff_getElem?.1 hm
  obtain ⟨h1, rfl⟩ := (loop_get hn).1 hk
  have : k = i := by
    refine cName_inj (by omega) hi ?_
    by_cases h : k = n - 1
    · subst h; simpa [lastD] using hnm
    · simpa [h, fnD] using hnm
  subst this
  refine ⟨h1, ?_⟩
  obtain ⟨x, hx, _, rfl⟩ := mem_callsOf.1 hb
  by_cases h : k = n - 1
  · simp [h, lastD] at hx
    subst hx
    exact .inr ⟨by omega, rfl⟩
  · have hl : k + 1 < n := by omega
    simp [h, fnD, hl] at hx
    subst hx
    exact .inl ⟨hl, rfl⟩
theorem loop_reach {n tt i : Nat} {b : ByteArray} (hn : 0 < n) (hn2 : n ≤ 20) (ht : tt < n) (hi : i < tt) (h : Reach (loopL n tt) (cName i) b) : ∃ j, b = cName j ∧ i < j ∧ j < n := by
  induction h with
  | one h =>
    obtain ⟨_, ⟨h2, rfl⟩ | ⟨h2, rfl⟩⟩ := loop_calls hn hn2 (by omega) h
    · exact ⟨i + 1, rfl, by omega, h2⟩
    · omega
  | more _ h ih =>
    obtain ⟨j, rfl, h1, h2⟩ := ih
    obtain ⟨_, ⟨h3, rfl⟩ | ⟨h3, rfl⟩⟩ := loop_calls hn hn2 (by omega) h
    · exact ⟨j + 1, rfl, by omega, h3⟩
    · exact ⟨tt, rfl, hi, ht⟩
theorem loop_find {n tt k : Nat} (hn : 0 < n) (hn2 : n ≤ 20) (hk : k < n) : (loopL n tt).find? (fun f => decide (f.name = cName k)) = some (if k = n - 1 then lastD n tt else fnD n k) := by
  have hname : (if k = n - 1 then lastD n tt else fnD n k).name = cName k := by
    by_cases h : k = n - 1
    · rw [if_pos h, h]; rfl
    · rw [if_neg h]; rfl
  have := find_at (l := loopL n tt) (k := k) ((loop_get hn).2 ⟨hk, rfl⟩) (fun i g hg e => by
    obtain ⟨h1, rfl⟩ := (loop_get hn).1 hg
    rw [hname] at e
    refine cName_inj (by omega) (by omega) (Eq.trans ?_ e)
    by_cases h : i = n - 1
    · rw [if_pos h, h]; rfl
    · rw [if_neg h]; rfl)
  rw [hname] at this
  exact this
theorem loop_next {n tt k : Nat} (hn : 0 < n) (hn2 : n ≤ 20) (hk : k + 1 < n) : CallsN (loopL n tt) (cName k) (cName (k + 1)) :=
  ⟨_, loop_find hn hn2 (by omega), mem_callsOf.2 (by rw [if_neg (by omega)]; exact ⟨callI k, by simp [fnD, hk], rfl, rfl⟩)⟩
theorem loop_back {n tt : Nat} (hn : 0 < n) (hn2 : n ≤ 20) : CallsN (loopL n tt) (cName (n - 1)) (cName tt) :=
  ⟨_, loop_find hn hn2 (by omega), mem_callsOf.2 (by rw [if_pos rfl]; exact ⟨callT tt, by simp [lastD], rfl, rfl⟩)⟩
theorem loop_up {n tt : Nat} (hn : 0 < n) (hn2 : n ≤ 20) : ∀ k, tt < k → k < n → Reach (loopL n tt) (cName tt) (cName k)
  | 0, h, _ => by omega
  | k + 1, h, hk => by
    by_cases e : tt = k
    · subst e; exact .one (loop_next hn hn2 hk)
    · exact .more (loop_up hn hn2 k (by omega) (by omega)) (loop_next hn hn2 hk)
theorem ck_loop {n tt : Nat} (hn : n ≤ 20) (ht : tt < n) : checkF (loopD n tt) = some ⟨(tt : Int) + 2, 1, 9⟩ := by
  have h0 : checkA (loopD n tt) = none := by
    have := List.all_eq_true.1 ckA_loop n (by simp; omega)
    simpa using List.all_eq_true.1 this tt (by simpa using ht)
  rw [check_split, h0, Option.none_or]
  refine firstF_at (k := tt) ((loop_get (by omega)).2 ⟨ht, rfl⟩) (fun d => ?_) (fun i y hy hi d => ?_)
  · have hr : Reach (loopL n tt) (cName tt) (cName tt) := by
      by_cases e : tt = n - 1
      · have := loop_back (tt := tt) (by omega) hn
        rw [← e] at this
        exact .one this
      · exact .more (loop_up (by omega) hn (n - 1) (by omega) (by omega)) (loop_back (by omega) hn)
    have hlb : loopB (loopD n tt).funcs (cName tt) = true := by
      unfold loopB
      simp only [decide_eq_true_eq]
      exact hr
    by_cases h : tt = n - 1
    · rw [if_pos h]
      have e : (lastD n tt).name = cName tt := by rw [h]; rfl
      rw [e, hlb]
      simp [needF, lastD, ← h]
    · rw [if_neg h]
      have e : (fnD n tt).name = cName tt := rfl
      rw [e, hlb]
      simp [needF, fnD]
  · obtain ⟨h1, rfl⟩ := (loop_get (by omega)).1 hy
    rw [if_neg (by omega)]
    have : loopB (loopD n tt).funcs (fnD n i).name = false := by
      unfold loopB
      simp only [decide_eq_false_iff_not]
      intro hr
      obtain ⟨j, e, h2, h3⟩ := loop_reach (by omega) hn ht hi hr
      have := cName_inj (by omega) (by omega) e
      omega
    simp [this, needF]
theorem ck_none {n : Nat} (hn : n ≤ 20) : checkF (noneD n) = some ⟨98, 2, 6⟩ := by
  have h0 : checkA (noneD n) = some ⟨98, 2, 6⟩ := by simpa using List.all_eq_true.1 ckA_none n (by simp; omega)
  rw [check_split, h0]; rfl
theorem ck_form {n tt : Nat} (hn : n ≤ 20) (ht : tt < n) : checkF (callsFormD n tt) = some ⟨99, 1, 4⟩ := by
  have h0 : checkA (callsFormD n tt) = some ⟨99, 1, 4⟩ := by
    have := List.all_eq_true.1 ckA_form n (by simp; omega)
    simpa using List.all_eq_true.1 this tt (by simpa using ht)
  rw [check_split, h0]; rfl
end Go.Proofs.YtjdbdoeopobciaaDoor
