/- The sites that there may be: the program's list cut at 32, against the list so far. Plain. The reference's check of declarations, arrays, functions and main is the check in order. Plain. -/
import Derived.Test.YtjdbdoeopobciaaDoorRefD
set_option linter.unnecessarySimpa false
set_option linter.unusedVariables false
set_option linter.unusedSimpArgs false
namespace Go.Proofs.YtjdbdoeopobciaaDoor
theorem putL_prefix (s : ByteArray) (l : List ByteArray) : ∃ r, putL s l = l ++ r := by
  unfold putL
  split
  · exact ⟨[], by simp⟩
  · exact ⟨[s], rfl⟩
theorem sites_prefix : ∀ (m : List InstrD) (s : List ByteArray), ∃ r, sitesOf s m = s ++ r
  | [], s => ⟨[], by simp [sitesOf]⟩
  | x :: m, s => by
    have h : sitesOf s (x :: m) = sitesOf (if x.kind == 7 then putL x.name s else s) m := rfl
    rw [h]
    obtain ⟨r1, h1⟩ : ∃ r, (if x.kind == 7 then putL x.name s else s) = s ++ r := by
      split
      · exact putL_prefix _ _
      · exact ⟨[], by simp⟩
    obtain ⟨r2, h2⟩ := sites_prefix m (if x.kind == 7 then putL x.name s else s)
    exact ⟨r1 ++ r2, by rw [h2, h1, List.append_assoc]⟩
theorem putL_nodup {s : ByteArray} {l : List ByteArray} (h : l.Nodup) : (putL s l).Nodup := by
  unfold putL
  split
  · exact h
  · rename_i hn
    rw [List.nodup_append]
    refine ⟨h, by simp, fun a ha b hb e => ?_⟩
    rw [List.mem_singleton] at hb
    subst hb; subst e
    exact hn (inL_iff.2 ha)
theorem sites_nodup : ∀ (m : List InstrD) (s : List ByteArray), s.Nodup → (sitesOf s m).Nodup
  | [], s, h => h
  | x :: m, s, h => by
    have e : sitesOf s (x :: m) = sitesOf (if x.kind == 7 then putL x.name s else s) m := rfl
    rw [e]
    refine sites_nodup m _ ?_
    split
    · exact putL_nodup h
    · exact h
theorem inL_append (s : ByteArray) (l m : List ByteArray) : inL s (l ++ m) = (inL s l || inL s m) := by
  unfold inL; rw [List.any_append]
/-- **A site is among the first 32 of all exactly if it is there already, or there is room.** -/
theorem site_take {s : List ByteArray} {x : InstrD} {m : List InstrD} (h7 : x.kind = 7) (hs : s.Nodup) (h32 : s.length ≤ 32) :
    inL x.name ((sitesOf s (x :: m)).take 32) = (inL x.name s || decide (s.length < 32)) := by
  have e : sitesOf s (x :: m) = sitesOf (putL x.name s) m := by
    have : (x.kind == 7) = true := by simp [h7]
    show sitesOf (if x.kind == 7 then putL x.name s else s) m = _
    rw [this]; rfl
  obtain ⟨r, hr⟩ := sites_prefix m (putL x.name s)
  have hnd := sites_nodup m (putL x.name s) (putL_nodup hs)
  rw [e]
  rw [hr] at hnd ⊢
  cases hin : inL x.name s with
  | true =>
    have hp : putL x.name s = s := by unfold putL; rw [if_pos hin]
    rw [hp, List.take_append, List.take_of_length_le h32, inL_append, hin]; rfl
  | false =>
    have hp : putL x.name s = s ++ [x.name] := by unfold putL; rw [if_neg (by rw [hin]; simp)]
    rw [hp] at hnd ⊢
    rw [Bool.false_or]
    by_cases hl : s.length < 32
    · rw [decide_eq_true hl, inL_iff, List.take_append, List.mem_append]
      refine .inl ?_
      rw [List.take_of_length_le (by simp; omega)]
      simp
    · have hl' : s.length = 32 := by omega
      rw [decide_eq_false hl]
      cases hq : inL x.name ((s ++ [x.name] ++ r).take 32) with
      | false => rfl
      | true =>
        rw [List.append_assoc, List.take_append, hl', Nat.sub_self, List.take_zero, List.append_nil, List.take_of_length_le (by omega), hin] at hq
        cases hq
theorem body_is {chans arrays S s labels : List ByteArray} {main : Bool} {x : InstrD} (hS : x.kind = 7 → inL x.name S = (inL x.name s || decide (s.length < 32))) : bodyR chans arrays main S labels x = instrF chans arrays main labels s x := by
  unfold bodyR instrF
  cases hf : formB x
  · simp [needF]
  · by_cases h12 : x.kind = 12
    · cases main
      · have : restF chans arrays labels s x = none := by unfold restF; simp [h12]
        simp [h12, needF, this]
      · simp [h12, needF]
    · have e12 : (x.kind == 12) = false := by simp [h12]
      have e4 : needF (true && !(main && x.kind == 12)) x.line x.col 4 = none := by rw [e12]; simp [needF]
      rw [e4, Option.none_or]
      simp only [h12, decide_false, Bool.false_and, Bool.not_true, Bool.or_false, Bool.false_eq_true, if_false]
      unfold restF
      by_cases h5 : x.kind = 5
      · cases h : inL x.name chans <;> simp [h5, needF, h]
      · by_cases h6 : x.kind = 6
        · cases h : inL x.name chans <;> simp [h6, needF, h]
        · by_cases h2 : x.kind = 2
          · cases h : inL x.name arrays <;> simp [h2, needF, h]
          · by_cases h3 : x.kind = 3
            · cases h : inL x.name arrays <;> simp [h3, needF, h]
            · by_cases h10 : x.kind = 10
              · cases h : inL x.name labels <;> simp [h10, needF, h]
              · by_cases h7 : x.kind = 7
                · rw [hS h7]
                  cases h : (inL x.name s || decide (s.length < 32)) <;> simp [h7, needF]
                · simp [h5, h6, h2, h3, h10, h7]
theorem sites_bound {chans arrays S0 : List ByteArray} {main : Bool} : ∀ (l d : List InstrD), (sitesOf S0 d).length ≤ 32 → firstF (fun d x => instrF chans arrays main (labelsOf d) (sitesOf S0 d) x) d l = none → (sitesOf S0 (d ++ l)).length ≤ 32
  | [], d, h, _ => by simpa using h
  | x :: r, d, h, hf => by
    simp only [firstF, Option.or_eq_none_iff] at hf
    have h1 : (sitesOf S0 (d ++ [x])).length ≤ 32 := by
      rw [sitesOf_snoc]
      split
      · rename_i h7
        have h7' : x.kind = 7 := by simpa using h7
        unfold putL
        split
        · exact h
        · rename_i hin
          have hr := (Option.or_eq_none_iff.1 hf.1).2
          unfold restF at hr
          simp only [h7'] at hr
          simp [needF] at hr
          have : inL x.name (sitesOf S0 d) = false := by simpa using hin
          rw [this] at hr
          simp at hr
          simp; omega
      · exact h
    have := sites_bound r (d ++ [x]) h1 hf.2
    simpa using this
/-- The reference's check of the instructions of a function, where the sites so far are at most 32, is the check in order. -/
theorem code_is {chans arrays S0 : List ByteArray} {main : Bool} {code post : List InstrD} (hn : S0.Nodup) (h0 : S0.length ≤ 32) :
    firstF (fun d x => bodyR chans arrays main ((sitesOf S0 (code ++ post)).take 32) (labelsOf d) x) [] code = codeF chans arrays main S0 code := by
  unfold codeF
  refine (firstF_congr _ _ code [] (fun d x r e _ hp => ?_)).symm
  simp only [List.nil_append, List.length_nil, Nat.sub_zero] at e hp
  have hd : code.take d.length = d := by rw [e]; simp
  rw [hd] at hp
  have hb := sites_bound d [] (by simpa [sitesOf] using h0) hp
  rw [List.nil_append] at hb
  refine (body_is (fun h7 => ?_)).symm
  rw [e, List.append_assoc, List.cons_append, sitesOf_append]
  exact site_take h7 (sites_nodup d S0 hn) hb
def atF (l c : Int) (F : FaultD) : FaultD := ⟨l, c, F.e⟩
theorem needF_at (ok : Bool) (l c x y e : Int) : (needF ok x y e).map (atF l c) = needF ok l c e := by cases ok <;> rfl
theorem or_map (m : FaultD → FaultD) (a b : Option FaultD) : (a.or b).map m = (a.map m).or (b.map m) := by cases a <;> rfl
theorem firstF_map {α : Type} (m : FaultD → FaultD) (f g : List α → α → Option FaultD) (h : ∀ d x, g d x = (f d x).map m) : ∀ (l d : List α), firstF g d l = (firstF f d l).map m
  | [], _ => rfl
  | x :: r, d => by
    simp only [firstF, or_map, h]
    rw [firstF_map m f g h r (d ++ [x])]
theorem declsF_at (l : List ByteArray) (x y : Int) : (declsF l 0 0).map (atF x y) = declsF l x y := by
  unfold declsF
  exact (firstF_map (atF x y) _ _ (fun d s => by unfold declF; rw [or_map, needF_at, needF_at]) l []).symm
/-- What the reference says of names that are declared one after another. -/
def namesF (l : List ByteArray) (x y : Int) : Option FaultD := if 32 < l.length then some ⟨x, y, 5⟩ else (declsF l 0 0).map (atF x y)
theorem namesF_is (l : List ByteArray) (x y : Int) : namesF l x y = (needF (decide (l.length ≤ 32)) x y 5).or (declsF l x y) := by
  unfold namesF
  by_cases h : 32 < l.length
  · have : ¬ l.length ≤ 32 := by omega
    rw [if_pos h]; simp [needF, this]
  · have : l.length ≤ 32 := by omega
    rw [if_neg h, declsF_at]; simp [needF, this]
theorem namesF_err (l : List ByteArray) (x y : Int) : errOf (namesF l x y) = namesE l := by
  unfold namesF namesE
  by_cases h : 32 < l.length
  · rw [if_pos h, if_pos h]; rfl
  · rw [if_neg h, if_neg h]; cases declsF l 0 0 <;> rfl
/-- Where the names before are right, the names up to the next one say what the next one says. -/
theorem namesF_next {l : List ByteArray} {s : ByteArray} {x y : Int} (h : (l ++ [s]).length ≤ 32) (hn : declsF l x y = none) : namesF (l ++ [s]) x y = declF l s x y := by
  rw [namesF_is, decide_eq_true h]
  unfold declsF at hn ⊢
  rw [firstF_append, hn]
  simp [needF, firstF]
theorem declsF_none_at {l : List ByteArray} {x y x' y' : Int} (h : declsF l x y = none) : declsF l x' y' = none := by
  rw [← declsF_at] at h ⊢
  cases hd : declsF l 0 0 with
  | none => rfl
  | some F => rw [hd] at h; cases h
def refArrF (d : List ArrD) (a : ArrD) : Option FaultD := (namesF (aNames (d ++ [a])) 0 0).or (needF (decide (1 ≤ a.size) && decide (a.size ≤ 64)) 0 0 3)
theorem arrs_names : ∀ (l d : List ArrD), declsF (aNames d) 0 0 = none → firstF arrF d l = none → declsF (aNames (d ++ l)) 0 0 = none
  | [], d, h, _ => by simpa using h
  | x :: r, d, h, hf => by
    simp only [firstF, Option.or_eq_none_iff] at hf
    have h1 : declsF (aNames (d ++ [x])) 0 0 = none := by
      have e : aNames (d ++ [x]) = aNames d ++ [x.name] := by simp [aNames]
      have hx := (Option.or_eq_none_iff.1 hf.1).1
      rw [e]
      unfold declsF at h ⊢
      rw [firstF_append, h]
      simpa [firstF] using hx
    have := arrs_names r (d ++ [x]) h1 hf.2
    simpa using this
theorem refArrs {l : List ArrD} (hl : l.length ≤ 32) : firstF refArrF [] l = arrsF l := by
  unfold arrsF
  refine (firstF_congr _ _ l [] (fun d x r e _ hp => ?_)).symm
  simp only [List.nil_append, List.length_nil, Nat.sub_zero] at e hp
  have hd : l.take d.length = d := by rw [e]; simp
  rw [hd] at hp
  have h0 := arrs_names d [] rfl hp
  rw [List.nil_append] at h0
  unfold arrF refArrF
  have e2 : aNames (d ++ [x]) = aNames d ++ [x.name] := by simp [aNames]
  have hlen : (aNames d ++ [x.name]).length ≤ 32 := by
    have := congrArg List.length e
    simp only [List.length_append, List.length_cons] at this
    simp [aNames]; omega
  rw [e2, namesF_next hlen h0]
def refFunF (p : ProgD) (d : List FuncD) (f : FuncD) : Option FaultD :=
  (namesF (fNames (d ++ [f])) f.line f.col).or ((namesF f.params f.line f.col).or ((needF (decide (f.code.length ≤ 1024)) f.line f.col 5).or (codeR p d.length)))
theorem funcs_names {chans arrays : List ByteArray} : ∀ (l d : List FuncD), declsF (fNames d) 0 0 = none → firstF (funcF chans arrays) d l = none → declsF (fNames (d ++ l)) 0 0 = none
  | [], d, h, _ => by simpa using h
  | x :: r, d, h, hf => by
    simp only [firstF, Option.or_eq_none_iff] at hf
    have h1 : declsF (fNames (d ++ [x])) 0 0 = none := by
      have e : fNames (d ++ [x]) = fNames d ++ [x.name] := by simp [fNames]
      have hx := (Option.or_eq_none_iff.1 hf.1).1
      have h2 := declsF_none_at (x' := x.line) (y' := x.col) h
      refine declsF_none_at (x := x.line) (y := x.col) ?_
      rw [e]
      unfold declsF at h2 ⊢
      rw [firstF_append, h2]
      simpa [firstF] using hx
    have := funcs_names r (d ++ [x]) h1 hf.2
    simpa using this
theorem funcs_sites {chans arrays : List ByteArray} : ∀ (l d : List FuncD), (sitesOf [] (codesOf d)).length ≤ 32 → firstF (funcF chans arrays) d l = none → (sitesOf [] (codesOf (d ++ l))).length ≤ 32
  | [], d, h, _ => by simpa using h
  | x :: r, d, h, hf => by
    simp only [firstF, Option.or_eq_none_iff] at hf
    have hx := hf.1
    unfold funcF instrsF at hx
    simp only [Option.or_eq_none_iff] at hx
    have h1 : (sitesOf [] (codesOf (d ++ [x]))).length ≤ 32 := by
      rw [codesOf_append, sitesOf_append]
      have := sites_bound (S0 := sitesOf [] (codesOf d)) x.code [] (by simpa [sitesOf] using h) hx.2.2.2.2
      simpa [codesOf] using this
    have := funcs_sites r (d ++ [x]) h1 hf.2
    simpa using this
theorem codeR_fun {p : ProgD} {d r : List FuncD} {f : FuncD} (e : p.funcs = d ++ f :: r) (h : (sitesOf [] (codesOf d)).length ≤ 32) :
    codeR p d.length = codeF p.chans (aNames p.arrays) false (sitesOf [] (codesOf d)) f.code := by
  have hlen : p.funcs.length = d.length + (r.length + 1) := by rw [e]; simp
  have h1 : codeAt p d.length = f.code := by
    unfold codeAt
    have : p.funcs[d.length]? = some f := by rw [e]; simp
    rw [this]
  have h2 : sitesOf [] (preC p (p.funcs.length + 1)) = sitesOf (sitesOf [] (codesOf d)) (f.code ++ (codesOf r ++ p.main)) := by
    unfold preC
    rw [List.take_of_length_le (by omega), if_pos (by omega), e, codesOf_append, List.append_assoc, sitesOf_append]
    congr 1
    show codesOf (f :: r) ++ p.main = _
    simp [codesOf]
  have h3 : decide (d.length = p.funcs.length) = false := by simp; omega
  unfold codeR sitesP
  rw [h1, h2, h3]
  exact code_is (sites_nodup _ [] List.nodup_nil) h
theorem codeR_main {p : ProgD} (h : (sitesOf [] (codesOf p.funcs)).length ≤ 32) :
    codeR p p.funcs.length = codeF p.chans (aNames p.arrays) true (sitesOf [] (codesOf p.funcs)) p.main := by
  have h1 : codeAt p p.funcs.length = p.main := by unfold codeAt; rw [List.getElem?_eq_none (Nat.le_refl _)]
  have h2 : sitesOf [] (preC p (p.funcs.length + 1)) = sitesOf (sitesOf [] (codesOf p.funcs)) (p.main ++ []) := by
    unfold preC
    rw [List.take_of_length_le (by omega), if_pos (by omega), sitesOf_append, List.append_nil]
  unfold codeR sitesP
  rw [h1, h2, decide_eq_true rfl]
  exact code_is (sites_nodup _ [] List.nodup_nil) h
theorem refFuncs {p : ProgD} (hl : p.funcs.length ≤ 32) : firstF (refFunF p) [] p.funcs = funcsF p.chans (aNames p.arrays) p.funcs := by
  unfold funcsF
  refine (firstF_congr _ _ p.funcs [] (fun d x r e _ hp => ?_)).symm
  simp only [List.nil_append, List.length_nil, Nat.sub_zero] at e hp
  have hd : p.funcs.take d.length = d := by rw [e]; simp
  rw [hd] at hp
  have h0 := funcs_names d [] rfl hp
  have hs := funcs_sites d [] (by simp [codesOf, sitesOf]) hp
  rw [List.nil_append] at h0 hs
  unfold funcF refFunF instrsF
  have e2 : fNames (d ++ [x]) = fNames d ++ [x.name] := by simp [fNames]
  have hlen : (fNames d ++ [x.name]).length ≤ 32 := by
    have := congrArg List.length e
    simp only [List.length_append, List.length_cons] at this
    simp [fNames]; omega
  rw [e2, namesF_next hlen (declsF_none_at h0), namesF_is, codeR_fun e hs, Option.or_assoc]
/-- What the reference says first of a program, but for what refers to what. -/
def refA (p : ProgD) : Option FaultD :=
  (needF (decide (1 ≤ p.width) && decide (p.width ≤ 64)) 0 0 3).or <|
  (namesF p.chans 0 0).or <|
  (needF (decide (p.arrays.length ≤ 32)) 0 0 5).or <|
  (firstF refArrF [] p.arrays).or <|
  (needF (decide (p.funcs.length ≤ 32)) 0 0 5).or <|
  (firstF (refFunF p) [] p.funcs).or <|
  (needF (decide (p.main.length ≤ 1024)) 0 0 5).or (codeR p p.funcs.length)
/-- **The reference's check is the check in order**, where what refers to what (targets, loops) is said alike. -/
theorem refA_is (p : ProgD) (later : Option FaultD) (h : later = (targsF p.funcs).or ((targetsF (paramsOf p.funcs) (labelsOf p.main) p.main).or (loopsF p.funcs))) : (refA p).or later = checkF p := by
  unfold refA checkF
  rw [h, namesF_is]
  simp only [Option.or_assoc]
  congr 3
  by_cases ha : p.arrays.length ≤ 32
  · rw [refArrs ha]
    congr 2
    by_cases hf : p.funcs.length ≤ 32
    · rw [refFuncs hf]
      congr 1
      cases hq : funcsF p.chans (aNames p.arrays) p.funcs with
      | some F => rfl
      | none =>
        have hs := funcs_sites p.funcs [] (by simp [codesOf, sitesOf]) hq
        rw [List.nil_append] at hs
        rw [codeR_main hs]
        unfold instrsF
        simp only [Option.or_assoc]
    · have : needF (decide (p.funcs.length ≤ 32)) 0 0 5 = some ⟨0, 0, 5⟩ := by simp [needF, hf]
      rw [this]; rfl
  · have : needF (decide (p.arrays.length ≤ 32)) 0 0 5 = some ⟨0, 0, 5⟩ := by simp [needF, ha]
    rw [this]; rfl
end Go.Proofs.YtjdbdoeopobciaaDoor
