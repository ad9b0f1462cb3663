/- Contracts of the keyword tests: called in whatever memory they return what the plain functions isKw and named say, and write nothing that was there. Conditions: the string has at most 2^63 - 1 bytes; the table of keywords reads as the program's text lays it. Contract of prog.named: called in whatever memory in which the table of keywords reads as the program's text lays it, it returns what the plain function named says, and writes nothing that was there. Condition: the string has at most 2^63 - 1 bytes. What a check of a program answers, as a plain function: the first fault, or none. No Go function in sight. No condition. -/
import Derived.Test.YtgcfdbhpophnjaaDoorTokR
import Derived.Test.YtgcfdbhpophnjaaDoorOpB
import Derived.Test.YtgcfdbhpophnjaaDoorMap

set_option linter.unusedVariables false
set_option linter.unusedSimpArgs false
namespace Go.Proofs.YtgcfdbhpophnjaaDoor
open Go.ChangeShapes Go.WideShapes Go.ChangeAt Go.RowKit
/-- the keywords -/
def kwL : List ByteArray := [⟨#[119, 105, 100, 116, 104]⟩, ⟨#[99, 104, 97, 110]⟩, ⟨#[97, 114, 114, 97, 121]⟩, ⟨#[102, 117, 110, 99]⟩, ⟨#[109, 97, 105, 110]⟩, ⟨#[101, 110, 100]⟩, ⟨#[108, 111, 97, 100]⟩, ⟨#[115, 116, 111, 114, 101]⟩, ⟨#[99, 97, 108, 108]⟩, ⟨#[105, 110]⟩, ⟨#[111, 117, 116]⟩, ⟨#[114, 101, 108, 101, 97, 115, 101]⟩, ⟨#[106, 117, 109, 112]⟩, ⟨#[105, 102]⟩, ⟨#[104, 97, 108, 116]⟩, ⟨#[114, 101, 116]⟩]
def kwCells : Array Value := (kwL.map Value.string).toArray
theorem kw_row (k : Nat) (x : ByteArray) (h : kwL[k]? = some x) : kwCells[k]? = some (.string x) := by
  unfold kwCells
  simp [h]
theorem kw_len : kwL.length = 16 := rfl
def isKw (s : ByteArray) : Bool := hasS s kwL || decide (ofN s ≠ 0)
theorem hasS_hit (s x : ByteArray) (l : List ByteArray) (k : Nat) (h : l[k]? = some x) (he : (s.toList == x.toList) = true) : hasS s l = true := by
  unfold hasS
  rw [List.any_eq_true]
  exact ⟨x, List.mem_of_getElem? h, he⟩
theorem hasS_none (s : ByteArray) (l : List ByteArray) (h : ∀ (k : Nat) x, l[k]? = some x → (s.toList == x.toList) = false) : hasS s l = false := by
  unfold hasS
  rw [List.any_eq_false]
  intro x hx
  obtain ⟨k, hk⟩ := List.getElem?_of_mem hx
  rw [h k x hk]; simp
set_option maxRecDepth 100000 in
set_option maxHeartbeats 1600000 in
theorem refKeyword (s : ByteArray) (w : World) :
    Calls Tryd.prog 111 #[.string s] w fun e w' => e = .returned (.bool (isKw s)) ∧ Below w.heap.size w w' := by
  have ek : kwCells = #[Value.string ⟨#[119, 105, 100, 116, 104]⟩, Value.string ⟨#[99, 104, 97, 110]⟩, Value.string ⟨#[97, 114, 114, 97, 121]⟩, Value.string ⟨#[102, 117, 110, 99]⟩, Value.string ⟨#[109, 97, 105, 110]⟩, Value.string ⟨#[101, 110, 100]⟩, Value.string ⟨#[108, 111, 97, 100]⟩, Value.string ⟨#[115, 116, 111, 114, 101]⟩, Value.string ⟨#[99, 97, 108, 108]⟩, Value.string ⟨#[105, 110]⟩, Value.string ⟨#[111, 117, 116]⟩, Value.string ⟨#[114, 101, 108, 101, 97, 115, 101]⟩, Value.string ⟨#[106, 117, 109, 112]⟩, Value.string ⟨#[105, 102]⟩, Value.string ⟨#[104, 97, 108, 116]⟩, Value.string ⟨#[114, 101, 116]⟩] := rfl
  have EK := Lib.hid ek
  clear ek
  go_enter Tryd.func111, Tryd.ntmps111
  go_wp2
  go_loopw [4] (fun i wr => ∃ k : Nat, k ≤ 16 ∧ i = .int .i64 k ∧ wr.heap[w.heap.size]? = some (.cells kwCells 9 (0,0)) ∧ Hid (∀ (j : Nat) x, j < k → kwL[j]? = some x → (s.toList == x.toList) = false) ∧ Below w.heap.size w wr) (fun i _ => 16 - (intOf i).toNat)
  case atStart => exact ⟨0, Nat.zero_le _, rfl, by rw [EK.out]; exact heap_alloc_new _ _, (fun j x h => by omega), (Below.refl _ _).alloc (Nat.le_refl _) _⟩
  case round =>
    obtain ⟨k, hk, rfl, hc, hq, hb⟩ := hrel
    clear EK
    by_cases hlt : k < 16
    · obtain ⟨x, hx⟩ : ∃ x, kwL[k]? = some x := ⟨_, List.getElem?_eq_getElem (by rw [kw_len]; exact hlt)⟩
      have c0 := row_of hc k _ (kw_row k x hx)
      have HC := Lib.hid hc
      have HX := Lib.hid hx
      clear hc hx
      cases he : (s.toList == x.toList)
      · have HN : Hid (∀ (j : Nat) y, j < k + 1 → kwL[j]? = some y → (s.toList == y.toList) = false) := by
          intro j y hj hy
          rcases Nat.lt_or_ge j k with h | h
          · exact hq.out j y h hy
          · obtain rfl : j = k := by omega
            rw [HX.out] at hy; cases hy; exact he
        go_wp2
        go_roundw
        case rel => exact ⟨k + 1, by omega, by go_num, HC.out, HN, hb⟩
        case measure => simp [intOf]; omega
      · have HV : Hid (isKw s = true) := by
          show _ = _
          rw [isKw, hasS_hit s x kwL k HX.out he, Bool.true_or]
        go_wp2
        go_ret
        exact ⟨by rw [HV.out]; rfl, hb⟩
    · obtain rfl : k = 16 := by omega
      have hno := hasS_none s kwL (fun j x h => hq.out j x (by have := (List.getElem?_eq_some_iff.1 h).1; rw [kw_len] at this; exact this) h)
      have HV : Hid (isKw s = decide (ofN s ≠ 0)) := by
        show _ = _
        rw [isKw, hno, Bool.false_or]
      clear hno hc
      have hE : (ofE s == 0) = decide (ofN s ≠ 0) := by
        unfold ofE
        by_cases h : ofN s = 0
        · simp [h]
        · simp [h]
      cases hz : decide (ofN s ≠ 0)
      all_goals
        rw [hz] at hE HV
        clear hz
        go_wp2_with (go_at_call 115; refine (refOf _ _).mono ?_; rintro e w1 ⟨rfl, hb1⟩)
        go_ret
        exact ⟨by rw [HV.out]; rfl, bcomp hb hb1⟩
def named (s : ByteArray) : Bool := tokName s && !isKw s
set_option maxRecDepth 100000 in
set_option maxHeartbeats 1600000 in
theorem refNamed (s : ByteArray) (w : World) (hs : s.size ≤ maxLen) :
    Calls Tryd.prog 97 #[.string s] w fun e w' => e = .returned (.bool (named s)) ∧ Below w.heap.size w w' := by
  have h2 := Lib.hid (fun w => refKeyword s w)
  have c1 := fun w => refTokName s w hs
  unfold named
  generalize tokName s = y at *
  have h1 := Lib.hid c1
  clear c1
  cases y
  · go_enter Tryd.func97, Tryd.ntmps97
    go_wp2_with (go_at_call 84; refine (h1.out _).mono ?_; rintro e w1 ⟨rfl, rfl⟩)
    go_ret
    exact ⟨rfl, Below.refl _ _⟩
  · go_enter Tryd.func97, Tryd.ntmps97
    go_wp2_with (first | (go_at_call 84; refine (h1.out _).mono ?_; rintro e w1 ⟨rfl, rfl⟩) | (go_at_call 111; refine (h2.out _).mono ?_; rintro e w2 ⟨rfl, hb2⟩))
    go_ret
    exact ⟨rfl, hb2⟩
open Go.ChangeShapes Go.WideShapes Go.ChangeAt Go.RowKit
/-- The fields of the kinds: has it a destination, a name, how many operands. -/
def formL : List (Bool × Bool × Int) := [(true, false, 1), (true, false, 0), (true, true, 1), (false, true, 2), (true, true, -1), (true, true, 0), (false, true, 1), (true, true, 1), (false, true, 0), (false, true, 1), (false, true, 0), (false, false, 0), (false, false, 1)]
/-- The two package-level tables read as the program's text lays them. -/
structure Laid (w : World) : Prop where
  kw : ∃ v, w.cell? ⟨1, 0, none⟩ = some v ∧ RdStrs none w v kwL
  forms : ∀ k x, formL[k]? = some x → w.cell? ⟨2, k * 3, none⟩ = some (.bool x.1) ∧ w.cell? ⟨2, k * 3 + 1, none⟩ = some (.bool x.2.1) ∧ w.cell? ⟨2, k * 3 + 2, none⟩ = some (.int .i64 x.2.2)
theorem Laid.keep {w w' : World} (h : Laid w) (k : Below w.heap.size w w') : Laid w' :=
  ⟨by obtain ⟨v, h1, h2⟩ := h.kw; exact ⟨v, cell_keep k h1, h2.keep k⟩, fun i x hx => by obtain ⟨h1, h2, h3⟩ := h.forms i x hx; exact ⟨cell_keep k h1, cell_keep k h2, cell_keep k h3⟩⟩
theorem named_is (s : ByteArray) : named s = (tokName s && ((ofE s != 0) && !hasS s kwL)) := by
  unfold named isKw ofE
  by_cases h : ofN s = 0
  · simp [h]
  · simp [h]
set_option maxRecDepth 100000 in
set_option maxHeartbeats 1600000 in
theorem named_any (s : ByteArray) (w : World) (hs : s.size ≤ maxLen) (hL : Laid w) :
    Calls Tryd.prog 107 #[.string s] w fun e w' => e = .returned (.bool (named s)) ∧ Below w.heap.size w w' := by
  have HT := Lib.hid (fun w => tokName_any s w hs)
  have HLd := Lib.hid hL
  clear hL
  rw [named_is]
  cases ht : tokName s
  · have c1 := HT.out
    rw [ht] at c1
    have HC := Lib.hid c1
    clear c1 ht HT
    go_enter Tryd.func107, Tryd.ntmps107
    go_wp2_with (first | (go_at_call 113; refine (of_any _ _).mono ?_; rintro e w1 ⟨rfl, hb1⟩) | (go_at_call 114; refine (HC.out _).mono ?_; rintro e w2 ⟨rfl, hb2⟩))
    go_ret
    exact ⟨rfl, bcomp hb1 hb2⟩
  · have c1 := HT.out
    rw [ht] at c1
    have HC := Lib.hid c1
    clear c1 ht HT
    cases he : (ofE s != 0)
    · go_enter Tryd.func107, Tryd.ntmps107
      go_wp2_with (first | (go_at_call 113; refine (of_any _ _).mono ?_; rintro e w1 ⟨rfl, hb1⟩) | (go_at_call 114; refine (HC.out _).mono ?_; rintro e w2 ⟨rfl, hb2⟩))
      go_ret
      exact ⟨rfl, bcomp hb1 hb2⟩
    · obtain ⟨kv, hk1, hk2⟩ := HLd.out.kw
      have HK := Lib.hid (And.intro hk1 hk2)
      clear hk1 hk2
      go_enter Tryd.func107, Tryd.ntmps107
      go_wp2_with (first | (go_at_call 113; refine (of_any _ _).mono ?_; rintro e w1 ⟨rfl, hb1⟩) | (go_at_call 114; refine (HC.out _).mono ?_; rintro e w2 ⟨rfl, hb2⟩; have hg := cell_keep (bcomp hb1 hb2) HK.out.1) | (go_at_call 61; refine (slicesContains _ kwL s _ (HK.out.2.keep (bcomp hb1 hb2))).mono ?_; rintro e w3 ⟨rfl, rfl⟩))
      go_ret
      exact ⟨rfl, bcomp hb1 hb2⟩
/-- A fault: a position and an error. -/
structure FaultD where
  line : Int
  col : Int
  e : Int
deriving DecidableEq
def needF (ok : Bool) (line col e : Int) : Option FaultD := if ok then none else some ⟨line, col, e⟩
/-- The first fault of the elements of a list, where what came before an element is known. -/
def firstF {α : Type} (f : List α → α → Option FaultD) : List α → List α → Option FaultD
  | _, [] => none
  | d, x :: r => (f d x).or (firstF f (d ++ [x]) r)
theorem firstF_append {α : Type} (f : List α → α → Option FaultD) : ∀ (l m d : List α), firstF f d (l ++ m) = (firstF f d l).or (firstF f (d ++ l) m)
  | [], m, d => by simp [firstF]
  | x :: r, m, d => by
    simp only [List.cons_append, firstF]
    rw [firstF_append f r m (d ++ [x]), Option.or_assoc, List.append_assoc]; rfl
theorem firstF_step {α : Type} (f : List α → α → Option FaultD) (l : List α) (k : Nat) (x : α) (h : l[k]? = some x) :
    firstF f (l.take k) (l.drop k) = (f (l.take k) x).or (firstF f (l.take (k + 1)) (l.drop (k + 1))) := by
  have hk : k < l.length := (List.getElem?_eq_some_iff.1 h).1
  rw [List.drop_eq_getElem_cons hk, firstF]
  have hx : l[k] = x := (List.getElem?_eq_some_iff.1 h).2
  rw [hx, List.take_add_one, h]; rfl
theorem firstF_congr {α : Type} (f g : List α → α → Option FaultD) : ∀ (l d : List α), (∀ (p : List α) x r, d ++ l = p ++ x :: r → d.length ≤ p.length → firstF f d (l.take (p.length - d.length)) = none → f p x = g p x) → firstF f d l = firstF g d l
  | [], _, _ => rfl
  | x :: r, d, h => by
    simp only [firstF]
    have h0 := h d x r rfl (Nat.le_refl _) (by simp [firstF])
    rw [← h0]
    cases hf : f d x with
    | some y => rfl
    | none =>
      simp only [Option.none_or]
      refine firstF_congr f g r (d ++ [x]) (fun p y r' e hl hn => ?_)
      refine h p y r' (by rw [← e]; simp) (by simp at hl; omega) ?_
      simp only [List.length_append, List.length_singleton] at hl hn
      rw [show p.length - d.length = (p.length - (d.length + 1)) + 1 from by omega, List.take_succ_cons, firstF, hf]
      exact hn
theorem firstF_none {α : Type} (f : List α → α → Option FaultD) : ∀ (l d : List α), firstF f d l = none ↔ ∀ (p : List α) x r, l = p ++ x :: r → f (d ++ p) x = none
  | [], d => by simp [firstF]
  | y :: l, d => by
    simp only [firstF, Option.or_eq_none_iff, firstF_none f l (d ++ [y])]
    constructor
    · rintro ⟨h1, h2⟩ p x r e
      cases p with
      | nil => simp at e; rw [List.append_nil, ← e.1]; exact h1
      | cons z p =>
        simp at e
        have := h2 p x r e.2
        rw [← e.1]
        simpa using this
    · intro h
      exact ⟨by simpa using h [] y l rfl, fun p x r e => by have := h (y :: p) x r (by simp [e]); simpa using this⟩
/-! ### instructions -/
def wantZ (x : InstrD) (n : Int) : Int := if x.kind = 1 then arityZ x.op else n
def argB (a : ArgD) : Bool := a.name.toList.isEmpty || (named a.name && a.num == 0)
def opB (x : InstrD) : Bool := if x.kind = 1 then decide (2 ≤ x.op) && decide (x.op ≤ 20) else x.op == 0
def fieldB (d : Bool) (s : ByteArray) : Bool := if d then named s else s.toList.isEmpty
def countB (x : InstrD) (n : Int) : Bool := (decide (wantZ x n < 0) || decide ((x.args.length : Int) = wantZ x n)) && decide (x.args.length ≤ 32)
def formB (x : InstrD) : Bool :=
  match formL[x.kind.toNat]? with
  | none => false
  | some (d, nm, n) => opB x && fieldB d x.dst && fieldB nm x.name && countB x n && x.args.all argB
theorem named_empty {s : ByteArray} (h : s.toList.isEmpty = true) : named s = false := by
  have : s.size = 0 := by
    rw [ByteArray.toList_eq] at h
    simp at h
    show s.data.size = 0
    simp [h]
  unfold named tokName
  simp [this]
theorem fieldB_is (d : Bool) (s : ByteArray) : fieldB d s = ((d == named s) && (d || s.toList.isEmpty)) := by
  unfold fieldB
  cases d
  · cases h : s.toList.isEmpty
    · simp
    · simp [named_empty h]
  · cases named s <;> rfl
def labelsOf (l : List InstrD) : List ByteArray := (l.filter fun x => x.kind == 10).map (·.name)
def sitesOf (s : List ByteArray) (l : List InstrD) : List ByteArray := l.foldl (fun s x => if x.kind == 7 then putL x.name s else s) s
theorem labelsOf_snoc (l : List InstrD) (x : InstrD) : labelsOf (l ++ [x]) = if x.kind == 10 then labelsOf l ++ [x.name] else labelsOf l := by
  unfold labelsOf
  cases h : x.kind == 10 <;> simp [h]
theorem sitesOf_append (s : List ByteArray) (l m : List InstrD) : sitesOf s (l ++ m) = sitesOf (sitesOf s l) m := by unfold sitesOf; rw [List.foldl_append]
theorem sitesOf_snoc (s : List ByteArray) (l : List InstrD) (x : InstrD) : sitesOf s (l ++ [x]) = if x.kind == 7 then putL x.name (sitesOf s l) else sitesOf s l := by rw [sitesOf_append]; rfl
/-- What an instruction's kind asks besides. -/
def restF (chans arrays labels sites : List ByteArray) (x : InstrD) : Option FaultD :=
  if x.kind = 5 ∨ x.kind = 6 then needF (inL x.name chans) x.line x.col 6
  else if x.kind = 2 ∨ x.kind = 3 then needF (inL x.name arrays) x.line x.col 6
  else if x.kind = 10 then needF (!inL x.name labels) x.line x.col 8
  else if x.kind = 7 then needF (inL x.name sites || decide (sites.length < 32)) x.line x.col 5
  else none
def instrF (chans arrays : List ByteArray) (main : Bool) (labels sites : List ByteArray) (x : InstrD) : Option FaultD :=
  (needF (formB x && !(main && x.kind == 12)) x.line x.col 4).or (restF chans arrays labels sites x)
def codeF (chans arrays : List ByteArray) (main : Bool) (sites : List ByteArray) (code : List InstrD) : Option FaultD :=
  firstF (fun d x => instrF chans arrays main (labelsOf d) (sitesOf sites d) x) [] code
def instrsF (chans arrays : List ByteArray) (main : Bool) (sites : List ByteArray) (code : List InstrD) (line col : Int) : Option FaultD :=
  (needF (decide (code.length ≤ 1024)) line col 5).or (codeF chans arrays main sites code)
def targetF (params : List (ByteArray × Int)) (labels : List ByteArray) (x : InstrD) : Option FaultD :=
  if x.kind = 8 ∨ x.kind = 9 then needF (inL x.name labels) x.line x.col 6
  else if x.kind = 4 then (needF (atL x.name params).isSome x.line x.col 6).or (needF (decide ((atL x.name params).getD 0 = x.args.length)) x.line x.col 4)
  else none
def targetsF (params : List (ByteArray × Int)) (labels : List ByteArray) (code : List InstrD) : Option FaultD := firstF (fun _ x => targetF params labels x) [] code
def declF (acc : List ByteArray) (s : ByteArray) (line col : Int) : Option FaultD := (needF (named s) line col 4).or (needF (!inL s acc) line col 8)
def declsF (l : List ByteArray) (line col : Int) : Option FaultD := firstF (fun d s => declF d s line col) [] l
def aNames (l : List ArrD) : List ByteArray := l.map (·.name)
def fNames (l : List FuncD) : List ByteArray := l.map (·.name)
def paramsOf (l : List FuncD) : List (ByteArray × Int) := l.map fun f => (f.name, (f.params.length : Int))
def codesOf (l : List FuncD) : List InstrD := l.flatMap (·.code)
def arrF (d : List ArrD) (a : ArrD) : Option FaultD := (declF (aNames d) a.name 0 0).or (needF (decide (1 ≤ a.size) && decide (a.size ≤ 64)) 0 0 3)
def arrsF (l : List ArrD) : Option FaultD := firstF arrF [] l
def funcF (chans arrays : List ByteArray) (d : List FuncD) (f : FuncD) : Option FaultD :=
  (declF (fNames d) f.name f.line f.col).or ((needF (decide (f.params.length ≤ 32)) f.line f.col 5).or ((declsF f.params f.line f.col).or (instrsF chans arrays false (sitesOf [] (codesOf d)) f.code f.line f.col)))
def funcsF (chans arrays : List ByteArray) (l : List FuncD) : Option FaultD := firstF (funcF chans arrays) [] l
/-- Which functions a function calls. -/
def callsOf (l : List InstrD) : List ByteArray := (l.filter fun x => x.kind == 4).map (·.name)
/-- The function of the name a calls the one of the name b. -/
def CallsN (fs : List FuncD) (a b : ByteArray) : Prop := ∃ f, fs.find? (fun f => decide (f.name = a)) = some f ∧ b ∈ callsOf f.code
inductive Reach (fs : List FuncD) (a : ByteArray) : ByteArray → Prop
  | one {b : ByteArray} : CallsN fs a b → Reach fs a b
  | more {b c : ByteArray} : Reach fs a b → CallsN fs b c → Reach fs a c
open Classical in
noncomputable def loopB (fs : List FuncD) (a : ByteArray) : Bool := decide (Reach fs a a)
noncomputable def loopsF (fs : List FuncD) : Option FaultD := firstF (fun _ f => needF (!loopB fs f.name) f.line f.col 9) [] fs
/-- The first fault of the targets of all functions. -/
def targsF (fs : List FuncD) : Option FaultD := firstF (fun _ f => targetsF (paramsOf fs) (labelsOf f.code) f.code) [] fs
noncomputable def checkF (p : ProgD) : Option FaultD :=
  (needF (decide (1 ≤ p.width) && decide (p.width ≤ 64)) 0 0 3).or <|
  (needF (decide (p.chans.length ≤ 32)) 0 0 5).or <|
  (declsF p.chans 0 0).or <|
  (needF (decide (p.arrays.length ≤ 32)) 0 0 5).or <|
  (arrsF p.arrays).or <|
  (needF (decide (p.funcs.length ≤ 32)) 0 0 5).or <|
  (funcsF p.chans (aNames p.arrays) p.funcs).or <|
  (instrsF p.chans (aNames p.arrays) true (sitesOf [] (codesOf p.funcs)) p.main 0 0).or <|
  (targsF p.funcs).or <|
  (targetsF (paramsOf p.funcs) (labelsOf p.main) p.main).or <|
  loopsF p.funcs
end Go.Proofs.YtgcfdbhpophnjaaDoor
