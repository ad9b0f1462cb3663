/- The flat program of a program as plain functions, step by step as the program's text makes it. No Go function in sight. No condition. -/
import Derived.Test.YtgcfdbhpophnjaaDoorLoc
import Derived.Test.YtgcfdbhpophnjaaDoorRowE
set_option linter.unusedVariables false
set_option linter.unusedSimpArgs false
set_option linter.unnecessarySimpa false
namespace Go.Proofs.YtgcfdbhpophnjaaDoor
open Go.ChangeShapes Go.WideShapes Go.ChangeAt Go.RowKit
/-! ### registers -/
def placesOf (f : Int) (l : List ByteArray) : List (Int × ByteArray) := l.map fun s => (f, s)
def funPlaces (i : Int) (x : FuncD) : List (Int × ByteArray) := placesOf i x.params ++ placesOf i (localsL x.params x.code [])
def placesF : Nat → List FuncD → List (Int × ByteArray)
  | _, [] => []
  | i, x :: r => funPlaces i x ++ placesF (i + 1) r
/-- The variables that have registers, in the registers' order. -/
def placesP (p : ProgD) : List (Int × ByteArray) := placesOf (-1) (localsL [] p.main []) ++ placesF 0 p.funcs
def regN (R : List (Int × ByteArray)) (f : Int) (s : ByteArray) : Nat := (R.findIdx? fun q => decide (q = (f, s))).getD 0
theorem placesF_snoc : ∀ (l : List FuncD) (i : Nat) (x : FuncD), placesF i (l ++ [x]) = placesF i l ++ funPlaces ((i + l.length : Nat) : Int) x
  | [], i, x => by simp [placesF]
  | y :: r, i, x => by
    rw [List.cons_append, placesF, placesF, placesF_snoc r (i + 1) x, List.append_assoc]
    rw [show i + 1 + r.length = i + (y :: r).length from by simp; omega]
theorem regN_lt (R : List (Int × ByteArray)) (f : Int) (s : ByteArray) : regN R f s ≤ R.length := by
  unfold regN
  cases h : R.findIdx? fun q => decide (q = (f, s)) with
  | none => simp
  | some i => have := List.findIdx?_eq_some_iff_getElem.1 h; simp only [Option.getD_some]; obtain ⟨h1, _⟩ := this; omega
/-! ### operands -/
def trimW (W v : Int) : Int := if W = 64 then v else v % 2 ^ W.toNat
def zeroRef : RefD := ⟨0, 0⟩
def refF (W : Int) (R : List (Int × ByteArray)) (f : Int) (a : ArgD) : RefD := if a.name.toList.isEmpty then ⟨-1, trimW W a.num⟩ else ⟨regN R f a.name, 0⟩
def argF (W : Int) (R : List (Int × ByteArray)) (f : Int) (l : List ArgD) (k : Nat) : RefD := match l[k]? with | some a => refF W R f a | none => zeroRef
/-! ### one body -/
/-- What is known while a body is made: the instructions so far, where the labels are (the newest first), the jumps, the returns, and whether it has stopped. -/
structure StF where
  C : List CodeD
  L : List (ByteArray × Int)
  J : List (Nat × ByteArray)
  T : List Nat
  stop : Bool
def lookL (s : ByteArray) (L : List (ByteArray × Int)) : Int := (atL s L).getD 0
/-- What does not change: the program, the registers, the sites. -/
structure EnvF where
  p : ProgD
  R : List (Int × ByteArray)
  S : List ByteArray
namespace EnvF
variable (E : EnvF)
def ref (f : Int) (a : ArgD) : RefD := refF E.p.width E.R f a
def arg (f : Int) (l : List ArgD) (k : Nat) : RefD := argF E.p.width E.R f l k
def reg (f : Int) (s : ByteArray) : Int := (regN E.R f s : Nat)
/-- The instruction for one that is neither a call, a label nor a return. -/
def one (f : Int) (x : InstrD) : CodeD :=
  if x.kind = 0 then ⟨0, 0, E.reg f x.dst, 0, E.arg f x.args 0, zeroRef⟩
  else if x.kind = 1 then ⟨1, x.op, E.reg f x.dst, 0, E.arg f x.args 0, E.arg f x.args 1⟩
  else if x.kind = 2 then ⟨2, 0, E.reg f x.dst, idxS x.name (aNames E.p.arrays) 0, E.arg f x.args 0, zeroRef⟩
  else if x.kind = 3 then ⟨3, 0, 0, idxS x.name (aNames E.p.arrays) 0, E.arg f x.args 0, E.arg f x.args 1⟩
  else if x.kind = 5 then ⟨4, 0, E.reg f x.dst, idxS x.name E.p.chans 0, zeroRef, zeroRef⟩
  else if x.kind = 6 then ⟨5, 0, 0, idxS x.name E.p.chans 0, E.arg f x.args 0, zeroRef⟩
  else if x.kind = 7 then ⟨6, 0, E.reg f x.dst, idxS x.name E.S 0, E.arg f x.args 0, zeroRef⟩
  else if x.kind = 8 then ⟨7, 0, 0, 0, E.arg f x.args 0, zeroRef⟩
  else if x.kind = 9 then ⟨8, 0, 0, 0, E.arg f x.args 0, zeroRef⟩
  else ⟨9, 0, 0, 0, zeroRef, zeroRef⟩
def copy (d : Int) (r : RefD) : CodeD := ⟨0, 0, d, 0, r, zeroRef⟩
def jump0 : CodeD := ⟨7, 0, 0, 0, zeroRef, zeroRef⟩
/-- The copies of the operands into the parameters, from the k-th on. -/
def parms (f g : Int) (args : List ArgD) : Nat → List ByteArray → List CodeD
  | _, [] => []
  | k, s :: r => copy (E.reg g s) (E.arg f args k) :: parms f g args (k + 1) r
def zeros (g : Int) (l : List ByteArray) : List CodeD := l.map fun s => copy (E.reg g s) ⟨-1, 0⟩
/-- The number of the function of a name. -/
def fnOf (s : ByteArray) : Int := idxS s (fNames E.p.funcs) 0
/-- What stands ahead of the callee's own instructions. -/
def ahead (f : Int) (x : InstrD) : List CodeD :=
  E.parms f (E.fnOf x.name) x.args 0 (bodyF E.p (E.fnOf x.name)).1 ++ E.zeros (E.fnOf x.name) (localsL (bodyF E.p (E.fnOf x.name)).1 (bodyF E.p (E.fnOf x.name)).2 [])
def step (B : Int → Int → List CodeD → List CodeD) (f dst : Int) (s : StF) (x : InstrD) : StF :=
  if s.stop = true ∨ 4096 < s.C.length then { s with stop := true }
  else if x.kind = 4 then { s with C := B (E.fnOf x.name) (E.reg f x.dst) (s.C ++ E.ahead f x) }
  else if x.kind = 10 then { s with L := (x.name, (s.C.length : Int)) :: s.L }
  else if x.kind = 8 ∨ x.kind = 9 then { s with C := s.C ++ [E.one f x], J := s.J ++ [(s.C.length, x.name)] }
  else if x.kind = 12 then { s with C := s.C ++ [copy dst (E.arg f x.args 0), jump0], T := s.T ++ [s.C.length + 1] }
  else { s with C := s.C ++ [E.one f x] }
def setN (C : List CodeD) (k : Nat) (n : Int) : List CodeD := C.modify k fun c => { c with n := n }
def patch (C : List CodeD) (P : List (Nat × Int)) : List CodeD := P.foldl (fun C q => setN C q.1 q.2) C
def last (f dst : Int) : CodeD := if 0 ≤ f then copy dst ⟨-1, 0⟩ else ⟨9, 0, 0, 0, zeroRef, zeroRef⟩
def jumpsOf (s : StF) : List (Nat × Int) := s.J.map fun q => (q.1, lookL q.2 s.L)
def finish (f dst : Int) (s : StF) : List CodeD :=
  if s.stop then s.C else patch (patch (s.C ++ [last f dst]) (jumpsOf s)) (s.T.map fun k => (k, (s.C.length : Int) + 1))
/-- The instructions with those of a body behind them. -/
def body : Nat → Int → Int → List CodeD → List CodeD
  | 0, _, _, C => C
  | n + 1, f, dst, C => finish f dst ((bodyF E.p f).2.foldl (E.step (body n) f dst) ⟨C, [], [], [], false⟩)
end EnvF
def sitesAllF (p : ProgD) : List ByteArray := sitesOf [] (codesOf p.funcs ++ p.main)
def envOf (p : ProgD) : EnvF := ⟨p, placesP p, sitesAllF p⟩
def codeF25 (p : ProgD) : List CodeD := (envOf p).body (p.funcs.length + 1) (-1) 0 []
def zeroFlat : FlatD := ⟨0, 0, [], [], [], []⟩
/-- The flat program and the error. -/
noncomputable def flatOf (p : ProgD) : FlatD × Int :=
  match checkF p with
  | some F => (zeroFlat, F.e)
  | none => if 4096 < (codeF25 p).length then (zeroFlat, 5) else (⟨p.width, (placesP p).length, p.chans, sitesAllF p, p.arrays.map (·.size), codeF25 p⟩, 0)
/-! ### steps -/
namespace EnvF
variable (E : EnvF)
theorem step_stop (B : Int → Int → List CodeD → List CodeD) (f dst : Int) (s : StF) (x : InstrD) (h : s.stop = true) : E.step B f dst s x = s := by
  unfold step
  rw [if_pos (.inl h)]
  cases s; simp at h; simp [h]
theorem foldl_stop (B : Int → Int → List CodeD → List CodeD) (f dst : Int) : ∀ (l : List InstrD) (s : StF), s.stop = true → l.foldl (E.step B f dst) s = s
  | [], _, _ => rfl
  | x :: r, s, h => by rw [List.foldl_cons, E.step_stop B f dst s x h]; exact foldl_stop B f dst r s h
/-- The state ahead of the k-th instruction. -/
def stAt (B : Int → Int → List CodeD → List CodeD) (f dst : Int) (C : List CodeD) (code : List InstrD) (k : Nat) : StF := (code.take k).foldl (E.step B f dst) ⟨C, [], [], [], false⟩
theorem stAt_zero (B : Int → Int → List CodeD → List CodeD) (f dst : Int) (C : List CodeD) (code : List InstrD) : E.stAt B f dst C code 0 = ⟨C, [], [], [], false⟩ := by unfold stAt; simp
theorem stAt_succ (B : Int → Int → List CodeD → List CodeD) (f dst : Int) (C : List CodeD) (code : List InstrD) (k : Nat) (x : InstrD) (h : code[k]? = some x) : E.stAt B f dst C code (k + 1) = E.step B f dst (E.stAt B f dst C code k) x := by
  unfold stAt
  rw [List.take_add_one, h, List.foldl_append]; rfl
theorem stAt_all (B : Int → Int → List CodeD → List CodeD) (f dst : Int) (C : List CodeD) (code : List InstrD) : E.stAt B f dst C code code.length = code.foldl (E.step B f dst) ⟨C, [], [], [], false⟩ := by unfold stAt; rw [List.take_length]
/-- Where the loop ends early. -/
theorem stAt_early (B : Int → Int → List CodeD → List CodeD) (f dst : Int) (C : List CodeD) (code : List InstrD) (k : Nat) (h : k < code.length) (hl : 4096 < (E.stAt B f dst C code k).C.length) :
    finish f dst (code.foldl (E.step B f dst) ⟨C, [], [], [], false⟩) = (E.stAt B f dst C code k).C := by
  have e : code.foldl (E.step B f dst) ⟨C, [], [], [], false⟩ = (code.drop k).foldl (E.step B f dst) (E.stAt B f dst C code k) := by
    conv => lhs; rw [← List.take_append_drop k code]
    rw [List.foldl_append]; rfl
  obtain ⟨x, hx⟩ : ∃ x, code[k]? = some x := ⟨_, List.getElem?_eq_getElem h⟩
  have hd : code.drop k = x :: code.drop (k + 1) := by
    rw [List.drop_eq_getElem_cons h, (List.getElem?_eq_some_iff.1 hx).2]
  rw [e, hd, List.foldl_cons]
  have h1 : E.step B f dst (E.stAt B f dst C code k) x = { E.stAt B f dst C code k with stop := true } := by
    unfold step
    rw [if_pos (.inr hl)]
  rw [h1, foldl_stop E B f dst _ _ rfl]
  unfold finish
  rw [if_pos rfl]
theorem setN_length (C : List CodeD) (k : Nat) (n : Int) : (setN C k n).length = C.length := by unfold setN; simp
theorem patch_length : ∀ (P : List (Nat × Int)) (C : List CodeD), (patch C P).length = C.length
  | [], _ => rfl
  | q :: r, C => by
    show (patch (setN C q.1 q.2) r).length = _
    rw [patch_length r, setN_length]
theorem patch_snoc (C : List CodeD) (P : List (Nat × Int)) (q : Nat × Int) : patch C (P ++ [q]) = setN (patch C P) q.1 q.2 := by unfold patch; rw [List.foldl_append]; rfl
theorem patch_take (C : List CodeD) (P : List (Nat × Int)) (k : Nat) (q : Nat × Int) (h : P[k]? = some q) : patch C (P.take (k + 1)) = setN (patch C (P.take k)) q.1 q.2 := by
  rw [List.take_add_one, h]; exact patch_snoc _ _ _
theorem parms_length (f g : Int) (args : List ArgD) : ∀ (l : List ByteArray) (k : Nat), (E.parms f g args k l).length = l.length
  | [], _ => rfl
  | s :: r, k => by rw [parms, List.length_cons, parms_length f g args r, List.length_cons]
theorem parms_snoc (f g : Int) (args : List ArgD) (s : ByteArray) : ∀ (l : List ByteArray) (k : Nat), E.parms f g args k (l ++ [s]) = E.parms f g args k l ++ [copy (E.reg g s) (E.arg f args (k + l.length))]
  | [], k => by simp [parms]
  | t :: r, k => by
    rw [List.cons_append, parms, parms, parms_snoc f g args s r (k + 1), List.cons_append, List.length_cons, show k + 1 + r.length = k + (r.length + 1) from by omega]
/-! ### lengths and places -/
theorem step_len (B : Int → Int → List CodeD → List CodeD) (hB : ∀ g d C, C.length ≤ (B g d C).length) (f dst : Int) (s : StF) (x : InstrD) : s.C.length ≤ (E.step B f dst s x).C.length := by
  unfold step
  split
  · exact Nat.le_refl _
  split
  · exact Nat.le_trans (by simp) (hB _ _ _)
  split
  · exact Nat.le_refl _
  split
  · simp
  split
  · simp
  · simp
theorem foldl_len (B : Int → Int → List CodeD → List CodeD) (hB : ∀ g d C, C.length ≤ (B g d C).length) (f dst : Int) : ∀ (l : List InstrD) (s : StF), s.C.length ≤ (l.foldl (E.step B f dst) s).C.length
  | [], _ => Nat.le_refl _
  | x :: r, s => by rw [List.foldl_cons]; exact Nat.le_trans (E.step_len B hB f dst s x) (foldl_len B hB f dst r _)
theorem finish_len (f dst : Int) (s : StF) : s.C.length ≤ (finish f dst s).length := by
  unfold finish
  split
  · exact Nat.le_refl _
  · rw [patch_length, patch_length]; simp
theorem body_len : ∀ (n : Nat) (f dst : Int) (C : List CodeD), C.length ≤ (E.body n f dst C).length
  | 0, _, _, _ => Nat.le_refl _
  | n + 1, f, dst, C => Nat.le_trans (E.foldl_len (E.body n) (body_len n) f dst _ ⟨C, [], [], [], false⟩) (finish_len _ _ _)
/-- The places of the jumps rise and lie below the end; so do the returns'. -/
structure StOk (s : StF) : Prop where
  rise : s.J.Pairwise (fun a b => a.1 < b.1)
  jl : ∀ q ∈ s.J, q.1 < s.C.length
  tl : ∀ k ∈ s.T, k < s.C.length
theorem stOk_start (C : List CodeD) : StOk ⟨C, [], [], [], false⟩ := ⟨List.Pairwise.nil, (fun _ h => by cases h), (fun _ h => by cases h)⟩
theorem step_ok (B : Int → Int → List CodeD → List CodeD) (hB : ∀ g d C, C.length ≤ (B g d C).length) (f dst : Int) (s : StF) (x : InstrD) (h : StOk s) : StOk (E.step B f dst s x) := by
  have hl := E.step_len B hB f dst s x
  unfold step at hl ⊢
  split
  · exact ⟨h.rise, h.jl, h.tl⟩
  rename_i h1
  rw [if_neg h1] at hl
  split
  · rename_i h2
    rw [if_pos h2] at hl
    exact ⟨h.rise, fun q hq => Nat.lt_of_lt_of_le (h.jl q hq) hl, fun k hk => Nat.lt_of_lt_of_le (h.tl k hk) hl⟩
  split
  · exact ⟨h.rise, h.jl, h.tl⟩
  split
  · refine ⟨?_, ?_, ?_⟩
    · refine List.pairwise_append.2 ⟨h.rise, List.pairwise_singleton _ _, fun a ha b hb => ?_⟩
      rw [List.mem_singleton] at hb; subst hb
      exact h.jl a ha
    · intro q hq
      rw [List.length_append, List.length_singleton]
      rcases List.mem_append.1 hq with hq | hq
      · have := h.jl q hq; omega
      · rw [List.mem_singleton] at hq; subst hq; simp
    · intro k hk
      rw [List.length_append, List.length_singleton]
      have := h.tl k hk; omega
  split
  · refine ⟨h.rise, fun q hq => ?_, fun k hk => ?_⟩
    · have := h.jl q hq; simp; omega
    · rcases List.mem_append.1 hk with hk | hk
      · have := h.tl k hk; simp; omega
      · rw [List.mem_singleton] at hk; subst hk; simp
  · refine ⟨h.rise, fun q hq => ?_, fun k hk => ?_⟩
    · have := h.jl q hq; simp; omega
    · have := h.tl k hk; simp; omega
theorem stAt_ok (B : Int → Int → List CodeD → List CodeD) (hB : ∀ g d C, C.length ≤ (B g d C).length) (f dst : Int) (C : List CodeD) (code : List InstrD) (k : Nat) : StOk (E.stAt B f dst C code k) := by
  unfold stAt
  have : ∀ (l : List InstrD) (s : StF), StOk s → StOk (l.foldl (E.step B f dst) s) := by
    intro l
    induction l with
    | nil => exact fun s h => h
    | cons x r ih => exact fun s h => ih _ (E.step_ok B hB f dst s x h)
  exact this _ _ (stOk_start C)
theorem step_few (B : Int → Int → List CodeD → List CodeD) (f dst : Int) (s : StF) (x : InstrD) : (E.step B f dst s x).J.length ≤ s.J.length + 1 ∧ (E.step B f dst s x).T.length ≤ s.T.length + 1 := by
  unfold step
  split
  · simp
  split
  · simp
  split
  · simp
  split
  · simp
  split
  · simp
  · simp
theorem stAt_few (B : Int → Int → List CodeD → List CodeD) (f dst : Int) (C : List CodeD) (code : List InstrD) (k : Nat) : (E.stAt B f dst C code k).J.length ≤ k ∧ (E.stAt B f dst C code k).T.length ≤ k := by
  induction k with
  | zero => rw [stAt_zero]; simp
  | succ k ih =>
    cases h : code[k]? with
    | none =>
      have e : E.stAt B f dst C code (k + 1) = E.stAt B f dst C code k := by unfold stAt; rw [List.take_add_one, h]; simp
      rw [e]; omega
    | some x =>
      rw [E.stAt_succ B f dst C code k x h]
      have := E.step_few B f dst (E.stAt B f dst C code k) x
      omega
/-- How long what stands ahead of a callee's own instructions may be. -/
def Small (p : ProgD) : Prop := ∀ f, (bodyF p f).1.length ≤ 32 ∧ (bodyF p f).2.length ≤ 1024 ∧ ∀ x ∈ (bodyF p f).2, x.args.length ≤ 32
theorem ahead_len (hs : Small E.p) (f : Int) (x : InstrD) : (E.ahead f x).length ≤ 33824 := by
  unfold ahead zeros
  rw [List.length_append, parms_length, List.length_map]
  obtain ⟨h1, h2, h3⟩ := hs (E.fnOf x.name)
  have := localsL_len (bodyF E.p (E.fnOf x.name)).1 (bodyF E.p (E.fnOf x.name)).2 [] h3
  simp only [List.length_nil] at this
  omega
theorem step_top (B : Int → Int → List CodeD → List CodeD) (K : Nat) (hs : Small E.p) (hB : ∀ g d C, C.length ≤ 40000 → (B g d C).length ≤ 40000 + K) (f dst : Int) (s : StF) (x : InstrD) : (E.step B f dst s x).C.length ≤ max s.C.length (40000 + K) := by
  unfold step
  split
  · exact Nat.le_max_left _ _
  rename_i h
  have hl : s.C.length ≤ 4096 := by
    rcases Nat.lt_or_ge 4096 s.C.length with h' | h'
    · exact absurd (.inr h') h
    · exact h'
  split
  · refine Nat.le_trans (hB _ _ _ ?_) (Nat.le_max_right _ _)
    rw [List.length_append]
    have := E.ahead_len hs f x
    omega
  split
  · exact Nat.le_max_left _ _
  split
  · simp; omega
  split
  · simp; omega
  · simp; omega
theorem foldl_top (B : Int → Int → List CodeD → List CodeD) (K : Nat) (hs : Small E.p) (hB : ∀ g d C, C.length ≤ 40000 → (B g d C).length ≤ 40000 + K) (f dst : Int) : ∀ (l : List InstrD) (s : StF), s.C.length ≤ 40000 + K → (l.foldl (E.step B f dst) s).C.length ≤ 40000 + K
  | [], _, h => h
  | x :: r, s, h => by
    rw [List.foldl_cons]
    exact foldl_top B K hs hB f dst r _ (by have := E.step_top B K hs hB f dst s x; omega)
theorem body_top (hs : Small E.p) : ∀ (n : Nat) (f dst : Int) (C : List CodeD), C.length ≤ 40000 → (E.body n f dst C).length ≤ 40000 + n
  | 0, _, _, _, h => by show _ ≤ _; exact h
  | n + 1, f, dst, C, h => by
    have h1 := E.foldl_top (E.body n) n hs (body_top hs n) f dst (bodyF E.p f).2 ⟨C, [], [], [], false⟩ (by show C.length ≤ _; omega)
    show (finish f dst _).length ≤ _
    unfold finish
    split
    · omega
    · rw [patch_length, patch_length, List.length_append, List.length_singleton]; omega
theorem stAt_top (hs : Small E.p) (n : Nat) (f dst : Int) (C : List CodeD) (code : List InstrD) (k : Nat) (h : C.length ≤ 40000) : (E.stAt (E.body n) f dst C code k).C.length ≤ 40000 + n := by
  unfold stAt
  exact E.foldl_top (E.body n) n hs (E.body_top hs n) f dst _ _ (by show C.length ≤ _; omega)
/-- The calls of a function go at most so deep, and are as they should be. -/
def Fits (p : ProgD) : Nat → Int → Prop
  | 0, _ => False
  | n + 1, f => ∀ x ∈ (bodyF p f).2, x.kind = 4 → ∃ g : Nat, idxS x.name (fNames p.funcs) 0 = g ∧ g < p.funcs.length ∧ x.args.length = (bodyF p g).1.length ∧ Fits p n g
end EnvF
end Go.Proofs.YtgcfdbhpophnjaaDoor
