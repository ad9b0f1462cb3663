/- The program of a string, on plain data: bytes are taken one after another. Plain definitions and lemmas; no condition. Plain laws on the program of a string: its instructions without their labels, and what a beginning of the string says. No condition. -/
import Derived.Test.YtfdinncgncbmfaaGreatDoorLib
import Derived.Lib.ItoaNum
set_option linter.unusedVariables false
namespace Go.Proofs.YtfdinncgncbmfaaGreatDoor
open Go.ChangeShapes Go.WideShapes Go.ChangeAt Go.RowKit
/-- What takes bytes, and says what is left. -/
abbrev PS (α : Type) := List UInt8 → α × List UInt8
def pureS {α : Type} (a : α) : PS α := fun l => (a, l)
def bindS {α β : Type} (p : PS α) (q : α → PS β) : PS β := fun l => q (p l).1 (p l).2
/-- A byte modulo n; zero if there is none. -/
def takeS (n : Nat) : PS Nat := fun l => match l with
  | [] => (0, [])
  | b :: r => (b.toNat % n, r)
/-- A letter and a number. -/
def nmS (c : UInt8) (n : Nat) : ByteArray := ⟨(c :: Lib.decDigits n).toArray⟩
/-- What a function's maker knows: how many arrays and channels there are, how many parameters it has, how many operands each function takes that it may call, and whether it is main. -/
structure EnvS where
  arrs : Nat
  chans : Nat
  par : Nat
  calls : List Nat
  main : Bool
def opdS (par : Nat) : PS ArgD := bindS (takeS 8) fun k =>
  if k < 4 then pureS ⟨nmS 120 k, 0⟩
  else if k < 7 then bindS (takeS 8) fun v => pureS ⟨.empty, v⟩
  else if 0 < par then bindS (takeS par) fun v => pureS ⟨nmS 112 v, 0⟩
  else bindS (takeS 256) fun v => pureS ⟨.empty, v⟩
def opdsS (par : Nat) : Nat → PS (List ArgD)
  | 0 => pureS []
  | n + 1 => bindS (opdS par) fun a => bindS (opdsS par n) fun r => pureS (a :: r)
def dstS : PS ByteArray := bindS (takeS 4) fun k => pureS (nmS 120 k)
def mkI (kind op : Int) (dst name : ByteArray) (args : List ArgD) (t : Int := -1) : InstrD × Int := (⟨kind, op, dst, name, args, 0, 0⟩, t)
def copiedS (E : EnvS) : PS (InstrD × Int) := bindS dstS fun d => bindS (opdsS E.par 1) fun a => pureS (mkI 0 0 d .empty a)
def opS (E : EnvS) : PS (InstrD × Int) := bindS dstS fun d => bindS (takeS 19) fun o => bindS (opdsS E.par (if 2 + o > 3 then 2 else 1)) fun a => pureS (mkI 1 ((2 + o : Nat) : Int) d .empty a)
def loadS (E : EnvS) : PS (InstrD × Int) := if E.arrs = 0 then copiedS E else bindS dstS fun d => bindS (takeS E.arrs) fun m => bindS (opdsS E.par 1) fun a => pureS (mkI 2 0 d (nmS 97 m) a)
def storeS (E : EnvS) : PS (InstrD × Int) := if E.arrs = 0 then copiedS E else bindS (takeS E.arrs) fun m => bindS (opdsS E.par 2) fun a => pureS (mkI 3 0 .empty (nmS 97 m) a)
def callS (E : EnvS) : PS (InstrD × Int) := if E.calls = [] then copiedS E else bindS dstS fun d => bindS (takeS E.calls.length) fun f => bindS (opdsS E.par (E.calls.getD f 0)) fun a => pureS (mkI 4 0 d (nmS 102 f) a)
def readS (E : EnvS) : PS (InstrD × Int) := bindS dstS fun d => bindS (takeS E.chans) fun m => pureS (mkI 5 0 d (nmS 99 m) [])
def writeS (E : EnvS) : PS (InstrD × Int) := bindS (takeS E.chans) fun m => bindS (opdsS E.par 1) fun a => pureS (mkI 6 0 .empty (nmS 99 m) a)
def releaseS (E : EnvS) : PS (InstrD × Int) := bindS dstS fun d => bindS (takeS 2) fun m => bindS (opdsS E.par 1) fun a => pureS (mkI 7 0 d (nmS 115 m) a)
def branchS (E : EnvS) (n : Nat) : PS (InstrD × Int) := bindS (opdsS E.par 1) fun a => bindS (takeS (n + 4)) fun t => pureS (mkI 9 0 .empty .empty a t)
def jumpS (n : Nat) : PS (InstrD × Int) := bindS (takeS (n + 4)) fun t => pureS (mkI 8 0 .empty .empty [] t)
def endS (E : EnvS) : PS (InstrD × Int) := if E.main then pureS (mkI 11 0 .empty .empty []) else bindS (opdsS E.par 1) fun a => pureS (mkI 12 0 .empty .empty a)
/-- What makes the instruction of a byte modulo 16. -/
def makerS (E : EnvS) (n k : Nat) : PS (InstrD × Int) :=
  if k = 0 then copiedS E else if k ≤ 4 then opS E else if k = 5 then loadS E else if k = 6 then storeS E else if k = 7 then callS E else if k ≤ 9 then readS E
  else if k ≤ 11 then writeS E else if k = 12 then releaseS E else if k = 13 then branchS E n else if k = 14 then jumpS n else endS E
def instrS (E : EnvS) (n : Nat) : PS (InstrD × Int) := bindS (takeS 16) fun k => makerS E n k
/-- So many instructions. -/
def codeS (E : EnvS) : Nat → List (InstrD × Int) → PS (List (InstrD × Int))
  | 0, acc => pureS acc
  | m + 1, acc => bindS (instrS E acc.length) fun x => codeS E m (acc ++ [x])
/-- Instructions while there are bytes. -/
def mainS (E : EnvS) : Nat → List (InstrD × Int) → PS (List (InstrD × Int))
  | 0, acc => pureS acc
  | m + 1, acc => fun l => if l = [] then (acc, l) else bindS (instrS E acc.length) (fun x => mainS E m (acc ++ [x])) l
/-- Where a target leads in so many instructions. -/
def tgtS (n : Nat) (t : Int) : Option Nat := if 0 ≤ t then some (min t.toNat n) else none
def fixS (n : Nat) (x : InstrD × Int) : InstrD := match tgtS n x.2 with
  | some t => { x.1 with name := nmS 76 t }
  | none => x.1
def wantS (c : List (InstrD × Int)) (i : Nat) : Bool := c.any fun x => tgtS c.length x.2 == some i
def labelI (i : Nat) : InstrD := ⟨10, 0, .empty, nmS 76 i, [], 0, 0⟩
def atS (c : List (InstrD × Int)) (i : Nat) : List InstrD := (if wantS c i then [labelI i] else []) ++ (c[i]?.map (fixS c.length)).toList
/-- The instructions with their labels. -/
def labelledS (c : List (InstrD × Int)) : List InstrD := (List.range (c.length + 1)).flatMap (atS c)
def timesS {α : Type} (f : Nat → PS α) : Nat → Nat → List α → PS (List α)
  | 0, _, acc => pureS acc
  | m + 1, i, acc => bindS (f i) fun x => timesS f m (i + 1) (acc ++ [x])
def funcS (arrs chans : Nat) (i : Nat) (had : List FuncD) : PS FuncD := bindS (takeS 3) fun p => bindS (takeS 7) fun m =>
  bindS (codeS ⟨arrs, chans, p, (had.take i).map (·.params.length), false⟩ m []) fun c => pureS ⟨nmS 102 i, (List.range p).map (nmS 112), labelledS c, 0, 0⟩
def funcsS (arrs chans : Nat) : Nat → List FuncD → PS (List FuncD)
  | 0, acc => pureS acc
  | m + 1, acc => bindS (funcS arrs chans acc.length acc) fun f => funcsS arrs chans m (acc ++ [f])
/-- All that comes before main. -/
def headS : PS ProgD := bindS (takeS 4) fun w => bindS (takeS 3) fun c => bindS (takeS 3) fun a =>
  bindS (timesS (fun i => bindS (takeS 4) fun z => pureS (⟨nmS 97 i, 1 + (z : Int)⟩ : ArrD)) a 0 []) fun arrs => bindS (takeS 3) fun f =>
  bindS (funcsS arrs.length (1 + c) f []) fun funcs => pureS ⟨1 + (w : Int), (List.range (1 + c)).map (nmS 99), arrs, funcs, []⟩
def mainE (p : ProgD) : EnvS := ⟨p.arrays.length, p.chans.length, 0, p.funcs.map (·.params.length), true⟩
def progS (s : List UInt8) : ProgD := { (headS s).1 with main := labelledS (mainS (mainE (headS s).1) 20 [] (headS s).2).1 }
/-! What the string's beginning says. -/
/-- What takes bytes takes the same from a longer string, if it leaves some. -/
structure Parse {α : Type} (p : PS α) : Prop where
  pre : ∀ l t, (p l).2 ≠ [] → p (l ++ t) = ((p l).1, (p l).2 ++ t)
  nil : (p []).2 = []
theorem Parse.pure {α : Type} (a : α) : Parse (pureS a) := ⟨fun l t _ => rfl, rfl⟩
theorem Parse.take (n : Nat) : Parse (takeS n) := ⟨fun l t h => by cases l with | nil => exact absurd rfl h | cons b r => rfl, rfl⟩
theorem Parse.bind {α β : Type} {p : PS α} {q : α → PS β} (hp : Parse p) (hq : ∀ a, Parse (q a)) : Parse (bindS p q) := by
  refine ⟨fun l t h => ?_, ?_⟩
  · have h1 : (p l).2 ≠ [] := by
      intro h0
      apply h
      unfold bindS
      rw [h0]
      exact (hq _).nil
    unfold bindS at h ⊢
    rw [hp.pre l t h1]
    exact (hq _).pre _ t h
  · unfold bindS
    rw [hp.nil]
    exact (hq _).nil
theorem Parse.ite {α : Type} {c : Prop} [Decidable c] {p q : PS α} (hp : Parse p) (hq : Parse q) : Parse (if c then p else q) := by
  by_cases h : c
  · rw [if_pos h]; exact hp
  · rw [if_neg h]; exact hq
theorem Parse.bite {α : Type} {c : Bool} {p q : PS α} (hp : Parse p) (hq : Parse q) : Parse (if c then p else q) := Parse.ite hp hq
theorem parse_opd (par : Nat) : Parse (opdS par) :=
  (Parse.take 8).bind fun k => Parse.ite (Parse.pure _) (Parse.ite ((Parse.take 8).bind fun v => Parse.pure _) (Parse.ite ((Parse.take par).bind fun v => Parse.pure _) ((Parse.take 256).bind fun v => Parse.pure _)))
theorem parse_opds (par : Nat) : ∀ n, Parse (opdsS par n)
  | 0 => Parse.pure _
  | n + 1 => (parse_opd par).bind fun a => (parse_opds par n).bind fun r => Parse.pure _
theorem parse_dst : Parse dstS := (Parse.take 4).bind fun k => Parse.pure _
theorem parse_copied (E : EnvS) : Parse (copiedS E) := parse_dst.bind fun d => (parse_opds _ _).bind fun a => Parse.pure _
theorem parse_maker (E : EnvS) (n k : Nat) : Parse (makerS E n k) := by
  unfold makerS
  refine Parse.ite (parse_copied E) (Parse.ite ?_ (Parse.ite ?_ (Parse.ite ?_ (Parse.ite ?_ (Parse.ite ?_ (Parse.ite ?_ (Parse.ite ?_ (Parse.ite ?_ (Parse.ite ?_ ?_)))))))))
  · exact parse_dst.bind fun d => (Parse.take 19).bind fun o => (parse_opds _ _).bind fun a => Parse.pure _
  · exact Parse.ite (parse_copied E) (parse_dst.bind fun d => (Parse.take _).bind fun m => (parse_opds _ _).bind fun a => Parse.pure _)
  · exact Parse.ite (parse_copied E) ((Parse.take _).bind fun m => (parse_opds _ _).bind fun a => Parse.pure _)
  · exact Parse.ite (parse_copied E) (parse_dst.bind fun d => (Parse.take _).bind fun m => (parse_opds _ _).bind fun a => Parse.pure _)
  · exact parse_dst.bind fun d => (Parse.take _).bind fun m => Parse.pure _
  · exact (Parse.take _).bind fun m => (parse_opds _ _).bind fun a => Parse.pure _
  · exact parse_dst.bind fun d => (Parse.take _).bind fun m => (parse_opds _ _).bind fun a => Parse.pure _
  · exact (parse_opds _ _).bind fun a => (Parse.take _).bind fun t => Parse.pure _
  · exact (Parse.take _).bind fun t => Parse.pure _
  · exact Parse.bite (Parse.pure _) ((parse_opds _ _).bind fun a => Parse.pure _)
theorem parse_instr (E : EnvS) (n : Nat) : Parse (instrS E n) := (Parse.take 16).bind fun k => parse_maker E n k
theorem parse_code (E : EnvS) : ∀ m acc, Parse (codeS E m acc)
  | 0, acc => Parse.pure _
  | m + 1, acc => (parse_instr E _).bind fun x => parse_code E m _
theorem parse_times {α : Type} {f : Nat → PS α} (hf : ∀ i, Parse (f i)) : ∀ m i acc, Parse (timesS f m i acc)
  | 0, i, acc => Parse.pure _
  | m + 1, i, acc => (hf i).bind fun x => parse_times hf m _ _
theorem parse_func (a c i : Nat) (h : List FuncD) : Parse (funcS a c i h) := (Parse.take 3).bind fun p => (Parse.take 7).bind fun m => (parse_code _ _ _).bind fun c => Parse.pure _
theorem parse_funcs (a c : Nat) : ∀ m acc, Parse (funcsS a c m acc)
  | 0, acc => Parse.pure _
  | m + 1, acc => (parse_func a c _ _).bind fun f => parse_funcs a c m _
theorem parse_head : Parse headS :=
  (Parse.take 4).bind fun w => (Parse.take 3).bind fun c => (Parse.take 3).bind fun a => (parse_times (fun i => (Parse.take 4).bind fun z => Parse.pure _) a 0 []).bind fun arrs =>
    (Parse.take 3).bind fun f => (parse_funcs _ _ f []).bind fun funcs => Parse.pure _
theorem main_grows (E : EnvS) : ∀ m acc l, ∃ r, (mainS E m acc l).1 = acc ++ r
  | 0, acc, l => ⟨[], by simp [mainS, pureS]⟩
  | m + 1, acc, l => by
    unfold mainS
    by_cases h : l = []
    · rw [if_pos h]; exact ⟨[], by simp⟩
    · rw [if_neg h]
      obtain ⟨r, hr⟩ := main_grows E m (acc ++ [(instrS E acc.length l).1]) (instrS E acc.length l).2
      exact ⟨(instrS E acc.length l).1 :: r, by unfold bindS; rw [hr]; simp⟩
theorem main_nil (E : EnvS) (m : Nat) (acc : List (InstrD × Int)) : mainS E m acc [] = (acc, []) := by
  cases m with
  | zero => rfl
  | succ m => unfold mainS; rw [if_pos rfl]
/-- A longer string has at least as many instructions, and all but the last one are the same. -/
theorem main_less (E : EnvS) : ∀ m acc l t, (mainS E m acc l).1.length ≤ (mainS E m acc (l ++ t)).1.length ∧ ∀ i, i + 1 < (mainS E m acc l).1.length → (mainS E m acc l).1[i]? = (mainS E m acc (l ++ t)).1[i]?
  | 0, acc, l, t => ⟨Nat.le_refl _, fun _ _ => rfl⟩
  | m + 1, acc, l, t => by
    by_cases hl : l = []
    · subst hl
      rw [main_nil, List.nil_append]
      obtain ⟨r, hr⟩ := main_grows E (m + 1) acc t
      rw [hr]
      refine ⟨by simp, fun i hi => ?_⟩
      have hi' : i + 1 < acc.length := hi
      rw [List.getElem?_append_left (by omega)]
    · have e1 : mainS E (m + 1) acc l = mainS E m (acc ++ [(instrS E acc.length l).1]) (instrS E acc.length l).2 := by
        conv => lhs; unfold mainS
        rw [if_neg hl]; rfl
      have e2 : mainS E (m + 1) acc (l ++ t) = mainS E m (acc ++ [(instrS E acc.length (l ++ t)).1]) (instrS E acc.length (l ++ t)).2 := by
        conv => lhs; unfold mainS
        rw [if_neg (by simp [hl])]; rfl
      rw [e1, e2]
      by_cases hr : (instrS E acc.length l).2 = []
      · rw [hr, main_nil]
        obtain ⟨r, hr2⟩ := main_grows E m (acc ++ [(instrS E acc.length (l ++ t)).1]) (instrS E acc.length (l ++ t)).2
        rw [hr2]
        refine ⟨by simp, fun i hi => ?_⟩
        have hi' : i < acc.length := by simpa using hi
        rw [List.getElem?_append_left hi', List.append_assoc, List.getElem?_append_left hi']
      · rw [(parse_instr E acc.length).pre l t hr]
        exact main_less E m _ _ t
open Go.ChangeShapes Go.WideShapes Go.ChangeAt Go.RowKit
/-- Whatever bytes are taken, this holds of what is made of them. -/
def AllS {α : Type} (p : PS α) (P : α → Prop) : Prop := ∀ l, P (p l).1
theorem AllS.pure {α : Type} {P : α → Prop} {a : α} (h : P a) : AllS (pureS a) P := fun _ => h
theorem AllS.bind {α β : Type} {p : PS α} {q : α → PS β} {P : β → Prop} (h : ∀ a, AllS (q a) P) : AllS (bindS p q) P := fun l => h _ _
theorem AllS.ite {α : Type} {P : α → Prop} {c : Prop} [Decidable c] {p q : PS α} (hp : AllS p P) (hq : AllS q P) : AllS (if c then p else q) P := by
  by_cases h : c
  · rw [if_pos h]; exact hp
  · rw [if_neg h]; exact hq
def OkI (x : InstrD × Int) : Prop := x.1.kind ≠ 10 ∧ (0 ≤ x.2 → x.1.kind = 8 ∨ x.1.kind = 9)
theorem ok_copied (E : EnvS) : AllS (copiedS E) OkI := AllS.bind fun d => AllS.bind fun a => AllS.pure ⟨by simp [mkI], fun h => by simp [mkI] at h⟩
theorem ok_maker (E : EnvS) (n k : Nat) : AllS (makerS E n k) OkI := by
  unfold makerS
  refine AllS.ite (ok_copied E) (AllS.ite ?_ (AllS.ite ?_ (AllS.ite ?_ (AllS.ite ?_ (AllS.ite ?_ (AllS.ite ?_ (AllS.ite ?_ (AllS.ite ?_ (AllS.ite ?_ ?_)))))))))
  · exact AllS.bind fun d => AllS.bind fun o => AllS.bind fun a => AllS.pure ⟨by simp [mkI], fun h => by simp [mkI] at h⟩
  · exact AllS.ite (ok_copied E) (AllS.bind fun d => AllS.bind fun o => AllS.bind fun a => AllS.pure ⟨by simp [mkI], fun h => by simp [mkI] at h⟩)
  · exact AllS.ite (ok_copied E) (AllS.bind fun o => AllS.bind fun a => AllS.pure ⟨by simp [mkI], fun h => by simp [mkI] at h⟩)
  · exact AllS.ite (ok_copied E) (AllS.bind fun d => AllS.bind fun o => AllS.bind fun a => AllS.pure ⟨by simp [mkI], fun h => by simp [mkI] at h⟩)
  · exact AllS.bind fun d => AllS.bind fun o => AllS.pure ⟨by simp [mkI], fun h => by simp [mkI] at h⟩
  · exact AllS.bind fun o => AllS.bind fun a => AllS.pure ⟨by simp [mkI], fun h => by simp [mkI] at h⟩
  · exact AllS.bind fun d => AllS.bind fun o => AllS.bind fun a => AllS.pure ⟨by simp [mkI], fun h => by simp [mkI] at h⟩
  · exact AllS.bind fun a => AllS.bind fun t => AllS.pure ⟨by simp [mkI], fun _ => .inr rfl⟩
  · exact AllS.bind fun t => AllS.pure ⟨by simp [mkI], fun _ => .inl rfl⟩
  · exact AllS.ite (AllS.pure ⟨by simp [mkI], fun h => by simp [mkI] at h⟩) (AllS.bind fun a => AllS.pure ⟨by simp [mkI], fun h => by simp [mkI] at h⟩)
theorem ok_instr (E : EnvS) (n : Nat) : AllS (instrS E n) OkI := AllS.bind fun k => ok_maker E n k
theorem ok_main (E : EnvS) : ∀ m acc l, (∀ x ∈ acc, OkI x) → ∀ x ∈ (mainS E m acc l).1, OkI x
  | 0, acc, l, h => h
  | m + 1, acc, l, h => by
    unfold mainS
    by_cases hl : l = []
    · rw [if_pos hl]; exact h
    · rw [if_neg hl]
      refine ok_main E m _ _ fun x hx => ?_
      rcases List.mem_append.1 hx with hx | hx
      · exact h x hx
      · simp only [List.mem_cons, List.not_mem_nil, or_false] at hx
        subst hx
        exact ok_instr E _ _
/-- The instructions that are no labels. -/
def bareS (l : List InstrD) : List InstrD := l.filter fun x => x.kind != 10
theorem fix_kind (n : Nat) (x : InstrD × Int) : (fixS n x).kind = x.1.kind := by unfold fixS; split <;> rfl
theorem bare_at {c : List (InstrD × Int)} (h : ∀ x ∈ c, OkI x) (i : Nat) : bareS (atS c i) = (c[i]?.map (fixS c.length)).toList := by
  unfold atS bareS
  rw [List.filter_append]
  have h1 : List.filter (fun x => x.kind != 10) (if wantS c i = true then [labelI i] else []) = [] := by split <;> rfl
  rw [h1, List.nil_append]
  cases hc : c[i]? with
  | none => rfl
  | some x =>
    have hk := (h x (List.mem_of_getElem? hc)).1
    simp [fix_kind, hk]
theorem range_gets {α β : Type} (f : α → β) (c : List α) : ∀ n, c.length ≤ n → ((List.range n).flatMap fun i => (c[i]?.map f).toList) = c.map f := by
  induction c with
  | nil =>
    intro n _
    simp
  | cons a r ih =>
    intro n hn
    obtain ⟨m, rfl⟩ : ∃ m, n = m + 1 := ⟨n - 1, by simp at hn; omega⟩
    rw [List.range_succ_eq_map]
    simp only [List.flatMap_cons, List.getElem?_cons_zero, List.map_cons, Option.map_some, Option.toList_some, List.singleton_append, List.flatMap_map, List.getElem?_cons_succ]
    rw [ih m (by simpa using hn)]
theorem bare_labelled {c : List (InstrD × Int)} (h : ∀ x ∈ c, OkI x) : bareS (labelledS c) = c.map (fixS c.length) := by
  unfold labelledS
  have : bareS ((List.range (c.length + 1)).flatMap (atS c)) = (List.range (c.length + 1)).flatMap fun i => bareS (atS c i) := by
    unfold bareS
    rw [List.filter_flatMap]
  rw [this]
  simp only [bare_at h]
  exact range_gets (fixS c.length) c _ (Nat.le_succ _)
/-- What main is made of. -/
def partsS (s : List UInt8) : List (InstrD × Int) := (mainS (mainE (headS s).1) 20 [] (headS s).2).1
theorem parts_ok (s : List UInt8) : ∀ x ∈ partsS s, OkI x := ok_main _ _ _ _ (fun x h => absurd h (by simp))
theorem bare_main (s : List UInt8) : bareS (progS s).main = (partsS s).map (fixS (partsS s).length) := bare_labelled (parts_ok s)
/-- An instruction whose name is taken away if it is a jump. -/
def blankI (x : InstrD) : InstrD := if x.kind = 8 ∨ x.kind = 9 then { x with name := .empty } else x
theorem blank_fix (n m : Nat) {x : InstrD × Int} (h : OkI x) : blankI (fixS n x) = blankI (fixS m x) := by
  unfold fixS tgtS
  by_cases h0 : 0 ≤ x.2
  · rw [if_pos h0, if_pos h0]
    unfold blankI
    simp only [h.2 h0, if_true]
  · rw [if_neg h0, if_neg h0]
/-- **What main has for a string it has for one that begins with it.** -/
theorem less_law (s t : List UInt8) : (bareS (progS s).main).length ≤ (bareS (progS (s ++ t)).main).length ∧
    ∀ i x y, i + 1 < (bareS (progS s).main).length → (bareS (progS s).main)[i]? = some x → (bareS (progS (s ++ t)).main)[i]? = some y → blankI x = blankI y := by
  rw [bare_main, bare_main]
  have key : (partsS s).length ≤ (partsS (s ++ t)).length ∧ ∀ i, i + 1 < (partsS s).length → (partsS s)[i]? = (partsS (s ++ t))[i]? := by
    by_cases h : (headS s).2 = []
    · have : partsS s = [] := by unfold partsS; rw [h, main_nil]
      rw [this]
      exact ⟨by simp, fun i hi => by simp at hi⟩
    · unfold partsS
      rw [parse_head.pre s t h]
      exact main_less _ _ _ _ t
  refine ⟨by simpa using key.1, fun i x y hi hx hy => ?_⟩
  have hi' : i + 1 < (partsS s).length := by simpa using hi
  have hk := key.2 i hi'
  rw [List.getElem?_map] at hx hy
  rw [← hk] at hy
  cases hp : (partsS s)[i]? with
  | none => rw [hp] at hx; simp at hx
  | some z =>
    rw [hp] at hx hy
    simp only [Option.map_some, Option.some.injEq] at hx hy
    subst hx; subst hy
    exact blank_fix _ _ (parts_ok s z (List.mem_of_getElem? hp))
/-! The examples. -/
theorem head_zero (l : List UInt8) : headS (0 :: 0 :: 0 :: 0 :: l) = (⟨1, [nmS 99 0], [], [], []⟩, l) := rfl
/-- The environment of main in a program without functions and arrays, with one channel. -/
def env0 : EnvS := ⟨0, 1, 0, [], true⟩
theorem parts_zero (l : List UInt8) : partsS (0 :: 0 :: 0 :: 0 :: l) = (mainS env0 20 [] l).1 := rfl
theorem main_first (E : EnvS) (m : Nat) (b : UInt8) (l : List UInt8) : ∃ r, (mainS E (m + 1) [] (b :: l)).1 = (instrS E 0 (b :: l)).1 :: r := by
  unfold mainS
  rw [if_neg (by simp)]
  obtain ⟨r, hr⟩ := main_grows E m ([] ++ [(instrS E 0 (b :: l)).1]) (instrS E 0 (b :: l)).2
  exact ⟨r, by
    show (mainS E m ([] ++ [(instrS E 0 (b :: l)).1]) (instrS E 0 (b :: l)).2).1 = _
    rw [hr]; rfl⟩
/-- The kind of the instruction of a byte modulo 16, in a program without functions and arrays. -/
def kindS (k : Nat) : Int := if k = 0 then 0 else if k ≤ 4 then 1 else if k ≤ 7 then 0 else if k ≤ 9 then 5 else if k ≤ 11 then 6 else if k = 12 then 7 else if k = 13 then 9 else if k = 14 then 8 else 11
theorem kind_maker (k : Nat) : AllS (makerS env0 0 k) (fun x => x.1.kind = kindS k) := by
  have hc : AllS (copiedS env0) (fun x => x.1.kind = 0) := AllS.bind fun d => AllS.bind fun a => AllS.pure rfl
  unfold makerS kindS
  by_cases h0 : k = 0
  · simp only [h0, if_true]; exact hc
  by_cases h1 : k ≤ 4
  · simp only [h0, h1, if_true, if_false]; exact AllS.bind fun d => AllS.bind fun o => AllS.bind fun a => AllS.pure rfl
  by_cases h5 : k = 5
  · subst h5; exact hc
  by_cases h6 : k = 6
  · subst h6; exact hc
  by_cases h7 : k = 7
  · subst h7; exact hc
  have h77 : ¬ k ≤ 7 := by omega
  by_cases h9 : k ≤ 9
  · simp only [h0, h1, h5, h6, h7, h77, h9, if_true, if_false]; exact AllS.bind fun d => AllS.bind fun o => AllS.pure rfl
  by_cases h11 : k ≤ 11
  · simp only [h0, h1, h5, h6, h7, h77, h9, h11, if_true, if_false]; exact AllS.bind fun o => AllS.bind fun a => AllS.pure rfl
  by_cases h12 : k = 12
  · subst h12; show AllS (releaseS env0) (fun x => x.1.kind = 7); exact AllS.bind fun d => AllS.bind fun o => AllS.bind fun a => AllS.pure rfl
  by_cases h13 : k = 13
  · subst h13; show AllS (branchS env0 0) (fun x => x.1.kind = 9); exact AllS.bind fun a => AllS.bind fun t => AllS.pure rfl
  by_cases h14 : k = 14
  · subst h14; show AllS (jumpS 0) (fun x => x.1.kind = 8); exact AllS.bind fun t => AllS.pure rfl
  simp only [h0, h1, h5, h6, h7, h77, h9, h11, h12, h13, h14, if_false]
  show AllS (endS env0) (fun x => x.1.kind = 11)
  exact AllS.pure rfl
/-- **The first byte of main says which kind of instruction comes.** -/
theorem kinds_law (b : UInt8) (l : List UInt8) : ∃ x r, bareS (progS (0 :: 0 :: 0 :: 0 :: b :: l)).main = x :: r ∧ x.kind = kindS (b.toNat % 16) := by
  rw [bare_main, parts_zero]
  obtain ⟨r, hr⟩ := main_first env0 19 b l
  rw [hr, List.map_cons]
  refine ⟨_, _, rfl, ?_⟩
  rw [fix_kind]
  exact kind_maker (b.toNat % 16) l
/-! Zeros at the end. -/
/-- Zeros at the end of the bytes make no difference, but to what is left. -/
def ZeroS {α : Type} (p : PS α) : Prop := ∀ l k, ∃ j, p (l ++ List.replicate k 0) = ((p l).1, (p l).2 ++ List.replicate j 0)
theorem ZeroS.pure {α : Type} (a : α) : ZeroS (pureS a) := fun l k => ⟨k, rfl⟩
theorem ZeroS.take (n : Nat) : ZeroS (takeS n) := fun l k => by
  cases l with
  | cons b r => exact ⟨k, rfl⟩
  | nil =>
    cases k with
    | zero => exact ⟨0, rfl⟩
    | succ k => exact ⟨k, by
        show takeS n ([] ++ (0 : UInt8) :: List.replicate k 0) = _
        simp [takeS]⟩
theorem ZeroS.bind {α β : Type} {p : PS α} {q : α → PS β} (hp : ZeroS p) (hq : ∀ a, ZeroS (q a)) : ZeroS (bindS p q) := fun l k => by
  obtain ⟨j, hj⟩ := hp l k
  obtain ⟨i, hi⟩ := hq (p l).1 (p l).2 j
  refine ⟨i, ?_⟩
  unfold bindS
  rw [hj]
  exact hi
theorem ZeroS.ite {α : Type} {c : Prop} [Decidable c] {p q : PS α} (hp : ZeroS p) (hq : ZeroS q) : ZeroS (if c then p else q) := by
  by_cases h : c
  · rw [if_pos h]; exact hp
  · rw [if_neg h]; exact hq
theorem zero_opd (par : Nat) : ZeroS (opdS par) :=
  (ZeroS.take 8).bind fun k => ZeroS.ite (ZeroS.pure _) (ZeroS.ite ((ZeroS.take 8).bind fun v => ZeroS.pure _) (ZeroS.ite ((ZeroS.take par).bind fun v => ZeroS.pure _) ((ZeroS.take 256).bind fun v => ZeroS.pure _)))
theorem zero_opds (par : Nat) : ∀ n, ZeroS (opdsS par n)
  | 0 => ZeroS.pure _
  | n + 1 => (zero_opd par).bind fun a => (zero_opds par n).bind fun r => ZeroS.pure _
theorem zero_dst : ZeroS dstS := (ZeroS.take 4).bind fun k => ZeroS.pure _
theorem zero_copied (E : EnvS) : ZeroS (copiedS E) := zero_dst.bind fun d => (zero_opds _ _).bind fun a => ZeroS.pure _
theorem zero_maker (E : EnvS) (n k : Nat) : ZeroS (makerS E n k) := by
  unfold makerS
  refine ZeroS.ite (zero_copied E) (ZeroS.ite ?_ (ZeroS.ite ?_ (ZeroS.ite ?_ (ZeroS.ite ?_ (ZeroS.ite ?_ (ZeroS.ite ?_ (ZeroS.ite ?_ (ZeroS.ite ?_ (ZeroS.ite ?_ ?_)))))))))
  · exact zero_dst.bind fun d => (ZeroS.take 19).bind fun o => (zero_opds _ _).bind fun a => ZeroS.pure _
  · exact ZeroS.ite (zero_copied E) (zero_dst.bind fun d => (ZeroS.take _).bind fun m => (zero_opds _ _).bind fun a => ZeroS.pure _)
  · exact ZeroS.ite (zero_copied E) ((ZeroS.take _).bind fun m => (zero_opds _ _).bind fun a => ZeroS.pure _)
  · exact ZeroS.ite (zero_copied E) (zero_dst.bind fun d => (ZeroS.take _).bind fun m => (zero_opds _ _).bind fun a => ZeroS.pure _)
  · exact zero_dst.bind fun d => (ZeroS.take _).bind fun m => ZeroS.pure _
  · exact (ZeroS.take _).bind fun m => (zero_opds _ _).bind fun a => ZeroS.pure _
  · exact zero_dst.bind fun d => (ZeroS.take _).bind fun m => (zero_opds _ _).bind fun a => ZeroS.pure _
  · exact (zero_opds _ _).bind fun a => (ZeroS.take _).bind fun t => ZeroS.pure _
  · exact (ZeroS.take _).bind fun t => ZeroS.pure _
  · exact ZeroS.ite (ZeroS.pure _) ((zero_opds _ _).bind fun a => ZeroS.pure _)
theorem zero_instr (E : EnvS) (n : Nat) : ZeroS (instrS E n) := (ZeroS.take 16).bind fun k => zero_maker E n k
theorem zero_code (E : EnvS) : ∀ m acc, ZeroS (codeS E m acc)
  | 0, acc => ZeroS.pure _
  | m + 1, acc => (zero_instr E _).bind fun x => zero_code E m _
theorem zero_times {α : Type} {f : Nat → PS α} (hf : ∀ i, ZeroS (f i)) : ∀ m i acc, ZeroS (timesS f m i acc)
  | 0, i, acc => ZeroS.pure _
  | m + 1, i, acc => (hf i).bind fun x => zero_times hf m _ _
theorem zero_func (a c i : Nat) (h : List FuncD) : ZeroS (funcS a c i h) := (ZeroS.take 3).bind fun p => (ZeroS.take 7).bind fun m => (zero_code _ _ _).bind fun c => ZeroS.pure _
theorem zero_funcs (a c : Nat) : ∀ m acc, ZeroS (funcsS a c m acc)
  | 0, acc => ZeroS.pure _
  | m + 1, acc => (zero_func a c _ _).bind fun f => zero_funcs a c m _
theorem zero_head : ZeroS headS :=
  (ZeroS.take 4).bind fun w => (ZeroS.take 3).bind fun c => (ZeroS.take 3).bind fun a => (zero_times (fun i => (ZeroS.take 4).bind fun z => ZeroS.pure _) a 0 []).bind fun arrs =>
    (ZeroS.take 3).bind fun f => (zero_funcs _ _ f []).bind fun funcs => ZeroS.pure _
/-- **Zeros at the end make no difference but for the instructions of main.** -/
theorem zeros_law (s : List UInt8) (k : Nat) : { progS (s ++ List.replicate k 0) with main := [] } = { progS s with main := [] } := by
  obtain ⟨j, hj⟩ := zero_head s k
  unfold progS
  rw [hj]
/-! Every operator can be had. -/
def opsB (o a b : Nat) : List UInt8 := [0, 0, 0, 0, 1, 0, UInt8.ofNat o, UInt8.ofNat a, 4, UInt8.ofNat b]
/-- What main is, for these bytes: the first instruction, and whether there is another. -/
def opsOk (o a b : Nat) : Bool := match (progS (opsB o a b)).main with
  | x :: r => x.kind == 1 && (x.op == 2 + (o : Int)) && (x.dst.data.toList == [120, 48]) && (match x.args with | y :: z => (y.name.data.toList == [120, UInt8.ofNat (48 + a)]) && (if o < 2 then z.isEmpty else r.isEmpty && (match z with | [u] => u.name.data.toList.isEmpty && u.num == (b : Int) | _ => false)) | [] => false)
  | [] => false
theorem ops_all : ((List.range 19).all fun o => (List.range 4).all fun a => (List.range 8).all fun b => opsOk o a b) = true := by decide +kernel
theorem ops_law (o a b : Nat) (ho : o < 19) (ha : a < 4) (hb : b < 8) : opsOk o a b = true := by
  have h := ops_all
  rw [List.all_eq_true] at h
  have h1 := h o (by simpa using ho)
  rw [List.all_eq_true] at h1
  have h2 := h1 a (by simpa using ha)
  rw [List.all_eq_true] at h2
  exact h2 b (by simpa using hb)
end Go.Proofs.YtfdinncgncbmfaaGreatDoor
