/- The program of a string, on plain data: bytes are taken one after another. Plain definitions and lemmas; no condition. -/
import Derived.Test.YtbfkhnmpfffkmaaDoorLib
import Derived.Lib.ItoaNum
set_option linter.unusedVariables false
namespace Go.Proofs.YtbfkhnmpfffkmaaDoor
open Go.ChangeShapes Go.WideShapes Go.ChangeAt Go.RowKit
/-- What takes bytes, and says what is left. -/
abbrev PS (α : Type) := List UInt8 → α × List UInt8
def pureS {α : Type} (a : α) : PS α := fun l => (a, l)
def bindS {α β : Type} (p : PS α) (q : α → PS β) : PS β := fun l => q (p l).1 (p l).2
/-- A byte modulo n; zero if there is none. -/
def takeS (n : Nat) : PS Nat := fun l => match l with
  | [] => (0, [])
  | b :: r => (b.toNat % n, r)
/-- A letter and a number. -/
def nmS (c : UInt8) (n : Nat) : ByteArray := ⟨(c :: Lib.decDigits n).toArray⟩
/-- What a function's maker knows: how many arrays and channels there are, how many parameters it has, how many operands each function takes that it may call, and whether it is main. -/
structure EnvS where
  arrs : Nat
  chans : Nat
  par : Nat
  calls : List Nat
  main : Bool
def opdS (par : Nat) : PS ArgD := bindS (takeS 8) fun k =>
  if k < 4 then pureS ⟨nmS 120 k, 0⟩
  else if k < 7 then bindS (takeS 8) fun v => pureS ⟨.empty, v⟩
  else if 0 < par then bindS (takeS par) fun v => pureS ⟨nmS 112 v, 0⟩
  else bindS (takeS 256) fun v => pureS ⟨.empty, v⟩
def opdsS (par : Nat) : Nat → PS (List ArgD)
  | 0 => pureS []
  | n + 1 => bindS (opdS par) fun a => bindS (opdsS par n) fun r => pureS (a :: r)
def dstS : PS ByteArray := bindS (takeS 4) fun k => pureS (nmS 120 k)
def mkI (kind op : Int) (dst name : ByteArray) (args : List ArgD) (t : Int := -1) : InstrD × Int := (⟨kind, op, dst, name, args, 0, 0⟩, t)
def copiedS (E : EnvS) : PS (InstrD × Int) := bindS dstS fun d => bindS (opdsS E.par 1) fun a => pureS (mkI 0 0 d .empty a)
def opS (E : EnvS) : PS (InstrD × Int) := bindS dstS fun d => bindS (takeS 19) fun o => bindS (opdsS E.par (if 2 + o > 3 then 2 else 1)) fun a => pureS (mkI 1 ((2 + o : Nat) : Int) d .empty a)
def loadS (E : EnvS) : PS (InstrD × Int) := if E.arrs = 0 then copiedS E else bindS dstS fun d => bindS (takeS E.arrs) fun m => bindS (opdsS E.par 1) fun a => pureS (mkI 2 0 d (nmS 97 m) a)
def storeS (E : EnvS) : PS (InstrD × Int) := if E.arrs = 0 then copiedS E else bindS (takeS E.arrs) fun m => bindS (opdsS E.par 2) fun a => pureS (mkI 3 0 .empty (nmS 97 m) a)
def callS (E : EnvS) : PS (InstrD × Int) := if E.calls = [] then copiedS E else bindS dstS fun d => bindS (takeS E.calls.length) fun f => bindS (opdsS E.par (E.calls.getD f 0)) fun a => pureS (mkI 4 0 d (nmS 102 f) a)
def readS (E : EnvS) : PS (InstrD × Int) := bindS dstS fun d => bindS (takeS E.chans) fun m => pureS (mkI 5 0 d (nmS 99 m) [])
def writeS (E : EnvS) : PS (InstrD × Int) := bindS (takeS E.chans) fun m => bindS (opdsS E.par 1) fun a => pureS (mkI 6 0 .empty (nmS 99 m) a)
def releaseS (E : EnvS) : PS (InstrD × Int) := bindS dstS fun d => bindS (takeS 2) fun m => bindS (opdsS E.par 1) fun a => pureS (mkI 7 0 d (nmS 115 m) a)
def branchS (E : EnvS) (n : Nat) : PS (InstrD × Int) := bindS (opdsS E.par 1) fun a => bindS (takeS (n + 4)) fun t => pureS (mkI 9 0 .empty .empty a t)
def jumpS (n : Nat) : PS (InstrD × Int) := bindS (takeS (n + 4)) fun t => pureS (mkI 8 0 .empty .empty [] t)
def endS (E : EnvS) : PS (InstrD × Int) := if E.main then pureS (mkI 11 0 .empty .empty []) else bindS (opdsS E.par 1) fun a => pureS (mkI 12 0 .empty .empty a)
/-- What makes the instruction of a byte modulo 16. -/
def makerS (E : EnvS) (n k : Nat) : PS (InstrD × Int) :=
  if k = 0 then copiedS E else if k ≤ 4 then opS E else if k = 5 then loadS E else if k = 6 then storeS E else if k = 7 then callS E else if k ≤ 9 then readS E
  else if k ≤ 11 then writeS E else if k = 12 then releaseS E else if k = 13 then branchS E n else if k = 14 then jumpS n else endS E
def instrS (E : EnvS) (n : Nat) : PS (InstrD × Int) := bindS (takeS 16) fun k => makerS E n k
/-- So many instructions. -/
def codeS (E : EnvS) : Nat → List (InstrD × Int) → PS (List (InstrD × Int))
  | 0, acc => pureS acc
  | m + 1, acc => bindS (instrS E acc.length) fun x => codeS E m (acc ++ [x])
/-- Instructions while there are bytes. -/
def mainS (E : EnvS) : Nat → List (InstrD × Int) → PS (List (InstrD × Int))
  | 0, acc => pureS acc
  | m + 1, acc => fun l => if l = [] then (acc, l) else bindS (instrS E acc.length) (fun x => mainS E m (acc ++ [x])) l
/-- Where a target leads in so many instructions. -/
def tgtS (n : Nat) (t : Int) : Option Nat := if 0 ≤ t then some (min t.toNat n) else none
def fixS (n : Nat) (x : InstrD × Int) : InstrD := match tgtS n x.2 with
  | some t => { x.1 with name := nmS 76 t }
  | none => x.1
def wantS (c : List (InstrD × Int)) (i : Nat) : Bool := c.any fun x => tgtS c.length x.2 == some i
def labelI (i : Nat) : InstrD := ⟨10, 0, .empty, nmS 76 i, [], 0, 0⟩
def atS (c : List (InstrD × Int)) (i : Nat) : List InstrD := (if wantS c i then [labelI i] else []) ++ (c[i]?.map (fixS c.length)).toList
/-- The instructions with their labels. -/
def labelledS (c : List (InstrD × Int)) : List InstrD := (List.range (c.length + 1)).flatMap (atS c)
def timesS {α : Type} (f : Nat → PS α) : Nat → Nat → List α → PS (List α)
  | 0, _, acc => pureS acc
  | m + 1, i, acc => bindS (f i) fun x => timesS f m (i + 1) (acc ++ [x])
def funcS (arrs chans : Nat) (i : Nat) (had : List FuncD) : PS FuncD := bindS (takeS 3) fun p => bindS (takeS 7) fun m =>
  bindS (codeS ⟨arrs, chans, p, (had.take i).map (·.params.length), false⟩ m []) fun c => pureS ⟨nmS 102 i, (List.range p).map (nmS 112), labelledS c, 0, 0⟩
def funcsS (arrs chans : Nat) : Nat → List FuncD → PS (List FuncD)
  | 0, acc => pureS acc
  | m + 1, acc => bindS (funcS arrs chans acc.length acc) fun f => funcsS arrs chans m (acc ++ [f])
/-- All that comes before main. -/
def headS : PS ProgD := bindS (takeS 4) fun w => bindS (takeS 3) fun c => bindS (takeS 3) fun a =>
  bindS (timesS (fun i => bindS (takeS 4) fun z => pureS (⟨nmS 97 i, 1 + (z : Int)⟩ : ArrD)) a 0 []) fun arrs => bindS (takeS 3) fun f =>
  bindS (funcsS arrs.length (1 + c) f []) fun funcs => pureS ⟨1 + (w : Int), (List.range (1 + c)).map (nmS 99), arrs, funcs, []⟩
def mainE (p : ProgD) : EnvS := ⟨p.arrays.length, p.chans.length, 0, p.funcs.map (·.params.length), true⟩
def progS (s : List UInt8) : ProgD := { (headS s).1 with main := labelledS (mainS (mainE (headS s).1) 20 [] (headS s).2).1 }
/-! What the string's beginning says. -/
/-- What takes bytes takes the same from a longer string, if it leaves some. -/
structure Parse {α : Type} (p : PS α) : Prop where
  pre : ∀ l t, (p l).2 ≠ [] → p (l ++ t) = ((p l).1, (p l).2 ++ t)
  nil : (p []).2 = []
theorem Parse.pure {α : Type} (a : α) : Parse (pureS a) := ⟨fun l t _ => rfl, rfl⟩
theorem Parse.take (n : Nat) : Parse (takeS n) := ⟨fun l t h => by cases l with | nil => exact absurd rfl h | cons b r => rfl, rfl⟩
theorem Parse.bind {α β : Type} {p : PS α} {q : α → PS β} (hp : Parse p) (hq : ∀ a, Parse (q a)) : Parse (bindS p q) := by
  refine ⟨fun l t h => ?_, ?_⟩
  · have h1 : (p l).2 ≠ [] := by
      intro h0
      apply h
      unfold bindS
      rw [h0]
      exact (hq _).nil
    unfold bindS at h ⊢
    rw [hp.pre l t h1]
    exact (hq _).pre _ t h
  · unfold bindS
    rw [hp.nil]
    exact (hq _).nil
theorem Parse.ite {α : Type} {c : Prop} [Decidable c] {p q : PS α} (hp : Parse p) (hq : Parse q) : Parse (if c then p else q) := by
  by_cases h : c
  · rw [if_pos h]; exact hp
  · rw [if_neg h]; exact hq
theorem Parse.bite {α : Type} {c : Bool} {p q : PS α} (hp : Parse p) (hq : Parse q) : Parse (if c then p else q) := Parse.ite hp hq
theorem parse_opd (par : Nat) : Parse (opdS par) :=
  (Parse.take 8).bind fun k => Parse.ite (Parse.pure _) (Parse.ite ((Parse.take 8).bind fun v => Parse.pure _) (Parse.ite ((Parse.take par).bind fun v => Parse.pure _) ((Parse.take 256).bind fun v => Parse.pure _)))
theorem parse_opds (par : Nat) : ∀ n, Parse (opdsS par n)
  | 0 => Parse.pure _
  | n + 1 => (parse_opd par).bind fun a => (parse_opds par n).bind fun r => Parse.pure _
theorem parse_dst : Parse dstS := (Parse.take 4).bind fun k => Parse.pure _
theorem parse_copied (E : EnvS) : Parse (copiedS E) := parse_dst.bind fun d => (parse_opds _ _).bind fun a => Parse.pure _
theorem parse_maker (E : EnvS) (n k : Nat) : Parse (makerS E n k) := by
  unfold makerS
  refine Parse.ite (parse_copied E) (Parse.ite ?_ (Parse.ite ?_ (Parse.ite ?_ (Parse.ite ?_ (Parse.ite ?_ (Parse.ite ?_ (Parse.ite ?_ (Parse.ite ?_ (Parse.ite ?_ ?_)))))))))
  · exact parse_dst.bind fun d => (Parse.take 19).bind fun o => (parse_opds _ _).bind fun a => Parse.pure _
  · exact Parse.ite (parse_copied E) (parse_dst.bind fun d => (Parse.take _).bind fun m => (parse_opds _ _).bind fun a => Parse.pure _)
  · exact Parse.ite (parse_copied E) ((Parse.take _).bind fun m => (parse_opds _ _).bind fun a => Parse.pure _)
  · exact Parse.ite (parse_copied E) (parse_dst.bind fun d => (Parse.take _).bind fun m => (parse_opds _ _).bind fun a => Parse.pure _)
  · exact parse_dst.bind fun d => (Parse.take _).bind fun m => Parse.pure _
  · exact (Parse.take _).bind fun m => (parse_opds _ _).bind fun a => Parse.pure _
  · exact parse_dst.bind fun d => (Parse.take _).bind fun m => (parse_opds _ _).bind fun a => Parse.pure _
  · exact (parse_opds _ _).bind fun a => (Parse.take _).bind fun t => Parse.pure _
  · exact (Parse.take _).bind fun t => Parse.pure _
  · exact Parse.bite (Parse.pure _) ((parse_opds _ _).bind fun a => Parse.pure _)
theorem parse_instr (E : EnvS) (n : Nat) : Parse (instrS E n) := (Parse.take 16).bind fun k => parse_maker E n k
theorem parse_code (E : EnvS) : ∀ m acc, Parse (codeS E m acc)
  | 0, acc => Parse.pure _
  | m + 1, acc => (parse_instr E _).bind fun x => parse_code E m _
theorem parse_times {α : Type} {f : Nat → PS α} (hf : ∀ i, Parse (f i)) : ∀ m i acc, Parse (timesS f m i acc)
  | 0, i, acc => Parse.pure _
  | m + 1, i, acc => (hf i).bind fun x => parse_times hf m _ _
theorem parse_func (a c i : Nat) (h : List FuncD) : Parse (funcS a c i h) := (Parse.take 3).bind fun p => (Parse.take 7).bind fun m => (parse_code _ _ _).bind fun c => Parse.pure _
theorem parse_funcs (a c : Nat) : ∀ m acc, Parse (funcsS a c m acc)
  | 0, acc => Parse.pure _
  | m + 1, acc => (parse_func a c _ _).bind fun f => parse_funcs a c m _
theorem parse_head : Parse headS :=
  (Parse.take 4).bind fun w => (Parse.take 3).bind fun c => (Parse.take 3).bind fun a => (parse_times (fun i => (Parse.take 4).bind fun z => Parse.pure _) a 0 []).bind fun arrs =>
    (Parse.take 3).bind fun f => (parse_funcs _ _ f []).bind fun funcs => Parse.pure _
theorem main_grows (E : EnvS) : ∀ m acc l, ∃ r, (mainS E m acc l).1 = acc ++ r
  | 0, acc, l => ⟨[], by simp [mainS, pureS]⟩
  | m + 1, acc, l => by
    unfold mainS
    by_cases h : l = []
    · rw [if_pos h]; exact ⟨[], by simp⟩
    · rw [if_neg h]
      obtain ⟨r, hr⟩ := main_grows E m (acc ++ [(instrS E acc.length l).1]) (instrS E acc.length l).2
      exact ⟨(instrS E acc.length l).1 :: r, by unfold bindS; rw [hr]; simp⟩
theorem main_nil (E : EnvS) (m : Nat) (acc : List (InstrD × Int)) : mainS E m acc [] = (acc, []) := by
  cases m with
  | zero => rfl
  | succ m => unfold mainS; rw [if_pos rfl]
/-- A longer string has at least as many instructions, and all but the last one are the same. -/
theorem main_less (E : EnvS) : ∀ m acc l t, (mainS E m acc l).1.length ≤ (mainS E m acc (l ++ t)).1.length ∧ ∀ i, i + 1 < (mainS E m acc l).1.length → (mainS E m acc l).1[i]? = (mainS E m acc (l ++ t)).1[i]?
  | 0, acc, l, t => ⟨Nat.le_refl _, fun _ _ => rfl⟩
  | m + 1, acc, l, t => by
    by_cases hl : l = []
    · subst hl
      rw [main_nil, List.nil_append]
      obtain ⟨r, hr⟩ := main_grows E (m + 1) acc t
      rw [hr]
      refine ⟨by simp, fun i hi => ?_⟩
      have hi' : i + 1 < acc.length := hi
      rw [List.getElem?_append_left (by omega)]
    · have e1 : mainS E (m + 1) acc l = mainS E m (acc ++ [(instrS E acc.length l).1]) (instrS E acc.length l).2 := by
        conv => lhs; unfold mainS
        rw [if_neg hl]; rfl
      have e2 : mainS E (m + 1) acc (l ++ t) = mainS E m (acc ++ [(instrS E acc.length (l ++ t)).1]) (instrS E acc.length (l ++ t)).2 := by
        conv => lhs; unfold mainS
        rw [if_neg (by simp [hl])]; rfl
      rw [e1, e2]
      by_cases hr : (instrS E acc.length l).2 = []
      · rw [hr, main_nil]
        obtain ⟨r, hr2⟩ := main_grows E m (acc ++ [(instrS E acc.length (l ++ t)).1]) (instrS E acc.length (l ++ t)).2
        rw [hr2]
        refine ⟨by simp, fun i hi => ?_⟩
        have hi' : i < acc.length := by simpa using hi
        rw [List.getElem?_append_left hi', List.append_assoc, List.getElem?_append_left hi']
      · rw [(parse_instr E acc.length).pre l t hr]
        exact main_less E m _ _ t
end Go.Proofs.YtbfkhnmpfffkmaaDoor
