/- The policy of a string, on plain data, and its laws. Plain definitions and lemmas; no condition. -/
import Derived.Test.YtfdinncgncbmfaaGreatDoorScB
import Derived.Test.YtfdinncgncbmfaaGreatDoorSpec
set_option linter.unusedVariables false
namespace Go.Proofs.YtfdinncgncbmfaaGreatDoor
open Go.ChangeShapes Go.WideShapes Go.ChangeAt Go.RowKit
/-- A name and a level. -/
structure BindZ where
  name : ByteArray
  level : Int
/-- A policy. -/
structure PolZ where
  levels : List ByteArray
  order : List (Int × Int)
  chans : List BindZ
  sites : List BindZ
  sens : Bool
  steps : Int
  paths : Int
  nodes : Int
  confs : Int
def zeroPol : PolZ := ⟨[], [], [], [], false, 0, 0, 0, 0⟩
/-- The instructions of all functions, and then main's. -/
def allCode (p : ProgD) : List InstrD := p.funcs.flatMap (·.code) ++ p.main
def sitesAll (p : ProgD) : List ByteArray := sitesOf [] (allCode p)
def orderS (k : Nat) : List (Int × Int) := if k = 1 then [(0, 1)] else if k = 2 then [(0, 1), (1, 2)] else if k = 3 then [(0, 1), (0, 2), (1, 3), (2, 3)] else []
def bindsZ (k : Nat) : List ByteArray → PS (List BindZ)
  | [] => pureS []
  | c :: r => bindS (takeS (k + 1)) fun v => bindS (bindsZ k r) fun t => pureS (⟨c, v⟩ :: t)
/-- The policy of a well-formed program. -/
def polS (chans sites : List ByteArray) : PS PolZ := bindS (takeS 4) fun k => bindS (bindsZ k chans) fun cs => bindS (bindsZ k sites) fun ss =>
  bindS (takeS 2) fun m => bindS (takeS 60) fun st => bindS (takeS 128) fun pa => pureS ⟨(List.range (k + 1)).map (nmS 108), orderS k, cs, ss, m == 1, 1 + (st : Int), 1 + (pa : Int), 0, 0⟩
noncomputable def policyS (s : List UInt8) (p : ProgD) : PolZ := match checkF p with
  | none => (polS p.chans (sitesAll p) s).1
  | some _ => zeroPol
theorem zero_binds (k : Nat) : ∀ l, ZeroS (bindsZ k l)
  | [] => ZeroS.pure _
  | c :: r => (ZeroS.take _).bind fun v => (zero_binds k r).bind fun t => ZeroS.pure _
theorem zero_pol (cs ss : List ByteArray) : ZeroS (polS cs ss) :=
  (ZeroS.take 4).bind fun k => (zero_binds k cs).bind fun a => (zero_binds k ss).bind fun b => (ZeroS.take 2).bind fun m => (ZeroS.take 60).bind fun st => (ZeroS.take 128).bind fun pa => ZeroS.pure _
/-- **Zeros at the end make no difference to the policy.** -/
theorem policy_zeros (s : List UInt8) (k : Nat) (p : ProgD) : policyS (s ++ List.replicate k 0) p = policyS s p := by
  unfold policyS
  cases checkF p with
  | some f => rfl
  | none =>
    obtain ⟨j, hj⟩ := zero_pol p.chans (sitesAll p) s k
    show (polS p.chans (sitesAll p) (s ++ List.replicate k 0)).1 = _
    rw [hj]
theorem binds_snoc (k : Nat) : ∀ (l : List ByteArray) (c : ByteArray) (s : List UInt8), bindsZ k (l ++ [c]) s = ((bindsZ k l s).1 ++ [⟨c, (takeS (k + 1) (bindsZ k l s).2).1⟩], (takeS (k + 1) (bindsZ k l s).2).2)
  | [], c, s => rfl
  | b :: r, c, s => by
    have ih := binds_snoc k r c (takeS (k + 1) s).2
    have e1 : bindsZ k (b :: r ++ [c]) s = (⟨b, (takeS (k + 1) s).1⟩ :: (bindsZ k (r ++ [c]) (takeS (k + 1) s).2).1, (bindsZ k (r ++ [c]) (takeS (k + 1) s).2).2) := rfl
    have e2 : bindsZ k (b :: r) s = (⟨b, (takeS (k + 1) s).1⟩ :: (bindsZ k r (takeS (k + 1) s).2).1, (bindsZ k r (takeS (k + 1) s).2).2) := rfl
    rw [e1, ih, e2]
    rfl
theorem binds_names (k : Nat) : ∀ (l : List ByteArray) (s : List UInt8), (bindsZ k l s).1.map (·.name) = l
  | [], s => rfl
  | b :: r, s => by
    have e2 : bindsZ k (b :: r) s = (⟨b, (takeS (k + 1) s).1⟩ :: (bindsZ k r (takeS (k + 1) s).2).1, (bindsZ k r (takeS (k + 1) s).2).2) := rfl
    rw [e2]
    simp [binds_names k r]
/-- The example of the statement about levels: two channels. -/
def twoP : ProgD := ⟨1, [⟨#[111, 110, 101]⟩, ⟨#[116, 119, 111]⟩], [], [], []⟩
theorem two_ok : checkF twoP = none := by decide +kernel
theorem levels_law (k a b m st : UInt8) : policyS [k, a, b, m, st] twoP = ⟨(List.range (k.toNat % 4 + 1)).map (nmS 108), orderS (k.toNat % 4), [⟨⟨#[111, 110, 101]⟩, ((a.toNat % (k.toNat % 4 + 1) : Nat) : Int)⟩, ⟨⟨#[116, 119, 111]⟩, ((b.toNat % (k.toNat % 4 + 1) : Nat) : Int)⟩], [], (m.toNat % 2) == 1, 1 + ((st.toNat % 60 : Nat) : Int), 1, 0, 0⟩ := by
  unfold policyS
  rw [two_ok]
  rfl
end Go.Proofs.YtfdinncgncbmfaaGreatDoor
