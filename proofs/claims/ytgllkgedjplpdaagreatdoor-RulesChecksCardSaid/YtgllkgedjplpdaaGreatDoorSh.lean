/- Short names for lemmas that are used often. No condition. -/
import Derived.Test.YtgllkgedjplpdaaGreatDoorProg
import Derived.Lib.Hide
import Derived.WalkKit
import Derived.ProofKit
import Derived.OpenShut
namespace Go.Proofs.YtgllkgedjplpdaaGreatDoor
open Go.ChangeShapes Go.WideShapes Go.ChangeAt Go.RowKit
theorem aE {α : Type _} {xs : Array α} {i : Nat} {b : α} (h : xs[i]? = some b) : ∃ h : i < xs.size, xs[i] = b := Array.getElem?_eq_some_iff.1 h
theorem lE {α : Type _} {xs : List α} {i : Nat} {b : α} (h : xs[i]? = some b) : ∃ h : i < xs.length, xs[i] = b := List.getElem?_eq_some_iff.1 h
theorem lG {α : Type _} {l : List α} {i : Nat} (h : i < l.length) : l[i]? = some l[i] := List.getElem?_eq_getElem h
theorem Hd {p : Prop} (h : p) : Hid p := Lib.hid h
theorem nR (n : Nat) : n ≤ n := Nat.le_refl n
theorem bR (n : Nat) (w : World) : Below n w w := Below.refl n w
end Go.Proofs.YtgllkgedjplpdaaGreatDoor
