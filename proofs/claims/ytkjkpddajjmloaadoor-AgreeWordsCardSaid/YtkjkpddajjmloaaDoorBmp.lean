/- Plain law: multiples of 2^W, and zeros at the ends of lists, leave all words as they were. No program. -/
import Derived.Test.YtkjkpddajjmloaaDoorAgC
set_option linter.unnecessarySimpa false
set_option linter.unusedVariables false
set_option linter.unusedSimpArgs false
namespace Go.Proofs.YtkjkpddajjmloaaDoor
open Go.ChangeShapes Go.WideShapes Go.ChangeAt Go.RowKit
/-- A number of times 2^W. -/
def shV (T W : Int) : Int := IntKind.u64.wrap (T * 2 ^ W.toNat)
def bumpN (T W x : Int) : Int := IntKind.u64.wrap (x + shV T W)
def bumpM (T W : Int) (l : List Int) : List Int := l.map (bumpN T W)
def bumpL (T W : Int) (z : Nat) (l : List Int) : List Int := bumpM T W l ++ List.replicate z 0
def bumpA (T W : Int) (z : Nat) (A : List (List Int)) : List (List Int) := A.map (bumpL T W z)
theorem bumpA_len (T W : Int) (z : Nat) (A : List (List Int)) : (bumpA T W z A).length = A.length := by simp [bumpA]
theorem bumpM_len (T W : Int) (l : List Int) : (bumpM T W l).length = l.length := by simp [bumpM]
theorem pow_dvd (W : Nat) (h : W ≤ 64) : (2 : Int) ^ W ∣ 18446744073709551616 := by
  refine ⟨2 ^ (64 - W), ?_⟩
  rw [← Int.pow_add, show W + (64 - W) = 64 by omega]
  rfl
theorem bumpN_mod {T W x : Int} (h : W ≤ 64) : bumpN T W x % 2 ^ W.toNat = x % 2 ^ W.toNat := by
  have hd := pow_dvd W.toNat (by omega)
  unfold bumpN shV
  rw [IntKind.wrap_u64, IntKind.wrap_u64, Int.emod_emod_of_dvd _ hd, Int.add_emod, Int.emod_emod_of_dvd _ hd, Int.mul_emod_left, Int.add_zero, Int.emod_emod_of_dvd _ (Int.dvd_refl _)]
theorem bump_words {f : FlatD} (h : f.width ≤ 64) (T : Int) (z : Nat) (A : List (List Int)) (c k : Nat) : wordAt f A c k = wordAt f (bumpA T f.width z A) c k := by
  unfold wordAt inAt bumpA
  rw [List.getElem?_map]
  cases A[c]? with
  | none => rfl
  | some l =>
    simp only [Option.map_some, Option.bind_some, bumpL]
    by_cases hk : k < l.length
    · have e1 : (bumpM T f.width l ++ List.replicate z 0)[k]? = some (bumpN T f.width l[k]) := by
        rw [List.getElem?_append_left (by rw [bumpM_len]; exact hk), bumpM, List.getElem?_map, List.getElem?_eq_getElem hk]; rfl
      rw [e1, List.getElem?_eq_getElem hk]
      exact (bumpN_mod h).symm
    · rw [List.getElem?_eq_none (by omega), List.getElem?_append_right (by rw [bumpM_len]; omega), List.getElem?_replicate]
      by_cases hz : k - (bumpM T f.width l).length < z
      · rw [if_pos hz]; exact (Int.zero_emod _).symm
      · rw [if_neg hz]
theorem bump_leaks {f : FlatD} {q : PolD} {lv : Int} {A B : List (List Int)} (hok : flatOk f = true) (T : Int) (z : Nat) :
    leaksB f q lv A B = leaksB f q lv (bumpA T f.width z A) B ∧ leaksErr f q lv A B = leaksErr f q lv (bumpA T f.width z A) B :=
  leaksB_words hok (bumpA_len _ _ _ _) fun c k => bump_words (headP hok).w2 T z A c k
theorem bump_run {f : FlatD} (hok : flatOk f = true) {A : List (List Int)} (hA : A.length ≤ f.chans.length) (T : Int) (z : Nat) (s : Int) : runT f A s = runT f (bumpA T f.width z A) s :=
  runT_words hok hA (by rw [bumpA_len]; exact hA) (fun c k => bump_words (headP hok).w2 T z A c k) s
theorem bumpA_at {T W : Int} {z : Nat} {A : List (List Int)} {n : Nat} {l : List Int} (h : A[n]? = some l) : (bumpA T W z A)[n]? = some (bumpM T W l ++ List.replicate z 0) := by
  unfold bumpA; rw [List.getElem?_map, h]; rfl
theorem bumpM_at {T W : Int} {l : List Int} {k : Nat} {x : Int} (h : l[k]? = some x) : (bumpM T W l)[k]? = some (bumpN T W x) := by
  unfold bumpM; rw [List.getElem?_map, h]; rfl
theorem shV_zero (T : Int) : shV T 64 = 0 := by
  unfold shV; rw [IntKind.wrap_u64]
  show T * 2 ^ 64 % 18446744073709551616 = 0
  exact Int.mul_emod_left _ _
end Go.Proofs.YtkjkpddajjmloaaDoor
