/- Contracts of the reference's small functions on programs: Is, Find, Body, ArrayNames. Condition: what comes in reads as the list, the program. -/
import Derived.Test.YtfdinncgncbmfaaDoorChk
set_option linter.unusedVariables false
set_option linter.unusedSimpArgs false
namespace Go.Proofs.YtfdinncgncbmfaaDoor
open Go.ChangeShapes Go.WideShapes Go.ChangeAt Go.RowKit
theorem bytes_toList (a : ByteArray) : a.toList = a.data.toList := ByteArray.toList_eq a
theorem beq_is (a b : ByteArray) : (a.toList == b.toList) = decide (a = b) := by
  by_cases h : a = b
  · subst h; simp
  · rw [decide_eq_false h]
    rw [beq_eq_false_iff_ne]
    exact fun e => h (toList_inj e)
theorem inL_hit {s x : ByteArray} {l : List ByteArray} {k : Nat} (h : l[k]? = some x) (e : (x.toList == s.toList) = true) : inL s l = true := by
  rw [beq_is] at e
  have := of_decide_eq_true e
  subst this
  exact inL_iff.2 (List.mem_of_getElem? h)
theorem inL_none {s : ByteArray} {l : List ByteArray} (h : ∀ (k : Nat) x, l[k]? = some x → (x.toList == s.toList) = false) : inL s l = false := by
  rw [inL_not]
  intro hm
  obtain ⟨k, hk⟩ := List.getElem?_of_mem hm
  have := h k s hk
  rw [beq_is] at this
  simp at this
def findZ (s : ByteArray) (l : List FuncD) : Int := match l.findIdx? (fun f => decide (f.name = s)) with | some i => (i : Int) | none => -1
theorem findZ_hit {s : ByteArray} {l : List FuncD} {k : Nat} {x : FuncD} (h : l[k]? = some x) (e : (x.name.toList == s.toList) = true) (hq : ∀ (j : Nat) y, j < k → l[j]? = some y → (y.name.toList == s.toList) = false) : findZ s l = k := by
  unfold findZ
  have : l.findIdx? (fun f => decide (f.name = s)) = some k := by
    rw [List.findIdx?_eq_some_iff_getElem]
    have hk := (List.getElem?_eq_some_iff.1 h).1
    refine ⟨hk, ?_, fun j hj => ?_⟩
    · rw [(List.getElem?_eq_some_iff.1 h).2]; rw [beq_is] at e; exact e
    · have := hq j _ hj (List.getElem?_eq_getElem (by omega))
      rw [beq_is] at this
      simpa using this
  rw [this]
theorem findZ_none {s : ByteArray} {l : List FuncD} (hq : ∀ (j : Nat) y, l[j]? = some y → (y.name.toList == s.toList) = false) : findZ s l = -1 := by
  unfold findZ
  have : l.findIdx? (fun f => decide (f.name = s)) = none := by
    rw [List.findIdx?_eq_none_iff]
    intro x hx
    obtain ⟨j, hj⟩ := List.getElem?_of_mem hx
    have := hq j x hj
    rw [beq_is] at this
    simpa using this
  rw [this]
/-- The instructions of the i-th function, or, behind the last one, of main. -/
def codeAt (p : ProgD) (i : Nat) : List InstrD := match p.funcs[i]? with | some f => f.code | none => p.main
end Go.Proofs.YtfdinncgncbmfaaDoor
