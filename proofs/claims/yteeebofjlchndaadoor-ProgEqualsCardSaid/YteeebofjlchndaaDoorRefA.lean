/- Contracts of the reference's small functions on programs: Is, Find, Body, ArrayNames. Condition: what comes in reads as the list, the program. -/
import Derived.Test.YteeebofjlchndaaDoorTurn
set_option linter.unusedVariables false
set_option linter.unusedSimpArgs false
namespace Go.Proofs.YteeebofjlchndaaDoor
open Go.ChangeShapes Go.WideShapes Go.ChangeAt Go.RowKit
theorem bytes_toList (a : ByteArray) : a.toList = a.data.toList := ByteArray.toList_eq a
theorem beq_is (a b : ByteArray) : (a.toList == b.toList) = decide (a = b) := by
  by_cases h : a = b
  · subst h; simp
  · rw [decide_eq_false h]
    rw [beq_eq_false_iff_ne]
    exact fun e => h (toList_inj e)
theorem inL_hit {s x : ByteArray} {l : List ByteArray} {k : Nat} (h : l[k]? = some x) (e : (x.toList == s.toList) = true) : inL s l = true := by
  rw [beq_is] at e
  have := of_decide_eq_true e
  subst this
  exact inL_iff.2 (List.mem_of_getElem? h)
theorem inL_none {s : ByteArray} {l : List ByteArray} (h : ∀ (k : Nat) x, l[k]? = some x → (x.toList == s.toList) = false) : inL s l = false := by
  rw [inL_not]
  intro hm
  obtain ⟨k, hk⟩ := List.getElem?_of_mem hm
  have := h k s hk
  rw [beq_is] at this
  simp at this
def findZ (s : ByteArray) (l : List FuncD) : Int := match l.findIdx? (fun f => decide (f.name = s)) with | some i => (i : Int) | none => -1
theorem findZ_hit {s : ByteArray} {l : List FuncD} {k : Nat} {x : FuncD} (h : l[k]? = some x) (e : (x.name.toList == s.toList) = true) (hq : ∀ (j : Nat) y, j < k → l[j]? = some y → (y.name.toList == s.toList) = false) : findZ s l = k := by
  unfold findZ
  have : l.findIdx? (fun f => decide (f.name = s)) = some k := by
    rw [List.findIdx?_eq_some_iff_getElem]
    have hk := (List.getElem?_eq_some_iff.1 h).1
    refine ⟨hk, ?_, fun j hj => ?_⟩
    · rw [(List.getElem?_eq_some_iff.1 h).2]; rw [beq_is] at e; exact e
    · have := hq j _ hj (List.getElem?_eq_getElem (by omega))
      rw [beq_is] at this
      simpa using this
  rw [this]
theorem findZ_none {s : ByteArray} {l : List FuncD} (hq : ∀ (j : Nat) y, l[j]? = some y → (y.name.toList == s.toList) = false) : findZ s l = -1 := by
  unfold findZ
  have : l.findIdx? (fun f => decide (f.name = s)) = none := by
    rw [List.findIdx?_eq_none_iff]
    intro x hx
    obtain ⟨j, hj⟩ := List.getElem?_of_mem hx
    have := hq j x hj
    rw [beq_is] at this
    simpa using this
  rw [this]
/-- The instructions of the i-th function, or, behind the last one, of main. -/
def codeAt (p : ProgD) (i : Nat) : List InstrD := match p.funcs[i]? with | some f => f.code | none => p.main
set_option maxRecDepth 100000 in
set_option maxHeartbeats 1600000 in
theorem refBody (p : ProgD) (cv av fv mv : Value) (i : Nat) (w : World) (h : RdProg none w p cv av fv mv) (hi : i ≤ p.funcs.length) :
    Calls Tryd.prog 16 #[progV p cv av fv mv, .int .i64 i] w fun e w' => ∃ v, e = .returned v ∧ RdInstrs none w v (codeAt p i) ∧ Below w.heap.size w w' := by
  obtain ⟨_, _, h3, h4, _⟩ := h
  obtain ⟨a, c, rfl, hl, hr⟩ := h3
  have HR := Lib.hid hr
  have H4 := Lib.hid h4
  obtain ⟨a4, c4, rfl, _⟩ := id h4
  clear hr h4
  by_cases hlt : i < p.funcs.length
  · obtain ⟨x, hx⟩ : ∃ x, p.funcs[i]? = some x := ⟨_, List.getElem?_eq_getElem hlt⟩
    obtain ⟨b, o, pv2, cv2, rfl, _, c0, c1, c2, _, _, hf⟩ := HR.out i x hx
    have HV : Hid (RdInstrs none w cv2 (codeAt p i)) := by show RdInstrs _ _ _ _; unfold codeAt; rw [hx]; exact hf.2.1
    obtain ⟨a5, c5, rfl, _⟩ := id hf.2.1
    have hlt2 : (i : Int) < (p.funcs.length : Int) := by omega
    clear hx c0 c1 hf
    go_enter Tryd.func16, Tryd.ntmps16
    go_upto_region 1 with fail
    have hb0 : Below w.heap.size w (w.alloc (.cells #[.int .i64 p.width, cv, av, .slice (some ⟨b, o, none⟩) p.funcs.length c, .slice a4 p.main.length c4] 27)) := (Below.refl _ _).alloc (Nat.le_refl _) _
    have G0 := heap_alloc_new w (.cells #[.int .i64 p.width, cv, av, .slice (some ⟨b, o, none⟩) p.funcs.length c, .slice a4 p.main.length c4] 27)
    generalize w.alloc (.cells #[.int .i64 p.width, cv, av, .slice (some ⟨b, o, none⟩) p.funcs.length c, .slice a4 p.main.length c4] 27) = W1 at *
    have i3 := row_of G0 3 (.slice (some ⟨b, o, none⟩) p.funcs.length c) rfl
    have d2 := cell_keep hb0 c2
    have HB := Lib.hid hb0
    clear G0 hb0 c2
    go_wp2
    go_ret
    exact ⟨_, rfl, HV.out, HB.out⟩
  · obtain rfl : i = p.funcs.length := by omega
    have HV : Hid (RdInstrs none w (.slice a4 p.main.length c4) (codeAt p p.funcs.length)) := by show RdInstrs _ _ _ _; unfold codeAt; rw [List.getElem?_eq_none (Nat.le_refl _)]; exact H4.out
    go_enter Tryd.func16, Tryd.ntmps16
    go_upto_region 1 with fail
    have hb0 : Below w.heap.size w (w.alloc (.cells #[.int .i64 p.width, cv, av, .slice a p.funcs.length c, .slice a4 p.main.length c4] 27)) := (Below.refl _ _).alloc (Nat.le_refl _) _
    have G0 := heap_alloc_new w (.cells #[.int .i64 p.width, cv, av, .slice a p.funcs.length c, .slice a4 p.main.length c4] 27)
    generalize w.alloc (.cells #[.int .i64 p.width, cv, av, .slice a p.funcs.length c, .slice a4 p.main.length c4] 27) = W1 at *
    have i3 := row_of G0 3 (.slice a p.funcs.length c) rfl
    have i4 := row_of G0 4 (.slice a4 p.main.length c4) rfl
    have HB := Lib.hid hb0
    clear G0 hb0
    go_wp2
    go_ret
    exact ⟨_, rfl, HV.out, HB.out⟩
end Go.Proofs.YteeebofjlchndaaDoor
