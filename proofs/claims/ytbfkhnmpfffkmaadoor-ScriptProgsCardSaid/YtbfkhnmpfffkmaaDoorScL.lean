/- For the maker's labelled: a name written into a row of instructions, and the set of the numbers that are wanted. Plain lemmas. Conditions: each theorem's own. -/
import Derived.Test.YtbfkhnmpfffkmaaDoorScO
set_option linter.unusedVariables false
set_option linter.unusedSimpArgs false
set_option linter.unnecessarySimpa false
namespace Go.Proofs.YtbfkhnmpfffkmaaDoor
open Go.Maps (Keyed int_keyed)
open Go.WideShapes Go.ChangeMaps Go.MapKept Go.WideMaps Go.ChangeAt Go.RowKit Go.ChangeShapes
/-- An instruction with another name. -/
def nameI (p : InstrD × Value) (n : ByteArray) : InstrD × Value := ({ p.1 with name := n }, p.2)
theorem ins_set : ∀ (P : List (InstrD × Value)) (i : Nat) (p : InstrD × Value) (n : ByteArray), P[i]? = some p → (P.flatMap insCells).set (i * 7 + 3) (.string n) = (P.set i (nameI p n)).flatMap insCells
  | [], i, p, n, h => by simp at h
  | q :: r, 0, p, n, h => by
    simp only [List.getElem?_cons_zero, Option.some.injEq] at h
    subst h
    rfl
  | q :: r, i + 1, p, n, h => by
    have ih := ins_set r i p n (by simpa using h)
    rw [List.flatMap_cons, List.set_cons_succ, List.flatMap_cons, ← ih, List.set_append_right _ _ (by show (insCells q).length ≤ _; have : (insCells q).length = 7 := rfl; omega)]
    congr 2
    have : (insCells q).length = 7 := rfl
    omega
/-- A name is written into the row. -/
theorem name_put {w : World} {base b c : Nat} {P : List (InstrD × Value)} {i : Nat} {p : InstrD × Value} (h : w.ownsRow base 37 7 (.slice (some ⟨b, 0, none⟩) P.length c) P.length (P.flatMap insCells)) (hp : P[i]? = some p) (nm : ByteArray) (hn : nm.size ≤ maxLen) (hr : ∀ q ∈ P, RdInstr (some (upFrom base)) w q.1 q.2) :
    (w.setCell ⟨b, i * 7 + 3, none⟩ (.string nm)).ownsRow base 37 7 (.slice (some ⟨b, 0, none⟩) P.length c) P.length ((P.set i (nameI p nm)).flatMap insCells) ∧ (∀ q ∈ P.set i (nameI p nm), RdInstr (some (upFrom base)) (w.setCell ⟨b, i * 7 + 3, none⟩ (.string nm)) q.1 q.2) ∧ Trn (fun x => base ≤ x) w (w.setCell ⟨b, i * 7 + 3, none⟩ (.string nm)) := by
  have hst := (h.stored (i * 7 + 3) (.string nm)).1
  rw [ins_set P i p nm hp] at hst
  have hb : base ≤ b := own_ge h (k := b) rfl
  have hg : w.grownBy (w.setCell ⟨b, i * 7 + 3, none⟩ (.string nm)) (Value.slice (some ⟨b, 0, none⟩) P.length c).ownBlock := ⟨rfl, rfl, rfl, by simp, fun k _ hk => heap_setCell_other w ⟨b, i * 7 + 3, none⟩ k _ (fun e => hk (by show some k = some b; have e' : k = b := e; rw [e']))⟩
  refine ⟨hst, fun q hq => ?_, (setCell_trn w ⟨b, i * 7 + 3, none⟩ (.string nm)).mono fun x hx => by have e : x = b := hx; omega⟩
  rcases List.mem_or_eq_of_mem_set hq with hq | rfl
  · exact instr_grown h hg (hr q hq)
  · have h1 := instr_grown h hg (hr p (List.mem_of_getElem? hp))
    exact ⟨h1.1, h1.2.1, h1.2.2.1, h1.2.2.2.1, h1.2.2.2.2.1, h1.2.2.2.2.2.1, hn⟩
/-- Block b is a set of ints: a map[int]bool that holds true at each of l. -/
def ZSet (w : World) (b : Nat) (l : List Int) : Prop := ∃ L : List (Int × Value), ZIs w b L ∧ (∀ p ∈ L, p.2 = .bool true) ∧ ∀ x, x ∈ l ↔ ∃ p ∈ L, p.1 = x
theorem ZSet.made (w : World) : ZSet (w.alloc (.map #[] 0)) w.heap.size [] := ⟨[], ZIs.made w, by simp, by simp⟩
theorem ZSet.at {w w' : World} {b : Nat} {l : List Int} (h : ZSet w b l) (e : w'.heap[b]? = w.heap[b]?) : ZSet w' b l := by
  obtain ⟨L, h1, h2⟩ := h; exact ⟨L, h1.at e, h2⟩
theorem ZSet.lt {w : World} {b : Nat} {l : List Int} (h : ZSet w b l) : b < w.heap.size := by obtain ⟨L, h1, _⟩ := h; exact h1.lt
theorem ZSet.look {w : World} {b : Nat} {l : List Int} (h : ZSet w b l) (x : Int) (hx : (Lit.int .i64 x).wf = true) : (Instr.lookup 81 (.map (some b)) (.int .i64 x) false).run Tryd.prog w = .ok (.bool (decide (x ∈ l))) w := by
  obtain ⟨L, h1, h2, h3⟩ := h
  have hz : (zeroValue 4).run Tryd.prog w = .ok (.bool false) w := by kernel_rfl
  rcases h1.lookup (P := Tryd.prog) (t := 81) Tryd.underlying3 Tryd.underlying81 hz x hx false with ⟨g1, g2⟩ | ⟨v, g1, g2⟩
  · rw [decide_eq_false (fun hm => by obtain ⟨p, hp, e⟩ := (h3 x).1 hm; exact g2 p hp e)]; exact g1
  · rw [decide_eq_true ((h3 x).2 ⟨_, g2, rfl⟩)]
    have := h2 _ g2
    simp only at this
    rw [← this]; exact g1
theorem ZSet.put {w : World} {b : Nat} {l : List Int} (h : ZSet w b l) (x : Int) (hx : (Lit.int .i64 x).wf = true) : ∃ w', (Instr.mapUpdate 81 (.map (some b)) (.int .i64 x) (.bool true)).run Tryd.prog w = .ok () w' ∧ ZSet w' b (l ++ [x]) ∧ Trn (fun y => y = b) w w' := by
  obtain ⟨L, h1, h2, h3⟩ := h
  obtain ⟨w', L', g1, g2, g3, -, g4⟩ := h1.store (P := Tryd.prog) (t := 81) Tryd.underlying3 Tryd.underlying81 x hx (.bool true)
  refine ⟨w', g1, ⟨L', g2, ?_, ?_⟩, Trn.own g3⟩
  · rcases g4 with ⟨-, rfl⟩ | ⟨j, u, hj, rfl⟩
    · intro p hp
      rcases List.mem_append.1 hp with hp | hp
      · exact h2 p hp
      · rw [List.mem_singleton] at hp; subst hp; rfl
    · intro p hp
      rcases List.mem_or_eq_of_mem_set hp with hp | rfl
      · exact h2 p hp
      · rfl
  · intro y
    rw [List.mem_append, List.mem_singleton, h3]
    rcases g4 with ⟨-, rfl⟩ | ⟨j, u, hj, rfl⟩
    · constructor
      · rintro (⟨p, hp, e⟩ | rfl)
        · exact ⟨p, List.mem_append_left _ hp, e⟩
        · exact ⟨_, List.mem_append_right _ (List.mem_singleton.2 rfl), rfl⟩
      · rintro ⟨p, hp, e⟩
        rcases List.mem_append.1 hp with hp | hp
        · exact .inl ⟨p, hp, e⟩
        · rw [List.mem_singleton] at hp; subst hp; exact .inr e.symm
    · have hlt := (List.getElem?_eq_some_iff.1 hj).1
      constructor
      · rintro (⟨p, hp, e⟩ | rfl)
        · obtain ⟨i, hi, hpi⟩ := List.getElem_of_mem hp
          by_cases hij : j = i
          · subst hij
            refine ⟨(x, .bool true), List.mem_iff_getElem?.2 ⟨j, by rw [List.getElem?_set]; simp [hlt]⟩, ?_⟩
            rw [List.getElem?_eq_getElem hi, hpi] at hj
            simp only [Option.some.injEq] at hj
            rw [hj] at e
            exact e
          · exact ⟨p, List.mem_iff_getElem?.2 ⟨i, by rw [List.getElem?_set, if_neg hij, List.getElem?_eq_getElem hi, hpi]⟩, e⟩
        · exact ⟨(y, .bool true), List.mem_iff_getElem?.2 ⟨j, by rw [List.getElem?_set]; simp [hlt]⟩, rfl⟩
      · rintro ⟨p, hp, e⟩
        rcases List.mem_or_eq_of_mem_set hp with hp | rfl
        · exact .inl ⟨p, hp, e⟩
        · exact .inr e.symm
end Go.Proofs.YtbfkhnmpfffkmaaDoor
