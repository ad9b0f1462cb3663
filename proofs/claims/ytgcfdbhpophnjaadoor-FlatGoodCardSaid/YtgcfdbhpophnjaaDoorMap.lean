/- Maps keyed by strings, as lists: what a look-up and a store do to a map whose entries are known as a list. Plain lemmas over any program. No condition. -/
import Derived.Maps.OwnOps
import Derived.Maps.OwnSet
import Derived.OwnWalk
import Derived.WalkKit
import Derived.Test.YtgcfdbhpophnjaaDoorLib
set_option linter.unusedVariables false
set_option linter.unusedSimpArgs false
namespace Go.Proofs.YtgcfdbhpophnjaaDoor
open Go.Maps (Keyed string_keyed)
open Go.WideShapes Go.ChangeMaps Go.MapKept Go.WideMaps Go.ChangeAt Go.RowKit Go.ChangeShapes

instance decBytes : DecidableEq ByteArray := fun a b => if h : a.data = b.data then isTrue (by cases a; cases b; simp_all) else isFalse (fun e => h (by rw [e]))

/-- Block b is a map whose entries are those of L, in that order. -/
def MapIs (w : World) (b : Nat) (L : List (ByteArray × Value)) : Prop :=
  ∃ es clock, w.heap[b]? = some (.map es clock) ∧ es.toList.map (fun e => (e.key, e.val)) = L.map (fun p => (Value.string p.1, p.2)) ∧ ∀ p ∈ L, p.1.size ≤ maxLen
section
variable {P : Program} {k : TypeId} {w : World} {b : Nat} {L : List (ByteArray × Value)}
theorem MapIs.lt (h : MapIs w b L) : b < w.heap.size := by
  obtain ⟨es, clock, hb, _⟩ := h
  exact (Array.getElem?_eq_some_iff.1 hb).1
theorem MapIs.at (h : MapIs w b L) {w' : World} (e : w'.heap[b]? = w.heap[b]?) : MapIs w' b L := by
  obtain ⟨es, clock, hb, r⟩ := h
  exact ⟨es, clock, e.trans hb, r⟩
theorem MapIs.keep (h : MapIs w b L) {w' : World} (k : Below w.heap.size w w') : MapIs w' b L := h.at (k.block b h.lt)
theorem MapIs.made (w : World) : MapIs (w.alloc (.map #[] 0)) w.heap.size [] :=
  ⟨#[], 0, (MapKept.heap_alloc w _).1, rfl, fun _ h => nomatch h⟩
theorem MapIs.find (hk : P.underlying k = some .string) (h : MapIs w b L) (s : ByteArray) (hs : s.size ≤ maxLen) :
    ∃ es clock, w.heap[b]? = some (.map es clock) ∧ es.size = L.length ∧ es.toList.map (fun e => (e.key, e.val)) = L.map (fun p => (Value.string p.1, p.2)) ∧
      (((Instr.findKey k (.string s) es.toList).run P w = .ok none w ∧ ∀ p ∈ L, p.1 ≠ s) ∨
        ∃ j v, (Instr.findKey k (.string s) es.toList).run P w = .ok (some (j, v)) w ∧ L[j]? = some (s, v) ∧ ∃ e, es[j]? = some e ∧ e.key = .string s ∧ e.val = v) := by
  obtain ⟨es, clock, hb, hm, hz⟩ := h
  have hlen : es.size = L.length := by have := congrArg List.length hm; simpa using this
  refine ⟨es, clock, hb, hlen, hm, ?_⟩
  have K := string_keyed hk
  have hkeys : ∀ e ∈ es.toList, ∃ l, keyOf P k e.key = some l := by
    intro e he
    have h1 : (e.key, e.val) ∈ L.map (fun p => (Value.string p.1, p.2)) := by rw [← hm]; exact List.mem_map.2 ⟨e, he, rfl⟩
    obtain ⟨p, hp, he2⟩ := List.mem_map.1 h1
    have h2 : Value.string p.1 = e.key := congrArg Prod.fst he2
    exact ⟨_, by rw [← h2]; exact keyOf_string_mk hk (hz p hp)⟩
  rcases K.find w (keyOf_string_mk hk hs) es.toList hkeys with ⟨h1, h2⟩ | ⟨j, e, h1, h2, h3⟩
  · refine .inl ⟨h1, fun p hp hps => ?_⟩
    have h4 : (Value.string p.1, p.2) ∈ es.toList.map (fun e => (e.key, e.val)) := by rw [hm]; exact List.mem_map.2 ⟨p, hp, rfl⟩
    obtain ⟨e, he, h5⟩ := List.mem_map.1 h4
    exact h2 e he (by rw [← hps]; exact congrArg Prod.fst h5)
  · refine .inr ⟨j, e.val, h1, ?_, e, by simpa using h2, h3, rfl⟩
    have h4 : (es.toList.map (fun e => (e.key, e.val)))[j]? = some (e.key, e.val) := by rw [List.getElem?_map, h2]; rfl
    rw [hm, List.getElem?_map] at h4
    cases hj : L[j]? with
    | none => rw [hj] at h4; cases h4
    | some p =>
      rw [hj] at h4
      simp only [Option.map_some, Option.some.injEq, Prod.mk.injEq] at h4
      obtain ⟨h5, h6⟩ := h4
      rw [h3] at h5
      cases h5
      rw [← h6]
/-- 'm[s]', 'v, ok := m[s]': what comes back. -/
theorem MapIs.lookup {t e : TypeId} (hk : P.underlying k = some .string) (ht : P.underlying t = some (.map k e)) {z : Value} (hz : (zeroValue e).run P w = .ok z w) (h : MapIs w b L) (s : ByteArray) (hs : s.size ≤ maxLen) (c : Bool) :
    ((Instr.lookup t (.map (some b)) (.string s) c).run P w = .ok (if c then .tuple #[z, .bool false] else z) w ∧ ∀ p ∈ L, p.1 ≠ s) ∨
      ∃ v, (Instr.lookup t (.map (some b)) (.string s) c).run P w = .ok (if c then .tuple #[v, .bool true] else v) w ∧ (s, v) ∈ L := by
  obtain ⟨es, clock, hb, _, _, hf⟩ := h.find hk s hs
  have K := string_keyed hk
  rcases hf with ⟨h1, h2⟩ | ⟨j, v, h1, h2, _⟩
  · exact .inl ⟨by simp [Instr.lookup, run_underlying ht, MapKept.run_getObj_map hb, K.check w _ (keyOf_string_mk hk hs), h1, hz, Result.andThen], h2⟩
  · exact .inr ⟨v, by simp [Instr.lookup, run_underlying ht, MapKept.run_getObj_map hb, K.check w _ (keyOf_string_mk hk hs), h1, Result.andThen], List.mem_of_getElem? h2⟩
/-- 'm[s] = v'. -/
theorem MapIs.store {t e : TypeId} (hk : P.underlying k = some .string) (ht : P.underlying t = some (.map k e)) (h : MapIs w b L) (s : ByteArray) (hs : s.size ≤ maxLen) (v : Value) :
    ∃ w' L', (Instr.mapUpdate t (.map (some b)) (.string s) v).run P w = .ok () w' ∧ MapIs w' b L' ∧ w.grownBy w' (some b) ∧ w'.heap.size = w.heap.size ∧
      (((∀ p ∈ L, p.1 ≠ s) ∧ L' = L ++ [(s, v)]) ∨ ∃ j u, L[j]? = some (s, u) ∧ L' = L.set j (s, v)) := by
  have h0 := h
  obtain ⟨es, clock, hb, hlen, hm, hf⟩ := h.find hk s hs
  obtain ⟨_, _, hb', _, hz⟩ := h0
  have K := string_keyed hk
  have hg : ∀ o : Obj, w.grownBy (setBlock w b o) (some b) := fun o => ⟨rfl, rfl, rfl, by simp [setBlock], fun i _ hi => heap_setBlock_other hb o (fun e => hi (by rw [e]))⟩
  rcases hf with ⟨h1, h2⟩ | ⟨j, u, h1, h2, e0, he0, hke, hve⟩
  · refine ⟨setBlock w b (.map (es.push ⟨.string s, v, clock⟩) (clock + 1)), _, by simp [Instr.mapUpdate, run_underlying ht, MapKept.run_getObj_map hb, K.check w false (keyOf_string_mk hk hs), h1, MapKept.run_setObj_map _ hb, Result.andThen, setBlock], ⟨_, _, heap_setBlock_same hb _, ?_, ?_⟩, hg _, by simp [setBlock], .inl ⟨h2, rfl⟩⟩
    · rw [Array.toList_push, List.map_append, hm, List.map_append]; rfl
    · intro p hp
      rcases List.mem_append.1 hp with hp | hp
      · exact hz p hp
      · rw [List.mem_singleton] at hp; subst hp; exact hs
  · refine ⟨setBlock w b (.map (es.modify j (fun e' => { e' with key := .string s, val := v })) clock), _, ?_, ⟨_, _, heap_setBlock_same hb _, ?_, ?_⟩, hg _, by simp [setBlock], .inr ⟨j, u, h2, rfl⟩⟩
    · simp [Instr.mapUpdate, run_underlying ht, MapKept.run_getObj_map hb, K.check w false (keyOf_string_mk hk hs), h1, he0, hke, K.stays w (keyOf_string_mk hk hs), MapKept.run_setObj_map _ hb, Result.andThen, setBlock]
    · apply List.ext_getElem?
      intro i
      have hmi := congrArg (fun l => l[i]?) hm
      simp only [List.getElem?_map] at hmi ⊢
      rw [Array.getElem?_toList] at hmi ⊢
      rw [Array.getElem?_modify, List.getElem?_set]
      by_cases hij : j = i
      · subst hij
        simp [he0, (List.getElem?_eq_some_iff.1 h2).1]
      · simp [hij, hmi]
    · intro p hp
      rcases List.mem_or_eq_of_mem_set hp with hp | hp
      · exact hz p hp
      · subst hp; exact hs
end
/-- Block b is a set of strings, a map[string]bool that holds true at each of l. -/
def SetIs (w : World) (b : Nat) (l : List ByteArray) : Prop := MapIs w b (l.map fun s => (s, .bool true))
/-- Block b is a map[string]int. -/
def IntsIs (w : World) (b : Nat) (l : List (ByteArray × Int)) : Prop := MapIs w b (l.map fun p => (p.1, .int .i64 p.2))
theorem SetIs.at {w w' : World} {b : Nat} {l : List ByteArray} (h : SetIs w b l) (e : w'.heap[b]? = w.heap[b]?) : SetIs w' b l := MapIs.at h e
theorem SetIs.keep {w w' : World} {b : Nat} {l : List ByteArray} (h : SetIs w b l) (k : Below w.heap.size w w') : SetIs w' b l := MapIs.keep h k
theorem SetIs.lt {w : World} {b : Nat} {l : List ByteArray} (h : SetIs w b l) : b < w.heap.size := MapIs.lt h
theorem SetIs.made (w : World) : SetIs (w.alloc (.map #[] 0)) w.heap.size [] := MapIs.made w
theorem IntsIs.at {w w' : World} {b : Nat} {l : List (ByteArray × Int)} (h : IntsIs w b l) (e : w'.heap[b]? = w.heap[b]?) : IntsIs w' b l := MapIs.at h e
theorem IntsIs.keep {w w' : World} {b : Nat} {l : List (ByteArray × Int)} (h : IntsIs w b l) (k : Below w.heap.size w w') : IntsIs w' b l := MapIs.keep h k
theorem IntsIs.lt {w : World} {b : Nat} {l : List (ByteArray × Int)} (h : IntsIs w b l) : b < w.heap.size := MapIs.lt h
theorem IntsIs.made (w : World) : IntsIs (w.alloc (.map #[] 0)) w.heap.size [] := MapIs.made w
/-- Is the string there? -/
def inL (s : ByteArray) (l : List ByteArray) : Bool := l.any fun t => decide (s = t)
theorem inL_iff {s : ByteArray} {l : List ByteArray} : inL s l = true ↔ s ∈ l := by
  unfold inL
  rw [List.any_eq_true]
  constructor
  · rintro ⟨x, h1, h2⟩
    rw [of_decide_eq_true h2]; exact h1
  · exact fun h => ⟨s, h, decide_eq_true rfl⟩
theorem inL_not {s : ByteArray} {l : List ByteArray} : inL s l = false ↔ s ∉ l := by
  rw [← inL_iff]; cases inL s l <;> simp
/-- What stands at the string; none: nothing. -/
def atL (s : ByteArray) (l : List (ByteArray × Int)) : Option Int := (l.find? fun p => decide (p.1 = s)).map (·.2)
/-- The set with one more. -/
def putL (s : ByteArray) (l : List ByteArray) : List ByteArray := if inL s l then l else l ++ [s]
section
variable {P : Program} {k e t : TypeId} {w : World} {b : Nat}
theorem SetIs.lookup {l : List ByteArray} (hk : P.underlying k = some .string) (ht : P.underlying t = some (.map k e)) (hz : (zeroValue e).run P w = .ok (.bool false) w) (h : SetIs w b l) (s : ByteArray) (hs : s.size ≤ maxLen) :
    (Instr.lookup t (.map (some b)) (.string s) false).run P w = .ok (.bool (inL s l)) w := by
  rcases MapIs.lookup hk ht hz h s hs false with ⟨h1, h2⟩ | ⟨v, h1, h2⟩
  · have : inL s l = false := by
      rw [inL_not]
      exact fun hm => h2 (s, .bool true) (List.mem_map.2 ⟨s, hm, rfl⟩) rfl
    rw [this]; exact h1
  · obtain ⟨x, hx, he⟩ := List.mem_map.1 h2
    cases he
    have : inL s l = true := inL_iff.2 hx
    rw [this]; exact h1
theorem SetIs.store {l : List ByteArray} (hk : P.underlying k = some .string) (ht : P.underlying t = some (.map k e)) (h : SetIs w b l) (s : ByteArray) (hs : s.size ≤ maxLen) :
    ∃ w', (Instr.mapUpdate t (.map (some b)) (.string s) (.bool true)).run P w = .ok () w' ∧ SetIs w' b (putL s l) ∧ w.grownBy w' (some b) ∧ w'.heap.size = w.heap.size := by
  obtain ⟨w', L', h1, h2, h3, h4, h5⟩ := MapIs.store hk ht h s hs (.bool true)
  refine ⟨w', h1, ?_, h3, h4⟩
  rcases h5 with ⟨h5, rfl⟩ | ⟨j, u, h5, rfl⟩
  · have : inL s l = false := by
      rw [inL_not]
      exact fun hm => h5 (s, .bool true) (List.mem_map.2 ⟨s, hm, rfl⟩) rfl
    unfold SetIs putL
    rw [this, if_neg (by simp), List.map_append]; exact h2
  · rw [List.getElem?_map] at h5
    cases hj : l[j]? with
    | none => rw [hj] at h5; cases h5
    | some x =>
      rw [hj] at h5
      cases h5
      have : inL s l = true := inL_iff.2 (List.mem_of_getElem? hj)
      unfold SetIs putL
      rw [this, if_pos rfl]
      have e1 : (l.map fun s => (s, Value.bool true)).set j (s, .bool true) = l.map fun s => (s, Value.bool true) := by
        apply List.ext_getElem?
        intro i
        rw [List.getElem?_set]
        by_cases hij : j = i
        · subst hij; simp [hj, (List.getElem?_eq_some_iff.1 hj).1, (List.getElem?_eq_some_iff.1 hj).2]
        · simp [hij]
      rw [← e1]; exact h2
theorem SetIs.len {l : List ByteArray} (ht : P.underlying t = some (.map k e)) (h : SetIs w b l) (ty : TypeId) : (Builtin.len_ #[t] ty #[.map (some b)]).run P w = .ok (.int .i64 l.length) w := by
  obtain ⟨es, clock, hb, hm, _⟩ := h
  have hlen : es.size = l.length := by have := congrArg List.length hm; simpa using this
  simp [Builtin.len_, run_underlying ht, MapKept.run_getObj_map hb, Result.andThen, goInt, hlen]
theorem IntsIs.lookup {l : List (ByteArray × Int)} (hk : P.underlying k = some .string) (ht : P.underlying t = some (.map k e)) (hz : (zeroValue e).run P w = .ok (.int .i64 0) w) (h : IntsIs w b l) (hd : l.Pairwise (fun p q => p.1 ≠ q.1)) (s : ByteArray) (hs : s.size ≤ maxLen) :
    (Instr.lookup t (.map (some b)) (.string s) true).run P w = .ok (.tuple #[.int .i64 ((atL s l).getD 0), .bool (atL s l).isSome]) w := by
  rcases MapIs.lookup hk ht hz h s hs true with ⟨h1, h2⟩ | ⟨v, h1, h2⟩
  · have : atL s l = none := by
      unfold atL
      rw [Option.map_eq_none_iff, List.find?_eq_none]
      intro p hp
      simpa using fun e => h2 (p.1, .int .i64 p.2) (List.mem_map.2 ⟨p, hp, rfl⟩) e
    rw [this]; exact h1
  · obtain ⟨x, hx, he⟩ := List.mem_map.1 h2
    cases he
    have : atL x.1 l = some x.2 := by
      unfold atL
      rw [Option.map_eq_some_iff]
      refine ⟨x, ?_, rfl⟩
      rw [List.find?_eq_some_iff_append]
      refine ⟨by simp, ?_⟩
      obtain ⟨as, bs, rfl⟩ := List.append_of_mem hx
      refine ⟨as, bs, rfl, fun a ha => ?_⟩
      have := (List.pairwise_append.1 hd).2.2 a ha x (by simp)
      simpa using this
    rw [this]; exact h1
theorem IntsIs.store_new {l : List (ByteArray × Int)} (hk : P.underlying k = some .string) (ht : P.underlying t = some (.map k e)) (h : IntsIs w b l) (s : ByteArray) (hs : s.size ≤ maxLen) (n : Int) (hn : ∀ p ∈ l, p.1 ≠ s) :
    ∃ w', (Instr.mapUpdate t (.map (some b)) (.string s) (.int .i64 n)).run P w = .ok () w' ∧ IntsIs w' b (l ++ [(s, n)]) ∧ w.grownBy w' (some b) ∧ w'.heap.size = w.heap.size := by
  obtain ⟨w', L', h1, h2, h3, h4, h5⟩ := MapIs.store hk ht h s hs (.int .i64 n)
  refine ⟨w', h1, ?_, h3, h4⟩
  rcases h5 with ⟨h5, rfl⟩ | ⟨j, u, h5, rfl⟩
  · unfold IntsIs; rw [List.map_append]; exact h2
  · rw [List.getElem?_map] at h5
    cases hj : l[j]? with
    | none => rw [hj] at h5; cases h5
    | some x =>
      rw [hj] at h5
      cases h5
      exact absurd rfl (hn x (List.mem_of_getElem? hj))
end
section
variable {P : Program} {w : World} {ops : Array Oper} {rest : List Oper} {o : Oper} {a : Act} {Q : Exit → Act → World → Prop}
/-- 'm[s]' of a set, at the operation. -/
theorem wpList_set_lookup (hg : o.guard = none) (m x : Operand) (t : TypeId) (hop : o.op = Op.lookup t m x false) (k e : TypeId) (hk : P.underlying k = some .string) (ht : P.underlying t = some (.map k e)) (hz : (zeroValue e).run P w = .ok (.bool false) w)
    (b : Nat) (l : List ByteArray) (hm : a.eval m = .map (some b)) (s : ByteArray) (hx : a.eval x = .string s) (hs : s.size ≤ maxLen) (h : SetIs w b l)
    (hK : wpList P ops Q rest (a.put o.dst (.bool (inL s l))) w) : wpList P ops Q (o :: rest) a w := by
  refine wpList_plain hg fun K' hK' => ?_
  unfold Oper.wp
  simp [execOp, hop, hm, hx, h.lookup hk ht hz s hs, Result.andThen]
  exact hK' _ _ hK
/-- 'm[s] = true' of a set, at the operation. -/
theorem wpList_set_store (hg : o.guard = none) (m x v : Operand) (t : TypeId) (hop : o.op = Op.mapUpdate t m x v) (k e : TypeId) (hk : P.underlying k = some .string) (ht : P.underlying t = some (.map k e))
    (b : Nat) (l : List ByteArray) (hm : a.eval m = .map (some b)) (s : ByteArray) (hx : a.eval x = .string s) (hv : a.eval v = .bool true) (hs : s.size ≤ maxLen) (h : SetIs w b l)
    (hK : ∀ w', SetIs w' b (putL s l) → w.grownBy w' (some b) → w'.heap.size = w.heap.size → wpList P ops Q rest (a.put o.dst undef) w') : wpList P ops Q (o :: rest) a w := by
  refine wpList_plain hg fun K' hK' => ?_
  obtain ⟨w', hrun, r1, r2, r3⟩ := h.store hk ht s hs
  unfold Oper.wp
  simp [execOp, hop, hm, hx, hv, hrun, Result.andThen]
  exact hK' _ _ (hK w' r1 r2 r3)
/-- 'len(m)' of a set, at the operation. -/
theorem wpList_set_len (hg : o.guard = none) (m : Operand) (t : TypeId) (hop : o.op = Op.call { callee := Callee.builtin Builtin.len, args := #[m], argTypes := #[t] }) (k e : TypeId) (ht : P.underlying t = some (.map k e))
    (b : Nat) (l : List ByteArray) (hm : a.eval m = .map (some b)) (h : SetIs w b l) (hK : wpList P ops Q rest (a.put o.dst (.int .i64 l.length)) w) : wpList P ops Q (o :: rest) a w := by
  refine wpList_plain hg fun K' hK' => ?_
  unfold Oper.wp
  simp [execOp, hop, resolve, invoke, builtin, hm, h.len ht o.type, Result.andThen]
  exact hK' _ _ hK
/-- 'v, ok := m[s]' of a map of numbers, at the operation. -/
theorem wpList_ints_lookup (hg : o.guard = none) (m x : Operand) (t : TypeId) (hop : o.op = Op.lookup t m x true) (k e : TypeId) (hk : P.underlying k = some .string) (ht : P.underlying t = some (.map k e)) (hz : (zeroValue e).run P w = .ok (.int .i64 0) w)
    (b : Nat) (l : List (ByteArray × Int)) (hm : a.eval m = .map (some b)) (s : ByteArray) (hx : a.eval x = .string s) (hs : s.size ≤ maxLen) (h : IntsIs w b l) (hd : l.Pairwise (fun p q => p.1 ≠ q.1))
    (hK : wpList P ops Q rest (a.put o.dst (.tuple #[.int .i64 ((atL s l).getD 0), .bool (atL s l).isSome])) w) : wpList P ops Q (o :: rest) a w := by
  refine wpList_plain hg fun K' hK' => ?_
  unfold Oper.wp
  simp [execOp, hop, hm, hx, h.lookup hk ht hz hd s hs, Result.andThen]
  exact hK' _ _ hK
/-- 'm[s] = n' at a new key, at the operation. -/
theorem wpList_ints_store (hg : o.guard = none) (m x v : Operand) (t : TypeId) (hop : o.op = Op.mapUpdate t m x v) (k e : TypeId) (hk : P.underlying k = some .string) (ht : P.underlying t = some (.map k e))
    (b : Nat) (l : List (ByteArray × Int)) (hm : a.eval m = .map (some b)) (s : ByteArray) (hx : a.eval x = .string s) (n : Int) (hv : a.eval v = .int .i64 n) (hs : s.size ≤ maxLen) (h : IntsIs w b l) (hn : ∀ p ∈ l, p.1 ≠ s)
    (hK : ∀ w', IntsIs w' b (l ++ [(s, n)]) → w.grownBy w' (some b) → w'.heap.size = w.heap.size → wpList P ops Q rest (a.put o.dst undef) w') : wpList P ops Q (o :: rest) a w := by
  refine wpList_plain hg fun K' hK' => ?_
  obtain ⟨w', hrun, r1, r2, r3⟩ := h.store_new hk ht s hs n hn
  unfold Oper.wp
  simp [execOp, hop, hm, hx, hv, hrun, Result.andThen]
  exact hK' _ _ (hK w' r1 r2 r3)
end
end Go.Proofs.YtgcfdbhpophnjaaDoor
