/- Maps whose keys are of any plain kind, as lists of pairs of values: what a look-up and a store do, at the operations. Plain lemmas over any program. No condition. -/
import Derived.Maps.OwnOps
import Derived.Maps.OwnSet
import Derived.DeepKeys4
import Derived.OwnWalk
import Derived.WalkKit
import Derived.Test.YtgcfdbhpophnjaaDoorMap
set_option linter.unusedVariables false
set_option linter.unusedSimpArgs false
namespace Go.Proofs.YtgcfdbhpophnjaaDoor
open Go.Maps (Keyed string_keyed int_keyed)
open Go.WideShapes Go.ChangeMaps Go.MapKept Go.WideMaps Go.ChangeAt Go.RowKit Go.ChangeShapes
/-- Block b is a map whose entries are those of L, in that order; each key is one of the type k. -/
def MapG (P : Program) (k : TypeId) (w : World) (b : Nat) (L : List (Value × Value)) : Prop :=
  ∃ es clock, w.heap[b]? = some (.map es clock) ∧ es.toList.map (fun e => (e.key, e.val)) = L ∧ ∀ p ∈ L, ∃ l, keyOf P k p.1 = some l
section
variable {P : Program} {k : TypeId} {w : World} {b : Nat} {L : List (Value × Value)}
theorem MapG.lt (h : MapG P k w b L) : b < w.heap.size := by
  obtain ⟨es, clock, hb, _⟩ := h
  exact (Array.getElem?_eq_some_iff.1 hb).1
theorem MapG.at (h : MapG P k w b L) {w' : World} (e : w'.heap[b]? = w.heap[b]?) : MapG P k w' b L := by
  obtain ⟨es, clock, hb, r⟩ := h
  exact ⟨es, clock, e.trans hb, r⟩
theorem MapG.keep (h : MapG P k w b L) {w' : World} (kk : Below w.heap.size w w') : MapG P k w' b L := h.at (kk.block b h.lt)
theorem MapG.fresh {w : World} {b : Nat} (h : w.heap[b]? = some (.map #[] 0)) : MapG P k w b [] := ⟨#[], 0, h, rfl, fun _ h => nomatch h⟩
theorem MapG.find (K : Keyed P k) (h : MapG P k w b L) (x : Value) {lx : Lit} (hx : keyOf P k x = some lx) :
    ∃ es clock, w.heap[b]? = some (.map es clock) ∧ es.toList.map (fun e => (e.key, e.val)) = L ∧
      (((Instr.findKey k x es.toList).run P w = .ok none w ∧ ∀ p ∈ L, p.1 ≠ x) ∨
        ∃ j v, (Instr.findKey k x es.toList).run P w = .ok (some (j, v)) w ∧ L[j]? = some (x, v) ∧ ∃ e, es[j]? = some e ∧ e.key = x ∧ e.val = v) := by
  obtain ⟨es, clock, hb, hm, hz⟩ := h
  refine ⟨es, clock, hb, hm, ?_⟩
  have hkeys : ∀ e ∈ es.toList, ∃ l, keyOf P k e.key = some l := by
    intro e he
    have h1 : (e.key, e.val) ∈ L := by rw [← hm]; exact List.mem_map.2 ⟨e, he, rfl⟩
    exact hz _ h1
  rcases K.find w hx es.toList hkeys with ⟨h1, h2⟩ | ⟨j, e, h1, h2, h3⟩
  · refine .inl ⟨h1, fun p hp hps => ?_⟩
    rw [← hm] at hp
    obtain ⟨e, he, h5⟩ := List.mem_map.1 hp
    exact h2 e he (by rw [← hps, ← h5])
  · refine .inr ⟨j, e.val, h1, ?_, e, by simpa using h2, h3, rfl⟩
    rw [← hm, List.getElem?_map, h2, ← h3]; rfl
theorem MapG.lookup {t e : TypeId} (K : Keyed P k) (ht : P.underlying t = some (.map k e)) {z : Value} (hz : (zeroValue e).run P w = .ok z w) (h : MapG P k w b L) (x : Value) {lx : Lit} (hx : keyOf P k x = some lx) :
    ((Instr.lookup t (.map (some b)) x false).run P w = .ok z w ∧ ∀ p ∈ L, p.1 ≠ x) ∨
      ∃ v, (Instr.lookup t (.map (some b)) x false).run P w = .ok v w ∧ ∃ j : Nat, L[j]? = some (x, v) := by
  obtain ⟨es, clock, hb, _, hf⟩ := h.find K x hx
  rcases hf with ⟨h1, h2⟩ | ⟨j, v, h1, h2, _⟩
  · exact .inl ⟨by simp [Instr.lookup, run_underlying ht, MapKept.run_getObj_map hb, K.check w _ hx, h1, hz, Result.andThen], h2⟩
  · exact .inr ⟨v, by simp [Instr.lookup, run_underlying ht, MapKept.run_getObj_map hb, K.check w _ hx, h1, Result.andThen], j, h2⟩
theorem MapG.store_new {t e : TypeId} (K : Keyed P k) (ht : P.underlying t = some (.map k e)) (h : MapG P k w b L) (x : Value) {lx : Lit} (hx : keyOf P k x = some lx) (v : Value) (hn : ∀ p ∈ L, p.1 ≠ x) :
    ∃ w', (Instr.mapUpdate t (.map (some b)) x v).run P w = .ok () w' ∧ MapG P k w' b (L ++ [(x, v)]) ∧ w.grownBy w' (some b) ∧ w'.heap.size = w.heap.size := by
  have h0 := h
  obtain ⟨es, clock, hb, hm, hf⟩ := h.find K x hx
  obtain ⟨_, _, hb', _, hz⟩ := h0
  have hg : ∀ o : Obj, w.grownBy (setBlock w b o) (some b) := fun o => ⟨rfl, rfl, rfl, by simp [setBlock], fun i _ hi => heap_setBlock_other hb o (fun e => hi (by rw [e]))⟩
  rcases hf with ⟨h1, h2⟩ | ⟨j, u, h1, h2, e0, he0, hke, hve⟩
  · refine ⟨setBlock w b (.map (es.push ⟨x, v, clock⟩) (clock + 1)), by simp [Instr.mapUpdate, run_underlying ht, MapKept.run_getObj_map hb, K.check w false hx, h1, MapKept.run_setObj_map _ hb, Result.andThen, setBlock], ⟨_, _, heap_setBlock_same hb _, ?_, ?_⟩, hg _, by simp [setBlock]⟩
    · rw [Array.toList_push, List.map_append, hm]; rfl
    · intro p hp
      rcases List.mem_append.1 hp with hp | hp
      · exact hz p hp
      · rw [List.mem_singleton] at hp; subst hp; exact ⟨_, hx⟩
  · exact absurd rfl (hn _ (List.mem_of_getElem? h2))
theorem MapG.len (h : MapG P k w b L) {t e : TypeId} (ht : P.underlying t = some (.map k e)) (ty : TypeId) : (Builtin.len_ #[t] ty #[.map (some b)]).run P w = .ok (.int .i64 L.length) w := by
  obtain ⟨es, clock, hb, hm, _⟩ := h
  have hlen : es.size = L.length := by have := congrArg List.length hm; simpa using this
  simp [Builtin.len_, run_underlying ht, MapKept.run_getObj_map hb, Result.andThen, goInt, hlen]
end
section
variable {P : Program} {w : World} {ops : Array Oper} {rest : List Oper} {o : Oper} {a : Act} {Q : Exit → Act → World → Prop}
/-- 'm[x] = v' at a new key, at the operation. -/
theorem wpList_mapG_store (hg : o.guard = none) (m x v : Operand) (t : TypeId) (hop : o.op = Op.mapUpdate t m x v) (k e : TypeId) (K : Keyed P k) (ht : P.underlying t = some (.map k e))
    (b : Nat) (L : List (Value × Value)) (hm : a.eval m = .map (some b)) (xv : Value) (hx : a.eval x = xv) (vv : Value) (hv : a.eval v = vv) {lx : Lit} (hk : keyOf P k xv = some lx) (h : MapG P k w b L) (hn : ∀ p ∈ L, p.1 ≠ xv)
    (hK : ∀ w', MapG P k w' b (L ++ [(xv, vv)]) → w.grownBy w' (some b) → w'.heap.size = w.heap.size → wpList P ops Q rest (a.put o.dst undef) w') : wpList P ops Q (o :: rest) a w := by
  refine wpList_plain hg fun K' hK' => ?_
  obtain ⟨w', hrun, r1, r2, r3⟩ := h.store_new K ht xv hk vv hn
  unfold Oper.wp
  simp [execOp, hop, hm, hx, hv, hrun, Result.andThen]
  exact hK' _ _ (hK w' r1 r2 r3)
end
end Go.Proofs.YtgcfdbhpophnjaaDoor
