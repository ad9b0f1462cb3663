/- Maps keyed by ints, as lists; and the contract of the maker's makers: a map of its methods. No condition. -/
import Derived.Test.YtfdinncgncbmfaaDoorScC
import Derived.Test.YtfdinncgncbmfaaDoorMap
set_option linter.unusedVariables false
set_option linter.unusedSimpArgs false
set_option linter.unnecessarySimpa false
namespace Go.Proofs.YtfdinncgncbmfaaDoor
open Go.Maps (Keyed int_keyed)
open Go.WideShapes Go.ChangeMaps Go.MapKept Go.WideMaps Go.ChangeAt Go.RowKit Go.ChangeShapes
/-- Block b is a map whose entries are those of L, in that order. -/
def ZIs (w : World) (b : Nat) (L : List (Int × Value)) : Prop :=
  ∃ es clock, w.heap[b]? = some (.map es clock) ∧ es.toList.map (fun e => (e.key, e.val)) = L.map (fun p => (Value.int .i64 p.1, p.2)) ∧ ∀ p ∈ L, (Lit.int .i64 p.1).wf = true
section
variable {P : Program} {k : TypeId} {w : World} {b : Nat} {L : List (Int × Value)}
theorem ZIs.lt (h : ZIs w b L) : b < w.heap.size := by
  obtain ⟨es, clock, hb, _⟩ := h
  exact (Array.getElem?_eq_some_iff.1 hb).1
theorem ZIs.at (h : ZIs w b L) {w' : World} (e : w'.heap[b]? = w.heap[b]?) : ZIs w' b L := by
  obtain ⟨es, clock, hb, r⟩ := h
  exact ⟨es, clock, e.trans hb, r⟩
theorem ZIs.keep (h : ZIs w b L) {w' : World} (k : Below w.heap.size w w') : ZIs w' b L := h.at (k.block b h.lt)
theorem ZIs.made (w : World) : ZIs (w.alloc (.map #[] 0)) w.heap.size [] :=
  ⟨#[], 0, (MapKept.heap_alloc w _).1, rfl, fun _ h => nomatch h⟩
theorem ZIs.find (hk : P.underlying k = some (.int .i64)) (h : ZIs w b L) (s : Int) (hs : (Lit.int .i64 s).wf = true) :
    ∃ es clock, w.heap[b]? = some (.map es clock) ∧ es.size = L.length ∧ es.toList.map (fun e => (e.key, e.val)) = L.map (fun p => (Value.int .i64 p.1, p.2)) ∧
      (((Instr.findKey k (.int .i64 s) es.toList).run P w = .ok none w ∧ ∀ p ∈ L, p.1 ≠ s) ∨
        ∃ j v, (Instr.findKey k (.int .i64 s) es.toList).run P w = .ok (some (j, v)) w ∧ L[j]? = some (s, v) ∧ ∃ e, es[j]? = some e ∧ e.key = .int .i64 s ∧ e.val = v) := by
  obtain ⟨es, clock, hb, hm, hz⟩ := h
  have hlen : es.size = L.length := by have := congrArg List.length hm; simpa using this
  refine ⟨es, clock, hb, hlen, hm, ?_⟩
  have K := Go.Maps.int_keyed hk
  have hkeys : ∀ e ∈ es.toList, ∃ l, keyOf P k e.key = some l := by
    intro e he
    have h1 : (e.key, e.val) ∈ L.map (fun p => (Value.int .i64 p.1, p.2)) := by rw [← hm]; exact List.mem_map.2 ⟨e, he, rfl⟩
    obtain ⟨p, hp, he2⟩ := List.mem_map.1 h1
    have h2 : Value.int .i64 p.1 = e.key := congrArg Prod.fst he2
    exact ⟨_, by rw [← h2]; exact Go.Maps.keyOf_int_mk hk (hz p hp)⟩
  rcases K.find w (Go.Maps.keyOf_int_mk hk hs) es.toList hkeys with ⟨h1, h2⟩ | ⟨j, e, h1, h2, h3⟩
  · refine .inl ⟨h1, fun p hp hps => ?_⟩
    have h4 : (Value.int .i64 p.1, p.2) ∈ es.toList.map (fun e => (e.key, e.val)) := by rw [hm]; exact List.mem_map.2 ⟨p, hp, rfl⟩
    obtain ⟨e, he, h5⟩ := List.mem_map.1 h4
    exact h2 e he (by rw [← hps]; exact congrArg Prod.fst h5)
  · refine .inr ⟨j, e.val, h1, ?_, e, by simpa using h2, h3, rfl⟩
    have h4 : (es.toList.map (fun e => (e.key, e.val)))[j]? = some (e.key, e.val) := by rw [List.getElem?_map, h2]; rfl
    rw [hm, List.getElem?_map] at h4
    cases hj : L[j]? with
    | none => rw [hj] at h4; cases h4
    | some p =>
      rw [hj] at h4
      simp only [Option.map_some, Option.some.injEq, Prod.mk.injEq] at h4
      obtain ⟨h5, h6⟩ := h4
      rw [h3] at h5
      cases h5
      rw [← h6]
/-- 'm[s]', 'v, ok := m[s]': what comes back. -/
theorem ZIs.lookup {t e : TypeId} (hk : P.underlying k = some (.int .i64)) (ht : P.underlying t = some (.map k e)) {z : Value} (hz : (zeroValue e).run P w = .ok z w) (h : ZIs w b L) (s : Int) (hs : (Lit.int .i64 s).wf = true) (c : Bool) :
    ((Instr.lookup t (.map (some b)) (.int .i64 s) c).run P w = .ok (if c then .tuple #[z, .bool false] else z) w ∧ ∀ p ∈ L, p.1 ≠ s) ∨
      ∃ v, (Instr.lookup t (.map (some b)) (.int .i64 s) c).run P w = .ok (if c then .tuple #[v, .bool true] else v) w ∧ (s, v) ∈ L := by
  obtain ⟨es, clock, hb, _, _, hf⟩ := h.find hk s hs
  have K := Go.Maps.int_keyed hk
  rcases hf with ⟨h1, h2⟩ | ⟨j, v, h1, h2, _⟩
  · exact .inl ⟨by simp [Instr.lookup, run_underlying ht, MapKept.run_getObj_map hb, K.check w _ (Go.Maps.keyOf_int_mk hk hs), h1, hz, Result.andThen], h2⟩
  · exact .inr ⟨v, by simp [Instr.lookup, run_underlying ht, MapKept.run_getObj_map hb, K.check w _ (Go.Maps.keyOf_int_mk hk hs), h1, Result.andThen], List.mem_of_getElem? h2⟩
/-- 'm[s] = v'. -/
theorem ZIs.store {t e : TypeId} (hk : P.underlying k = some (.int .i64)) (ht : P.underlying t = some (.map k e)) (h : ZIs w b L) (s : Int) (hs : (Lit.int .i64 s).wf = true) (v : Value) :
    ∃ w' L', (Instr.mapUpdate t (.map (some b)) (.int .i64 s) v).run P w = .ok () w' ∧ ZIs w' b L' ∧ w.grownBy w' (some b) ∧ w'.heap.size = w.heap.size ∧
      (((∀ p ∈ L, p.1 ≠ s) ∧ L' = L ++ [(s, v)]) ∨ ∃ j u, L[j]? = some (s, u) ∧ L' = L.set j (s, v)) := by
  have h0 := h
  obtain ⟨es, clock, hb, hlen, hm, hf⟩ := h.find hk s hs
  obtain ⟨_, _, hb', _, hz⟩ := h0
  have K := Go.Maps.int_keyed hk
  have hg : ∀ o : Obj, w.grownBy (setBlock w b o) (some b) := fun o => ⟨rfl, rfl, rfl, by simp [setBlock], fun i _ hi => heap_setBlock_other hb o (fun e => hi (by rw [e]))⟩
  rcases hf with ⟨h1, h2⟩ | ⟨j, u, h1, h2, e0, he0, hke, hve⟩
  · refine ⟨setBlock w b (.map (es.push ⟨.int .i64 s, v, clock⟩) (clock + 1)), _, by simp [Instr.mapUpdate, run_underlying ht, MapKept.run_getObj_map hb, K.check w false (Go.Maps.keyOf_int_mk hk hs), h1, MapKept.run_setObj_map _ hb, Result.andThen, setBlock], ⟨_, _, heap_setBlock_same hb _, ?_, ?_⟩, hg _, by simp [setBlock], .inl ⟨h2, rfl⟩⟩
    · rw [Array.toList_push, List.map_append, hm, List.map_append]; rfl
    · intro p hp
      rcases List.mem_append.1 hp with hp | hp
      · exact hz p hp
      · rw [List.mem_singleton] at hp; subst hp; exact hs
  · refine ⟨setBlock w b (.map (es.modify j (fun e' => { e' with key := .int .i64 s, val := v })) clock), _, ?_, ⟨_, _, heap_setBlock_same hb _, ?_, ?_⟩, hg _, by simp [setBlock], .inr ⟨j, u, h2, rfl⟩⟩
    · simp [Instr.mapUpdate, run_underlying ht, MapKept.run_getObj_map hb, K.check w false (Go.Maps.keyOf_int_mk hk hs), h1, he0, hke, K.stays w (Go.Maps.keyOf_int_mk hk hs), MapKept.run_setObj_map _ hb, Result.andThen, setBlock]
    · apply List.ext_getElem?
      intro i
      have hmi := congrArg (fun l => l[i]?) hm
      simp only [List.getElem?_map] at hmi ⊢
      rw [Array.getElem?_toList] at hmi ⊢
      rw [Array.getElem?_modify, List.getElem?_set]
      by_cases hij : j = i
      · subst hij
        simp [he0, (List.getElem?_eq_some_iff.1 h2).1]
      · simp [hij, hmi]
    · intro p hp
      rcases List.mem_or_eq_of_mem_set hp with hp | hp
      · exact hz p hp
      · subst hp; exact hs
end
/-- The maker's methods, by number. -/
def methods (m : Nat) : List (Int × Value) := [(0, .func (.func 32) #[.pointer (some ⟨m, 0, none⟩)] #[]), (1, .func (.func 33) #[.pointer (some ⟨m, 0, none⟩)] #[]), (2, .func (.func 33) #[.pointer (some ⟨m, 0, none⟩)] #[]), (3, .func (.func 33) #[.pointer (some ⟨m, 0, none⟩)] #[]), (4, .func (.func 33) #[.pointer (some ⟨m, 0, none⟩)] #[]), (5, .func (.func 34) #[.pointer (some ⟨m, 0, none⟩)] #[]), (6, .func (.func 35) #[.pointer (some ⟨m, 0, none⟩)] #[]), (7, .func (.func 36) #[.pointer (some ⟨m, 0, none⟩)] #[]), (8, .func (.func 37) #[.pointer (some ⟨m, 0, none⟩)] #[]), (9, .func (.func 37) #[.pointer (some ⟨m, 0, none⟩)] #[]), (10, .func (.func 38) #[.pointer (some ⟨m, 0, none⟩)] #[]), (11, .func (.func 38) #[.pointer (some ⟨m, 0, none⟩)] #[]), (12, .func (.func 39) #[.pointer (some ⟨m, 0, none⟩)] #[]), (13, .func (.func 40) #[.pointer (some ⟨m, 0, none⟩)] #[]), (14, .func (.func 41) #[.pointer (some ⟨m, 0, none⟩)] #[]), (15, .func (.func 42) #[.pointer (some ⟨m, 0, none⟩)] #[])]
theorem ZIs.push {P : Program} {k t e : TypeId} {w : World} {b : Nat} {L : List (Int × Value)} (hk : P.underlying k = some (.int .i64)) (ht : P.underlying t = some (.map k e)) (h : ZIs w b L) (s : Int) (hs : (Lit.int .i64 s).wf = true) (v : Value) (hn : ∀ p ∈ L, p.1 ≠ s) :
    ∃ w', (Instr.mapUpdate t (.map (some b)) (.int .i64 s) v).run P w = .ok () w' ∧ ZIs w' b (L ++ [(s, v)]) ∧ w.grownBy w' (some b) := by
  obtain ⟨w', L', h1, h2, h3, -, h4⟩ := h.store hk ht s hs v
  rcases h4 with ⟨-, rfl⟩ | ⟨j, u, hj, -⟩
  · exact ⟨w', h1, h2, h3⟩
  · exact absurd rfl (hn _ (List.mem_of_getElem? hj))
theorem Trn.own {w w' : World} {b : Nat} (h : w.grownBy w' (some b)) : Trn (fun x => x = b) w w' := Trn.of_grown h fun c e => (Option.some.inj e).symm
set_option maxRecDepth 100000 in
set_option maxHeartbeats 1600000 in
theorem makers_any (m : Nat) (w : World) :
    Calls Tryd.prog 26 #[.pointer (some ⟨m, 0, none⟩)] w fun e w' => e = .returned (.map (some w.heap.size)) ∧ ZIs w' w.heap.size (methods m) ∧ Below w.heap.size w w' := by
  have hmm := @run_makeMap Tryd.prog
  have hmf : ∀ (fn : Fn) (first cap : Array Value) (w : World), (Instr.makeFunc fn first cap).run Tryd.prog w = .ok (.func fn first cap) w := fun _ _ _ _ => rfl
  have z0 := Lib.hid (ZIs.made w)
  have t0 : Trn (fun x => w.heap.size ≤ x) w (w.alloc (.map #[] 0)) := Trn.of_below ((Below.refl _ _).alloc (Nat.le_refl _) _)
  obtain ⟨w1, e0, y0, g0⟩ := z0.out.push (t := 80) Tryd.underlying3 Tryd.underlying80 0 (by decide) (.func (.func 32) #[.pointer (some ⟨m, 0, none⟩)] #[]) (by simp)
  have z1 := Lib.hid y0
  have t1 := t0.step (Trn.own g0) fun i _ h => by have h' : i = w.heap.size := h; show w.heap.size ≤ i; omega
  clear y0 g0
  obtain ⟨w2, e1, y1, g1⟩ := z1.out.push (t := 80) Tryd.underlying3 Tryd.underlying80 1 (by decide) (.func (.func 33) #[.pointer (some ⟨m, 0, none⟩)] #[]) (by simp)
  have z2 := Lib.hid y1
  have t2 := t1.step (Trn.own g1) fun i _ h => by have h' : i = w.heap.size := h; show w.heap.size ≤ i; omega
  clear y1 g1
  obtain ⟨w3, e2, y2, g2⟩ := z2.out.push (t := 80) Tryd.underlying3 Tryd.underlying80 2 (by decide) (.func (.func 33) #[.pointer (some ⟨m, 0, none⟩)] #[]) (by simp)
  have z3 := Lib.hid y2
  have t3 := t2.step (Trn.own g2) fun i _ h => by have h' : i = w.heap.size := h; show w.heap.size ≤ i; omega
  clear y2 g2
  obtain ⟨w4, e3, y3, g3⟩ := z3.out.push (t := 80) Tryd.underlying3 Tryd.underlying80 3 (by decide) (.func (.func 33) #[.pointer (some ⟨m, 0, none⟩)] #[]) (by simp)
  have z4 := Lib.hid y3
  have t4 := t3.step (Trn.own g3) fun i _ h => by have h' : i = w.heap.size := h; show w.heap.size ≤ i; omega
  clear y3 g3
  obtain ⟨w5, e4, y4, g4⟩ := z4.out.push (t := 80) Tryd.underlying3 Tryd.underlying80 4 (by decide) (.func (.func 33) #[.pointer (some ⟨m, 0, none⟩)] #[]) (by simp)
  have z5 := Lib.hid y4
  have t5 := t4.step (Trn.own g4) fun i _ h => by have h' : i = w.heap.size := h; show w.heap.size ≤ i; omega
  clear y4 g4
  obtain ⟨w6, e5, y5, g5⟩ := z5.out.push (t := 80) Tryd.underlying3 Tryd.underlying80 5 (by decide) (.func (.func 34) #[.pointer (some ⟨m, 0, none⟩)] #[]) (by simp)
  have z6 := Lib.hid y5
  have t6 := t5.step (Trn.own g5) fun i _ h => by have h' : i = w.heap.size := h; show w.heap.size ≤ i; omega
  clear y5 g5
  obtain ⟨w7, e6, y6, g6⟩ := z6.out.push (t := 80) Tryd.underlying3 Tryd.underlying80 6 (by decide) (.func (.func 35) #[.pointer (some ⟨m, 0, none⟩)] #[]) (by simp)
  have z7 := Lib.hid y6
  have t7 := t6.step (Trn.own g6) fun i _ h => by have h' : i = w.heap.size := h; show w.heap.size ≤ i; omega
  clear y6 g6
  obtain ⟨w8, e7, y7, g7⟩ := z7.out.push (t := 80) Tryd.underlying3 Tryd.underlying80 7 (by decide) (.func (.func 36) #[.pointer (some ⟨m, 0, none⟩)] #[]) (by simp)
  have z8 := Lib.hid y7
  have t8 := t7.step (Trn.own g7) fun i _ h => by have h' : i = w.heap.size := h; show w.heap.size ≤ i; omega
  clear y7 g7
  obtain ⟨w9, e8, y8, g8⟩ := z8.out.push (t := 80) Tryd.underlying3 Tryd.underlying80 8 (by decide) (.func (.func 37) #[.pointer (some ⟨m, 0, none⟩)] #[]) (by simp)
  have z9 := Lib.hid y8
  have t9 := t8.step (Trn.own g8) fun i _ h => by have h' : i = w.heap.size := h; show w.heap.size ≤ i; omega
  clear y8 g8
  obtain ⟨w10, e9, y9, g9⟩ := z9.out.push (t := 80) Tryd.underlying3 Tryd.underlying80 9 (by decide) (.func (.func 37) #[.pointer (some ⟨m, 0, none⟩)] #[]) (by simp)
  have z10 := Lib.hid y9
  have t10 := t9.step (Trn.own g9) fun i _ h => by have h' : i = w.heap.size := h; show w.heap.size ≤ i; omega
  clear y9 g9
  obtain ⟨w11, e10, y10, g10⟩ := z10.out.push (t := 80) Tryd.underlying3 Tryd.underlying80 10 (by decide) (.func (.func 38) #[.pointer (some ⟨m, 0, none⟩)] #[]) (by simp)
  have z11 := Lib.hid y10
  have t11 := t10.step (Trn.own g10) fun i _ h => by have h' : i = w.heap.size := h; show w.heap.size ≤ i; omega
  clear y10 g10
  obtain ⟨w12, e11, y11, g11⟩ := z11.out.push (t := 80) Tryd.underlying3 Tryd.underlying80 11 (by decide) (.func (.func 38) #[.pointer (some ⟨m, 0, none⟩)] #[]) (by simp)
  have z12 := Lib.hid y11
  have t12 := t11.step (Trn.own g11) fun i _ h => by have h' : i = w.heap.size := h; show w.heap.size ≤ i; omega
  clear y11 g11
  obtain ⟨w13, e12, y12, g12⟩ := z12.out.push (t := 80) Tryd.underlying3 Tryd.underlying80 12 (by decide) (.func (.func 39) #[.pointer (some ⟨m, 0, none⟩)] #[]) (by simp)
  have z13 := Lib.hid y12
  have t13 := t12.step (Trn.own g12) fun i _ h => by have h' : i = w.heap.size := h; show w.heap.size ≤ i; omega
  clear y12 g12
  obtain ⟨w14, e13, y13, g13⟩ := z13.out.push (t := 80) Tryd.underlying3 Tryd.underlying80 13 (by decide) (.func (.func 40) #[.pointer (some ⟨m, 0, none⟩)] #[]) (by simp)
  have z14 := Lib.hid y13
  have t14 := t13.step (Trn.own g13) fun i _ h => by have h' : i = w.heap.size := h; show w.heap.size ≤ i; omega
  clear y13 g13
  obtain ⟨w15, e14, y14, g14⟩ := z14.out.push (t := 80) Tryd.underlying3 Tryd.underlying80 14 (by decide) (.func (.func 41) #[.pointer (some ⟨m, 0, none⟩)] #[]) (by simp)
  have z15 := Lib.hid y14
  have t15 := t14.step (Trn.own g14) fun i _ h => by have h' : i = w.heap.size := h; show w.heap.size ≤ i; omega
  clear y14 g14
  obtain ⟨w16, e15, y15, g15⟩ := z15.out.push (t := 80) Tryd.underlying3 Tryd.underlying80 15 (by decide) (.func (.func 42) #[.pointer (some ⟨m, 0, none⟩)] #[]) (by simp)
  have z16 := Lib.hid y15
  have t16 := t15.step (Trn.own g15) fun i _ h => by have h' : i = w.heap.size := h; show w.heap.size ≤ i; omega
  clear y15 g15
  have HT := Lib.hid t16
  clear t0 t1 t2 t3 t4 t5 t6 t7 t8 t9 t10 t11 t12 t13 t14 t15 t16 z0 z1 z2 z3 z4 z5 z6 z7 z8 z9 z10 z11 z12 z13 z14 z15
  go_enter Tryd.func26, Tryd.ntmps26
  go_wp2_with fail
  go_ret
  exact ⟨rfl, z16.out, HT.out.below _ (Nat.le_refl _) fun i hi h => by omega⟩
end Go.Proofs.YtfdinncgncbmfaaDoor
