/- What a search through calls, breadth first, has found when nothing is left to do: exactly what is reached. Plain. A queue of numbers: a slice that is cut at its front and appended to. Laws for the walk. Condition: it lies in memory of the call's own. -/
import Derived.Test.YtjdbdoeopobciaaDoorRfP
import Derived.Maps.AppendAt
import Derived.Deep.OwnRows
set_option linter.unnecessarySimpa false
set_option linter.unusedVariables false
set_option linter.unusedSimpArgs false
namespace Go.Proofs.YtjdbdoeopobciaaDoor
/-- The names are different. -/
def Distinct (fs : List FuncD) : Prop := ∀ (i j : Nat) (f g : FuncD), fs[i]? = some f → fs[j]? = some g → f.name = g.name → i = j
def idxOf (fs : List FuncD) (s : ByteArray) : Option Nat := fs.findIdx? fun f => decide (f.name = s)
/-- Which functions the x-th function calls. -/
def callees (fs : List FuncD) (x : Nat) : List Nat := match fs[x]? with | some f => (callsOf f.code).filterMap (idxOf fs) | none => []
theorem idxOf_some {fs : List FuncD} {s : ByteArray} {j : Nat} (h : idxOf fs s = some j) : ∃ f, fs[j]? = some f ∧ f.name = s := by
  obtain ⟨hj, h1, _⟩ := List.findIdx?_eq_some_iff_getElem.1 h
  exact ⟨fs[j], List.getElem?_eq_getElem hj, by simpa using h1⟩
theorem idxOf_at {fs : List FuncD} (hd : Distinct fs) {j : Nat} {f : FuncD} (h : fs[j]? = some f) : idxOf fs f.name = some j := by
  cases hi : idxOf fs f.name with
  | none =>
    have := List.findIdx?_eq_none_iff.1 hi f (List.mem_of_getElem? h)
    simp at this
  | some i =>
    obtain ⟨g, hg, e⟩ := idxOf_some hi
    rw [hd i j g f hg h e]
theorem find_atD {fs : List FuncD} (hd : Distinct fs) {j : Nat} {f : FuncD} (h : fs[j]? = some f) : fs.find? (fun g => decide (g.name = f.name)) = some f := by
  cases hf : fs.find? (fun g => decide (g.name = f.name)) with
  | none =>
    have := List.find?_eq_none.1 hf f (List.mem_of_getElem? h)
    simp at this
  | some g =>
    obtain ⟨i, hi⟩ := List.mem_iff_getElem?.1 (List.mem_of_find?_eq_some hf)
    have hn := List.find?_some hf
    simp only [decide_eq_true_eq] at hn
    have := hd i j g f hi h hn
    subst this
    rw [h] at hi
    exact hi.symm
theorem calls_idx {fs : List FuncD} (hd : Distinct fs) {x y : Nat} {f g : FuncD} (hx : fs[x]? = some f) (hy : fs[y]? = some g) : CallsN fs f.name g.name ↔ y ∈ callees fs x := by
  unfold CallsN callees
  rw [find_atD hd hx, hx]
  simp only [Option.some.injEq, exists_eq_left', List.mem_filterMap]
  constructor
  · intro h
    exact ⟨g.name, h, idxOf_at hd hy⟩
  · rintro ⟨s, hs, hi⟩
    obtain ⟨g', hg', rfl⟩ := idxOf_some hi
    rw [hy] at hg'
    cases hg'
    exact hs
/-- What holds while the search goes on: out says what has been found, todo what is left, X which function is looked at, ds its calls so far. -/
structure Search (fs : List FuncD) (f : FuncD) (i : Nat) (out : List Bool) (todo : List Nat) (X : Option Nat) (ds : List Nat) : Prop where
  len : out.length = fs.length
  sound : ∀ (j : Nat) (g : FuncD), fs[j]? = some g → out[j]? = some true → Reach fs f.name g.name
  left : ∀ x : Nat, x ∈ todo → x < fs.length ∧ (x = i ∨ out[x]? = some true)
  all : ∀ x : Nat, x < fs.length → (x = i ∨ out[x]? = some true) → x ∈ todo ∨ X = some x ∨ ∀ y : Nat, y ∈ callees fs x → out[y]? = some true
  cur : ∀ x : Nat, X = some x → x < fs.length ∧ (x = i ∨ out[x]? = some true) ∧ ∀ y : Nat, y ∈ ds → out[y]? = some true
section
variable {fs : List FuncD} {f : FuncD} {i : Nat} {out : List Bool} {todo : List Nat}
theorem Search.start (hi : fs[i]? = some f) : Search fs f i (List.replicate fs.length false) [i] none [] where
  len := by simp
  sound := fun j g hj h => by
    rw [List.getElem?_replicate] at h
    split at h <;> simp at h
  left := fun x hx => by
    rw [List.mem_singleton] at hx
    exact ⟨by rw [hx]; exact (List.getElem?_eq_some_iff.1 hi).1, .inl hx⟩
  all := fun x hx h => by
    rcases h with h | h
    · exact .inl (by simp [h])
    · rw [List.getElem?_replicate] at h
      split at h <;> simp at h
  cur := fun x h => by cases h
theorem Search.pop {x : Nat} (h : Search fs f i out (x :: todo) none []) : Search fs f i out todo (some x) [] where
  len := h.len
  sound := h.sound
  left := fun y hy => h.left y (List.mem_cons_of_mem _ hy)
  all := fun y hy hr => by
    rcases h.all y hy hr with h1 | h1 | h1
    · rcases List.mem_cons.1 h1 with rfl | h2
      · exact .inr (.inl rfl)
      · exact .inl h2
    · cases h1
    · exact .inr (.inr h1)
  cur := fun y hy => by
    cases hy
    obtain ⟨h1, h2⟩ := h.left x List.mem_cons_self
    exact ⟨h1, h2, fun y hy => nomatch hy⟩
theorem Search.skip {x y : Nat} {ds : List Nat} (h : Search fs f i out todo (some x) ds) (hy : out[y]? = some true) : Search fs f i out todo (some x) (ds ++ [y]) where
  len := h.len
  sound := h.sound
  left := h.left
  all := h.all
  cur := fun z hz => by
    obtain ⟨h1, h2, h3⟩ := h.cur z hz
    refine ⟨h1, h2, fun u hu => ?_⟩
    rcases List.mem_append.1 hu with h4 | h4
    · exact h3 u h4
    · rw [List.mem_singleton] at h4; subst h4; exact hy
theorem Search.push (hd : Distinct fs) (hi : fs[i]? = some f) {x y : Nat} {ds : List Nat} (h : Search fs f i out todo (some x) ds) (hy : y < fs.length) (hc : y ∈ callees fs x) : Search fs f i (out.set y true) (todo ++ [y]) (some x) (ds ++ [y]) := by
  have hyl : y < out.length := by rw [h.len]; exact hy
  have keep : ∀ z : Nat, out[z]? = some true → (out.set y true)[z]? = some true := by
    intro z hz
    rw [List.getElem?_set]
    split
    · rfl
    · exact hz
  have new : (out.set y true)[y]? = some true := by rw [List.getElem?_set_self hyl]
  obtain ⟨hx1, hx2, hx3⟩ := h.cur x rfl
  refine ⟨by rw [List.length_set]; exact h.len, fun j g hj hr => ?_, fun z hz => ?_, fun z hz hr => ?_, fun z hz => ?_⟩
  · rw [List.getElem?_set] at hr
    split at hr
    · rename_i e
      subst e
      have hcall : CallsN fs (fs[x]).name g.name := (calls_idx hd (List.getElem?_eq_getElem hx1) hj).2 hc
      rcases hx2 with rfl | hx2
      · have : fs[x] = f := by
          rw [List.getElem?_eq_getElem hx1] at hi
          exact Option.some.inj hi
        rw [this] at hcall
        exact .one hcall
      · exact .more (h.sound x _ (List.getElem?_eq_getElem hx1) hx2) hcall
    · exact h.sound j g hj hr
  · rcases List.mem_append.1 hz with h4 | h4
    · obtain ⟨h5, h6⟩ := h.left z h4
      exact ⟨h5, h6.imp id (keep z)⟩
    · rw [List.mem_singleton] at h4; subst h4
      exact ⟨hy, .inr new⟩
  · by_cases e : z = y
    · subst e
      exact .inl (List.mem_append_right _ (by simp))
    · have hr' : z = i ∨ out[z]? = some true := by
        refine hr.imp id (fun hh => ?_)
        rw [List.getElem?_set, if_neg (Ne.symm e)] at hh
        exact hh
      rcases h.all z hz hr' with h4 | h4 | h4
      · exact .inl (List.mem_append_left _ h4)
      · exact .inr (.inl h4)
      · exact .inr (.inr fun u hu => keep u (h4 u hu))
  · cases hz
    refine ⟨hx1, hx2.imp id (keep x), fun u hu => ?_⟩
    rcases List.mem_append.1 hu with h4 | h4
    · exact keep u (hx3 u h4)
    · rw [List.mem_singleton] at h4; subst h4; exact new
theorem Search.finish {x : Nat} {ds : List Nat} (h : Search fs f i out todo (some x) ds) (hs : ∀ y ∈ callees fs x, y ∈ ds) : Search fs f i out todo none [] where
  len := h.len
  sound := h.sound
  left := h.left
  all := fun z hz hr => by
    rcases h.all z hz hr with h4 | h4 | h4
    · exact .inl h4
    · cases h4
      exact .inr (.inr fun y hy => (h.cur x rfl).2.2 y (hs y hy))
    · exact .inr (.inr h4)
  cur := fun z hz => by cases hz
/-- **Nothing is left: what has been found is what is reached.** -/
theorem Search.done (hd : Distinct fs) (hi : fs[i]? = some f) (h : Search fs f i out [] none []) {j : Nat} {g : FuncD} (hj : fs[j]? = some g) : out[j]? = some true ↔ Reach fs f.name g.name := by
  refine ⟨h.sound j g hj, fun hr => ?_⟩
  have hall : ∀ b, Reach fs f.name b → ∀ (j : Nat) (g : FuncD), fs[j]? = some g → g.name = b → out[j]? = some true := by
    intro b hb
    induction hb with
    | one hc =>
      intro j g hj e
      subst e
      have hc' := (calls_idx hd hi hj).1 hc
      rcases h.all i (List.getElem?_eq_some_iff.1 hi).1 (.inl rfl) with h4 | h4 | h4
      · cases h4
      · cases h4
      · exact h4 j hc'
    | more hb' hc ih =>
      intro j g hj e
      subst e
      obtain ⟨g', hg', hm⟩ := hc
      obtain ⟨k, hk⟩ := List.mem_iff_getElem?.1 (List.mem_of_find?_eq_some hg')
      have hn := List.find?_some hg'
      simp only [decide_eq_true_eq] at hn
      have hk2 := ih k g' hk hn
      have hc' := (calls_idx hd hk hj).1 (by rw [hn]; exact ⟨g', hg', hm⟩)
      rcases h.all k (List.getElem?_eq_some_iff.1 hk).1 (.inr hk2) with h4 | h4 | h4
      · cases h4
      · cases h4
      · exact h4 j hc'
  exact hall _ hr j g hj rfl
end
open Go.ChangeShapes Go.WideShapes Go.ChangeAt Go.RowKit
theorem infoInt : (Tryd.prog.info? 3).map (fun i => (i.zero, i.size, i.bytes)) = some (some (.int .i64 0), 1, 8) := by kernel_rfl
theorem infoBool : (Tryd.prog.info? 4).map (fun i => (i.zero, i.size, i.bytes)) = some (some (.bool false), 1, 1) := by kernel_rfl
/-- v is a slice, in new memory, of these numbers. -/
def Que (w : World) (base : Nat) (v : Value) (xs : List Nat) : Prop :=
  ∃ g o cap cur, v = .slice (some ⟨g, o, none⟩) xs.length cap ∧ base ≤ g ∧ w.heap[g]? = some (.cells cur 3 (0, 0)) ∧ xs.length ≤ cap ∧ cap ≤ maxLen ∧ o + cap ≤ cur.size ∧ ∀ j x, xs[j]? = some x → cur[o + j]? = some (.int .i64 (x : Nat))
theorem Que.start (w : World) {base : Nat} (hb : base ≤ w.heap.size) (i : Nat) : Que (w.alloc (.cells #[.int .i64 i] 3)) base (.slice (some ⟨w.heap.size, 0, none⟩) 1 1) [i] :=
  ⟨w.heap.size, 0, 1, _, rfl, hb, heap_alloc_new _ _, Nat.le_refl _, by unfold maxLen; omega, Nat.le_refl _, fun j x h => by
    obtain ⟨hj, e⟩ := List.getElem?_eq_some_iff.1 h
    obtain rfl : j = 0 := by simp at hj; omega
    simp at e; subst e; rfl⟩
theorem Que.pop {w : World} {base : Nat} {v : Value} {x : Nat} {xs : List Nat} (h : Que w base v (x :: xs)) :
    ∃ g o cap, v = .slice (some ⟨g, o, none⟩) (xs.length + 1) cap ∧ xs.length + 1 ≤ cap ∧ w.cell? ⟨g, o, none⟩ = some (.int .i64 x) ∧ base ≤ g ∧ Que w base (.slice (if cap = 1 then some ⟨g, o, none⟩ else some ⟨g, o + 1, none⟩) xs.length (cap - 1)) xs := by
  obtain ⟨g, o, cap, cur, rfl, hg, hc, hn, hm, hs, hx⟩ := h
  simp only [List.length_cons] at hn
  refine ⟨g, o, cap, by rw [List.length_cons], by omega, ?_, hg, ?_⟩
  · have := hx 0 x rfl
    rw [cell_of_row w g o cur _ (0, 0) hc]; exact this
  · by_cases h1 : cap = 1
    · rw [if_pos h1]
      have : xs = [] := List.eq_nil_of_length_eq_zero (by omega)
      subst this
      exact ⟨g, o, cap - 1, cur, rfl, hg, hc, by simp, by omega, by omega, fun j x h => by simp at h⟩
    · rw [if_neg h1]
      refine ⟨g, o + 1, cap - 1, cur, rfl, hg, hc, by omega, by omega, by omega, fun j y h => ?_⟩
      have := hx (j + 1) y (by simpa using h)
      rw [show o + 1 + j = o + (j + 1) by omega]; exact this
theorem Que.keep {w w' : World} {base : Nat} {v : Value} {xs : List Nat} (h : Que w base v xs) (hb : ∀ g, v.ownBlock = some g → w'.heap[g]? = w.heap[g]?) : Que w' base v xs := by
  obtain ⟨g, o, cap, cur, rfl, hg, hc, hr⟩ := h
  exact ⟨g, o, cap, cur, rfl, hg, (hb g rfl).trans hc, hr⟩
theorem Que.lt {w : World} {base : Nat} {v : Value} {xs : List Nat} (h : Que w base v xs) : ∀ g, v.ownBlock = some g → base ≤ g ∧ g < w.heap.size := by
  obtain ⟨g, o, cap, cur, rfl, hg, hc, hr⟩ := h
  intro k hk
  simp only [Value.ownBlock, Option.some.injEq] at hk
  subst hk
  exact ⟨hg, (Array.getElem?_eq_some_iff.1 hc).1⟩
theorem Que.shape {w : World} {base : Nat} {v : Value} {xs : List Nat} (h : Que w base v xs) : ∃ a c, v = .slice a xs.length c := by
  obtain ⟨g, o, cap, cur, rfl, _⟩ := h
  exact ⟨_, _, rfl⟩
theorem Que.below {w w' : World} {base : Nat} {v : Value} {xs : List Nat} (h : Que w base v xs) (hb : Below w.heap.size w w') : Que w' base v xs := h.keep fun g hg => hb.block g (h.lt g hg).2
theorem Que.turn {S : Nat → Prop} {w w' : World} {base : Nat} {v : Value} {xs : List Nat} (h : Que w base v xs) (hb : Turned S w w') (hs : ∀ k, S k → k < base) : Que w' base v xs :=
  h.keep fun g hg => hb.block g (h.lt g hg).2 (fun e => by have := hs g e; have := (h.lt g hg).1; omega)
theorem run_que_append {P : Program} {w : World} {base : Nat} (t ty : TypeId) (i : TypeInfo) (ht : P.underlying t = some (.slice 3)) (hi : P.info? 3 = some i) (hz : i.zero = some (.int .i64 0)) (hs : i.size = 1) (hby : i.bytes = 8)
    {v : Value} {xs : List Nat} (h : Que w base v xs) (ad : Addr) (c : Nat) (y : Nat) (hnew : w.cell? ad = some (.int .i64 y)) (hlen : xs.length + 1 ≤ 1000000000) (hbase : base ≤ w.heap.size) :
    ∃ v' w', (Builtin.append_ #[t, t] ty #[v, .slice (some ad) 1 c]).run P w = .ok v' w' ∧ Que w' base v' (xs ++ [y]) ∧ w.grownBy w' v.ownBlock := by
  obtain ⟨g, o, cap, cur, rfl, hg, hc, hn, hm, hsz, hx⟩ := h
  have hnews : ∀ j u, [Value.int .i64 (y : Nat)][j]? = some u → w.cell? (ad.add j) = some u := by
    intro j u hu
    obtain ⟨hj, e⟩ := List.getElem?_eq_some_iff.1 hu
    obtain rfl : j = 0 := by simp at hj; omega
    have : ad.add 0 = ad := by unfold Addr.add; split <;> simp_all
    rw [this, hnew]; simpa using e
  have hcell : ∀ j, w.cell? ⟨g, j, none⟩ = cur[j]? := fun j => by rw [cell_of_row w g j cur _ (0, 0) hc]
  by_cases hroom : xs.length + 1 ≤ cap
  · have hr := run_append_room_cells (P := P) w t ty 3 i ht hi g o xs.length cap ad 1 c [.int .i64 y] (by rw [hs]; rfl) hnews (fun u hu => by simp at hu; subst hu; rfl) hroom
      (fun j hj => by
        simp at hj; subst hj
        rw [hs, hcell, Array.getElem?_eq_getElem (by omega)]; rfl)
      (fun j _ => frozen_of_row w g _ cur _ hc)
    refine ⟨_, _, hr, ⟨g, o, cap, cur.setIfInBounds (o + xs.length) (.int .i64 y), by simp, hg, ?_, by simp; omega, hm, by simpa using hsz, fun j x hj => ?_⟩, ?_⟩
    · rw [hs, Nat.mul_one]
      exact heap_setCell_same w g (o + xs.length) cur _ (.int .i64 y) hc
    · rw [Array.getElem?_setIfInBounds]
      by_cases hj' : j < xs.length
      · rw [List.getElem?_append_left hj'] at hj
        rw [if_neg (by omega)]
        exact hx j x hj
      · rw [List.getElem?_append_right (by omega)] at hj
        obtain ⟨hj2, e⟩ := List.getElem?_eq_some_iff.1 hj
        obtain rfl : j = xs.length := by simp at hj2; omega
        simp at e; subst e
        rw [if_pos rfl, if_pos (by omega)]
    · rw [hs, Nat.mul_one]
      exact ⟨rfl, rfl, rfl, by simp [World.setCells], fun k _ hk => heap_setCell_other w ⟨g, o + xs.length, none⟩ k _ (fun e => hk (by rw [e]; rfl))⟩
  · obtain ⟨v', w', hr, hown, hgr⟩ := run_append_arg_grows (P := P) w t ty 3 i (.int .i64 0) 1 8 ht hi hz hs hby rfl (by decide) ⟨g, o, none⟩ xs.length cap (xs.map fun x : Nat => .int .i64 x) (by simp)
      (fun j u hu => by
        rw [Addr.add_lit, hcell]
        rw [List.getElem?_map, Option.map_eq_some_iff] at hu
        obtain ⟨x, hx', rfl⟩ := hu
        exact hx j x hx')
      ad 1 c [.int .i64 y] rfl hnews (by omega) (by unfold maxLen; omega) (by omega)
    refine ⟨v', w', hr, ?_, ⟨hgr.os, hgr.tape, hgr.output, hgr.size, fun k hk _ => hgr.block k hk (by simp)⟩⟩
    obtain ⟨hl, ⟨h1, h2⟩ | ⟨g', cap', cur', rfl, hb', hc', hn', hm', hs', ht'⟩⟩ := hown
    · omega
    · refine ⟨g', 0, cap', cur', by simp, by omega, hc', by simp; omega, hm', by omega, fun j x hj => ?_⟩
      have hjl : j < xs.length + 1 := by have := (List.getElem?_eq_some_iff.1 hj).1; simpa using this
      have : (cur'.toList.take ((xs.length + 1) * 1))[j]? = some (.int .i64 (x : Nat)) := by
        rw [ht', show (xs.map fun x : Nat => Value.int .i64 x) ++ [.int .i64 y] = (xs ++ [y]).map fun x : Nat => Value.int .i64 x by simp, List.getElem?_map, hj]
        rfl
      rw [List.getElem?_take, if_pos (by omega), Array.getElem?_toList] at this
      rw [Nat.zero_add]; exact this
theorem wpList_que_append {P : Program} {w : World} {ops : Array Oper} {rest : List Oper} {o : Oper} {a : Act} {Q : Exit → Act → World → Prop} (hgd : o.guard = none) (s x : Operand) (t : TypeId)
    (ho : o.op = .call { callee := .builtin .append, args := #[s, x], argTypes := #[t, t] }) {base : Nat} (i : TypeInfo) (ht : P.underlying t = some (.slice 3)) (hi : P.info? 3 = some i) (hz : i.zero = some (.int .i64 0)) (hs : i.size = 1) (hby : i.bytes = 8)
    {v : Value} {xs : List Nat} (hv : a.eval s = v) (h : Que w base v xs) (ad : Addr) (c : Nat) (y : Nat) (hx : a.eval x = .slice (some ad) 1 c) (hnew : w.cell? ad = some (.int .i64 y)) (hlen : xs.length + 1 ≤ 1000000000) (hbase : base ≤ w.heap.size)
    (hK : ∀ v' w', Que w' base v' (xs ++ [y]) → w.grownBy w' v.ownBlock → wpList P ops Q rest (a.put o.dst v') w') : wpList P ops Q (o :: rest) a w := by
  refine wpList_plain hgd fun K hK' => ?_
  obtain ⟨v', w', hrun, h1, h2⟩ := run_que_append (P := P) t o.type i ht hi hz hs hby h ad c y hnew hlen hbase
  unfold Oper.wp
  simp [execOp, ho, resolve, invoke, builtin, hv, hx, hrun, Result.andThen]
  exact hK' _ _ (hK v' w' h1 h2)
theorem run_que_cut {P : Program} {t : TypeId} (ht : P.underlying t = some (.slice (P.elem t))) (hs : ∀ w, (sizeOf (P.elem t)).run P w = .ok 1 w) (g o n cap : Nat) (hn : n + 1 ≤ cap) (w : World) :
    (Instr.sliceAt t (.slice (some ⟨g, o, none⟩) (n + 1) cap) (some (.int .i64 1)) none none).run P w = .ok (.slice (if cap = 1 then some ⟨g, o, none⟩ else some ⟨g, o + 1, none⟩) n (cap - 1)) w := by
  rw [run_sliceAt_slice w t _ _ _ _ ht, run_slice_l w t _ (n + 1) cap ht .i64 1 (by decide) (by omega), hs]
  by_cases h : cap = 1
  · simp [Result.andThen, sliced, h]
  · simp [Result.andThen, sliced, h, Addr.add_lit]
end Go.Proofs.YtjdbdoeopobciaaDoor
