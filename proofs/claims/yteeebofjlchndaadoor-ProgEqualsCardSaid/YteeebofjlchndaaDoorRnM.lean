/- Names written in place into instructions and operands: what a program reads as behind it. Plain lemmas on worlds. -/
import Derived.Test.YteeebofjlchndaaDoorRnP
import Derived.Test.YteeebofjlchndaaDoorPos
import Derived.Test.YteeebofjlchndaaDoorEqN
set_option linter.unusedVariables false
set_option linter.unusedSimpArgs false
set_option linter.unnecessarySimpa false
namespace Go.Proofs.YteeebofjlchndaaDoor
open Go.ChangeShapes Go.WideShapes Go.ChangeAt Go.RowKit
/-- A cell is written. -/
abbrev putS (w : World) (b y : Nat) (u : Value) : World := w.setCell ⟨b, y, none⟩ u
theorem putS_cell {w : World} {b y x o : Nat} {u v : Value} (hn : x ≠ b ∨ o ≠ y) (h : w.cell? ⟨x, o, none⟩ = some v) : (putS w b y u).cell? ⟨x, o, none⟩ = some v := by
  rw [World.cell?_setCell_other]
  · exact h
  · intro e; simp only [Addr.mk.injEq, and_true] at e; omega
theorem freePutS {g : Nat → Prop} {T : TypeId} {w : World} {b y x : Nat} {u : Value} (h : Free (some g) T w x) : Free (some g) T (putS w b y u) x := by
  obtain ⟨h1, cs, h2⟩ := h g rfl
  obtain ⟨cs1, h3⟩ := heap_setCell_type (b := b) (y := y) (v := u) h2
  exact Free.of h1 h3
theorem putS_hF {g : Nat → Prop} {w : World} {b y : Nat} {u : Value} {T : TypeId} : ∀ U x, U ≠ T → x < w.heap.size → Free (some g) U w x → Free (some g) U (putS w b y u) x := fun _ _ _ _ h => freePutS h
theorem putS_hC {g : Nat → Prop} {w : World} {b y : Nat} {u : Value} {T : TypeId} {cs : Array Value} (hb : w.heap[b]? = some (.cells cs T (0, 0))) : ∀ U x o v, U ≠ T → Free (some g) U w x → w.cell? ⟨x, o, none⟩ = some v → (putS w b y u).cell? ⟨x, o, none⟩ = some v := by
  intro U x o v hU hf hc
  refine putS_cell (.inl ?_) hc
  intro e
  subst e
  obtain ⟨_, cs', h⟩ := hf _ rfl
  rw [hb] at h
  simp at h
  exact hU h.2.symm
/-- A destination is written. -/
theorem RdInstrs.putDst {g : Nat → Prop} {w : World} {b o i n c : Nat} {F : ByteArray} {M : List InstrD} {x : InstrD} (h : RdInstrs (some g) w (.slice (some ⟨b, o, none⟩) n c) M) (hx : M[i]? = some x) (hF : F.size ≤ maxLen) :
    RdInstrs (some g) (putS w b (o + i * 7 + 2) (.string F)) (.slice (some ⟨b, o, none⟩) n c) (M.set i { x with dst := F }) := by
  obtain ⟨a', c', e, hl, hr⟩ := h
  simp only [Value.slice.injEq] at e
  obtain ⟨rfl, rfl, rfl⟩ := e
  obtain ⟨cs, hb⟩ : ∃ cs, w.heap[b]? = some (.cells cs 40 (0, 0)) := by
    obtain ⟨b', o', av, e2, hf, -⟩ := hr i x hx
    simp only [Option.some.injEq, Addr.mk.injEq, and_true] at e2
    obtain ⟨rfl, rfl⟩ := e2
    exact (hf g rfl).2
  refine ⟨_, c, by rw [List.length_set], by rw [List.length_set]; exact hl, fun t s hs => ?_⟩
  have ht : t < M.length := by have := (List.getElem?_eq_some_iff.1 hs).1; rwa [List.length_set] at this
  obtain ⟨z, hz⟩ : ∃ z, M[t]? = some z := ⟨_, List.getElem?_eq_getElem ht⟩
  obtain ⟨b', o', av, e2, hf, c0, c1, c2, c3, c4, c5, c6, hri⟩ := hr t z hz
  simp only [Option.some.injEq, Addr.mk.injEq, and_true] at e2
  obtain ⟨rfl, rfl⟩ := e2
  have hri' : RdInstr (some g) (putS w b (o + i * 7 + 2) (.string F)) z av := RdInstr.map (S := fun U => U ≠ 40) putS_hF (putS_hC hb) (by decide) hri
  by_cases hti : i = t
  · subst hti
    rw [List.getElem?_set, if_pos rfl, if_pos ht] at hs
    simp only [Option.some.injEq] at hs
    subst hs
    rw [hx] at hz
    cases hz
    exact ⟨b, o, av, rfl, freePutS hf, putS_cell (.inr (by omega)) c0, putS_cell (.inr (by omega)) c1, World.cell?_setCell_same (w := w) (a := ⟨b, o + i * 7 + 2, none⟩) (v := .string F) c2, putS_cell (.inr (by omega)) c3, putS_cell (.inr (by omega)) c4, putS_cell (.inr (by omega)) c5, putS_cell (.inr (by omega)) c6, hri'.1, hri'.2.1, hri'.2.2.1, hri'.2.2.2.1, hri'.2.2.2.2.1, hF, hri'.2.2.2.2.2.2⟩
  · rw [List.getElem?_set, if_neg hti, hz] at hs
    cases hs
    exact ⟨b, o, av, rfl, freePutS hf, putS_cell (.inr (by omega)) c0, putS_cell (.inr (by omega)) c1, putS_cell (.inr (by omega)) c2, putS_cell (.inr (by omega)) c3, putS_cell (.inr (by omega)) c4, putS_cell (.inr (by omega)) c5, putS_cell (.inr (by omega)) c6, hri'⟩
/-- Operands, of which some got the name F in o's place. -/
def TurnA (o F : ByteArray) (l l' : List ArgD) : Prop := l'.length = l.length ∧ ∀ (u : Nat) (a : ArgD), l[u]? = some a → ∃ a', l'[u]? = some a' ∧ a'.num = a.num ∧ (a'.name = a.name ∨ (a.name = o ∧ a'.name = F))
open Classical in
theorem RdArgs.putName {g : Nat → Prop} {w : World} {b y : Nat} {o F : ByteArray} {v : Value} {l : List ArgD} (h : RdArgs (some g) w v l) (hc : w.cell? ⟨b, y, none⟩ = some (.string o)) (hF : F.size ≤ maxLen) :
    ∃ l', RdArgs (some g) (putS w b y (.string F)) v l' ∧ TurnA o F l l' ∧ ∀ (u : Nat) a' oo n c, v = .slice (some ⟨b, oo, none⟩) n c → oo + u * 2 = y → l'[u]? = some a' → a'.name = F := by
  obtain ⟨a, c, rfl, hl, hr⟩ := h
  let f : Nat → ArgD → ArgD := fun u x => if ∃ oo, a = some ⟨b, oo, none⟩ ∧ oo + u * 2 = y then { x with name := F } else x
  have hget : ∀ (u : Nat), (l.mapIdx f)[u]? = (l[u]?).map (f u) := fun u => by rw [List.getElem?_mapIdx]
  refine ⟨l.mapIdx f, ⟨a, c, by rw [List.length_mapIdx], by rw [List.length_mapIdx]; exact hl, fun u s hs => ?_⟩, ⟨List.length_mapIdx, fun u x hx => ?_⟩, fun u a' oo n c' hv hy ha => ?_⟩
  · rw [hget] at hs
    obtain ⟨x, hx, rfl⟩ := Option.map_eq_some_iff.1 hs
    obtain ⟨bb, oo, rfl, hf, h0, h1, hz, hsz⟩ := hr u x hx
    by_cases hcase : bb = b ∧ oo + u * 2 = y
    · obtain ⟨rfl, rfl⟩ := hcase
      have e : f u x = { x with name := F } := if_pos ⟨oo, rfl, rfl⟩
      rw [e]
      exact ⟨bb, oo, rfl, freePutS hf, World.cell?_setCell_same (w := w) (a := ⟨bb, oo + u * 2, none⟩) (v := .string F) h0, putS_cell (.inr (by omega)) h1, hz, hF⟩
    · have e : f u x = x := by
        refine if_neg ?_
        rintro ⟨oo', h, h'⟩
        simp only [Option.some.injEq, Addr.mk.injEq, and_true] at h
        exact hcase ⟨h.1, by rw [h.2]; exact h'⟩
      rw [e]
      refine ⟨bb, oo, rfl, freePutS hf, putS_cell ?_ h0, putS_cell ?_ h1, hz, hsz⟩
      · by_cases hb : bb = b
        · exact .inr fun h => hcase ⟨hb, h⟩
        · exact .inl hb
      · by_cases hb : bb = b
        · subst hb
          refine .inr fun h => ?_
          rw [h, hc] at h1
          cases h1
        · exact .inl hb
  · refine ⟨f u x, by rw [hget, hx]; rfl, ?_, ?_⟩
    · show (if _ then _ else _ : ArgD).num = _
      split <;> rfl
    · by_cases hcase : ∃ oo, a = some ⟨b, oo, none⟩ ∧ oo + u * 2 = y
      · obtain ⟨oo, rfl, hy⟩ := hcase
        have e : f u x = { x with name := F } := if_pos ⟨oo, rfl, hy⟩
        obtain ⟨bb, oo', e2, hf, h0, -⟩ := hr u x hx
        simp only [Option.some.injEq, Addr.mk.injEq, and_true] at e2
        obtain ⟨rfl, rfl⟩ := e2
        rw [hy, hc] at h0
        simp only [Option.some.injEq, Value.string.injEq] at h0
        exact .inr ⟨h0.symm, by rw [e]⟩
      · exact .inl (by show (if _ then _ else _ : ArgD).name = _; rw [if_neg hcase])
  · rw [hget] at ha
    obtain ⟨x, hx, rfl⟩ := Option.map_eq_some_iff.1 ha
    simp only [Value.slice.injEq] at hv
    have e : f u x = { x with name := F } := if_pos ⟨oo, hv.1, hy⟩
    rw [e]
/-- An instruction, of which some operands got the name F in o's place. -/
def TurnI (o F : ByteArray) (x x' : InstrD) : Prop := x'.kind = x.kind ∧ x'.op = x.op ∧ x'.dst = x.dst ∧ x'.name = x.name ∧ x'.line = x.line ∧ x'.col = x.col ∧ TurnA o F x.args x'.args
theorem choose_listM {α : Type} {R : Nat → α → Prop} : ∀ (len : Nat), (∀ i, i < len → ∃ x, R i x) → ∃ l : List α, l.length = len ∧ ∀ i x, l[i]? = some x → R i x
  | 0, _ => ⟨[], rfl, fun i x h => by simp at h⟩
  | n + 1, h => by
    obtain ⟨l, hl, hr⟩ := choose_listM n (fun i hi => h i (by omega))
    obtain ⟨x, hx⟩ := h n (by omega)
    refine ⟨l ++ [x], by simp [hl], fun i y hy => ?_⟩
    rw [List.getElem?_append] at hy
    split at hy
    · exact hr i y hy
    · have hi := (List.getElem?_eq_some_iff.1 hy).1
      simp at hi
      obtain rfl : i = n := by omega
      rw [hl, Nat.sub_self] at hy
      simp at hy; subst hy; exact hx
/-- An operand's name is written. -/
theorem RdInstrs.putArg {g : Nat → Prop} {w : World} {ab ao b y n c : Nat} {o F : ByteArray} {M : List InstrD} {cs : Array Value} (h : RdInstrs (some g) w (.slice (some ⟨ab, ao, none⟩) n c) M) (hb : w.heap[b]? = some (.cells cs 43 (0, 0))) (hc : w.cell? ⟨b, y, none⟩ = some (.string o)) (hF : F.size ≤ maxLen) :
    ∃ M', RdInstrs (some g) (putS w b y (.string F)) (.slice (some ⟨ab, ao, none⟩) n c) M' ∧ M'.length = M.length ∧ ∀ t x x', M[t]? = some x → M'[t]? = some x' → TurnI o F x x' ∧ ∀ (u : Nat) a' oo n c, w.cell? ⟨ab, ao + t * 7 + 4, none⟩ = some (.slice (some ⟨b, oo, none⟩) n c) → oo + u * 2 = y → x'.args[u]? = some a' → a'.name = F := by
  obtain ⟨a', c', e, hl, hr⟩ := h
  simp only [Value.slice.injEq] at e
  obtain ⟨rfl, rfl, rfl⟩ := e
  obtain ⟨M', hl', hM⟩ := choose_listM (R := fun t (x' : InstrD) => ∃ x av, M[t]? = some x ∧ Free (some g) 40 (putS w b y (.string F)) ab ∧
    (putS w b y (.string F)).cell? ⟨ab, ao + t * 7, none⟩ = some (.int .u8 x.kind) ∧ (putS w b y (.string F)).cell? ⟨ab, ao + t * 7 + 1, none⟩ = some (.int .u8 x.op) ∧ (putS w b y (.string F)).cell? ⟨ab, ao + t * 7 + 2, none⟩ = some (.string x.dst) ∧ (putS w b y (.string F)).cell? ⟨ab, ao + t * 7 + 3, none⟩ = some (.string x.name) ∧
    (putS w b y (.string F)).cell? ⟨ab, ao + t * 7 + 4, none⟩ = some av ∧ (putS w b y (.string F)).cell? ⟨ab, ao + t * 7 + 5, none⟩ = some (.int .i64 x.line) ∧ (putS w b y (.string F)).cell? ⟨ab, ao + t * 7 + 6, none⟩ = some (.int .i64 x.col) ∧
    RdInstr (some g) (putS w b y (.string F)) x' av ∧ TurnI o F x x' ∧ ∀ (u : Nat) a' oo n c, w.cell? ⟨ab, ao + t * 7 + 4, none⟩ = some (.slice (some ⟨b, oo, none⟩) n c) → oo + u * 2 = y → x'.args[u]? = some a' → a'.name = F) M.length (fun t ht => by
    obtain ⟨x, hx⟩ : ∃ x, M[t]? = some x := ⟨_, List.getElem?_eq_getElem ht⟩
    obtain ⟨b', o', av, e2, hf, c0, c1, c2, c3, c4, c5, c6, hri⟩ := hr t x hx
    simp only [Option.some.injEq, Addr.mk.injEq, and_true] at e2
    obtain ⟨rfl, rfl⟩ := e2
    have hne : ab ≠ b := by
      rintro rfl
      obtain ⟨_, cs', h'⟩ := hf g rfl
      rw [hb] at h'
      simp only [Option.some.injEq, Obj.cells.injEq] at h'
      exact absurd h'.2.1 (by decide)
    obtain ⟨l', hl', ht', hp⟩ := RdArgs.putName hri.1 hc hF
    refine ⟨{ x with args := l' }, x, av, hx, freePutS hf, putS_cell (.inl hne) c0, putS_cell (.inl hne) c1, putS_cell (.inl hne) c2, putS_cell (.inl hne) c3, putS_cell (.inl hne) c4, putS_cell (.inl hne) c5, putS_cell (.inl hne) c6, ⟨hl', hri.2⟩, ⟨rfl, rfl, rfl, rfl, rfl, rfl, ht'⟩, fun u a' oo n c hcell hy ha => ?_⟩
    rw [c4] at hcell
    simp only [Option.some.injEq] at hcell
    exact hp u a' oo n c hcell hy ha)
  refine ⟨M', ⟨_, c, by rw [hl'], by rw [hl']; exact hl, fun t x' hx' => ?_⟩, hl', fun t x x' hx hx' => ?_⟩
  · obtain ⟨x, av, hx, hf, c0, c1, c2, c3, c4, c5, c6, hri, ⟨e1, e2, e3, e4, e5, e6, -⟩, -⟩ := hM t x' hx'
    exact ⟨ab, ao, av, rfl, hf, by rw [e1]; exact c0, by rw [e2]; exact c1, by rw [e3]; exact c2, by rw [e4]; exact c3, c4, by rw [e5]; exact c5, by rw [e6]; exact c6, hri⟩
  · obtain ⟨z, av, hz, -, -, -, -, -, -, -, -, -, ht, hp⟩ := hM t x' hx'
    rw [hx] at hz
    cases hz
    exact ⟨ht, hp⟩
/-! ### what a turn does to the renamed instruction, and to names that are gone -/
theorem ren_fix {o F s : ByteArray} (h : ¬ s = o) : renS o F s = s := renS_other h
theorem turnA_ren {o F : ByteArray} {l l' : List ArgD} (hFo : ¬ F = o) (h : TurnA o F l l') : l'.map (renA o F) = l.map (renA o F) := by
  apply List.ext_getElem?
  intro u
  rw [List.getElem?_map, List.getElem?_map]
  cases hx : l[u]? with
  | none =>
    have : l'[u]? = none := by
      rw [List.getElem?_eq_none_iff] at hx ⊢
      rw [h.1]; exact hx
    rw [this]
  | some a =>
    obtain ⟨a', h1, h2, h3⟩ := h.2 u a hx
    rw [h1]
    simp only [Option.map_some, renA, Option.some.injEq]
    rcases h3 with h3 | ⟨h3, h4⟩
    · rw [h3]; cases a; cases a'; simp only at h2 h3; subst h2 h3; rfl
    · have e1 : renS o F a.name = F := by rw [h3]; exact renS_self
      have e2 : renS o F a'.name = F := by rw [h4]; exact renS_other hFo
      cases a; cases a'; simp only at h2 e1 e2 ⊢; rw [e1, e2, h2]
theorem turnI_ren {o F : ByteArray} {x x' : InstrD} (hFo : ¬ F = o) (h : TurnI o F x x') : renI o F x' = renI o F x := by
  obtain ⟨h1, h2, h3, h4, h5, h6, h7⟩ := h
  have := turnA_ren hFo h7
  unfold renI
  cases x; cases x'
  simp only at h1 h2 h3 h4 h5 h6 this ⊢
  subst h1 h2 h3 h4 h5 h6
  rw [this]
/-- No name of the instruction is o, up to the operand j. -/
def CleanI (o : ByteArray) (x : InstrD) (j : Nat) : Prop := ¬ x.dst = o ∧ ∀ (u : Nat) (a : ArgD), u < j → x.args[u]? = some a → ¬ a.name = o
theorem CleanI.turn {o F : ByteArray} {x x' : InstrD} {j : Nat} (hFo : ¬ F = o) (h : CleanI o x j) (t : TurnI o F x x') : CleanI o x' j := by
  obtain ⟨h1, h2, h3, h4, h5, h6, h7⟩ := t
  refine ⟨by rw [h3]; exact h.1, fun u a' hu ha => ?_⟩
  have hul : u < x.args.length := by rw [← h7.1]; exact (List.getElem?_eq_some_iff.1 ha).1
  obtain ⟨a, hx⟩ : ∃ a, x.args[u]? = some a := ⟨_, List.getElem?_eq_getElem hul⟩
  obtain ⟨a2, e1, -, e3⟩ := h7.2 u a hx
  rw [ha] at e1
  cases e1
  rcases e3 with e3 | ⟨-, e3⟩
  · rw [e3]; exact h.2 u a hu hx
  · rw [e3]; exact hFo
theorem clean_ren {o F : ByteArray} {x : InstrD} (h : CleanI o x x.args.length) : renI o F x = x := by
  have h1 : x.args.map (renA o F) = x.args := by
    apply List.ext_getElem?
    intro u
    rw [List.getElem?_map]
    cases hx : x.args[u]? with
    | none => rfl
    | some a =>
      have := h.2 u a (List.getElem?_eq_some_iff.1 hx).1 hx
      simp only [Option.map_some, renA, renS_other this]
  unfold renI
  rw [h1, renS_other h.1]
theorem clean_all {o F : ByteArray} {M : List InstrD} (h : ∀ (t : Nat) (x : InstrD), M[t]? = some x → CleanI o x x.args.length) : M.map (renI o F) = M := by
  apply List.ext_getElem?
  intro t
  rw [List.getElem?_map]
  cases hx : M[t]? with
  | none => rfl
  | some x => rw [Option.map_some, clean_ren (h t x hx)]
theorem dst_ren {o F : ByteArray} {M : List InstrD} {i : Nat} {x : InstrD} (hFo : ¬ F = o) (hx : M[i]? = some x) (hd : x.dst = o) : (M.set i { x with dst := F }).map (renI o F) = M.map (renI o F) := by
  apply List.ext_getElem?
  intro t
  rw [List.getElem?_map, List.getElem?_map, List.getElem?_set]
  have hi := (List.getElem?_eq_some_iff.1 hx).1
  by_cases hti : i = t
  · subst hti
    rw [if_pos rfl, if_pos hi, hx]
    simp only [Option.map_some, renI, Option.some.injEq, InstrD.mk.injEq, and_true, true_and]
    rw [hd, renS_self, renS_other hFo]
  · rw [if_neg hti]
/-- A string of a list is written. -/
theorem RdStrs.putStr {g : Nat → Prop} {w : World} {b o i n c : Nat} {F : ByteArray} {l : List ByteArray} (h : RdStrs (some g) w (.slice (some ⟨b, o, none⟩) n c) l) (hi : i < l.length) (hF : F.size ≤ maxLen) :
    RdStrs (some g) (putS w b (o + i) (.string F)) (.slice (some ⟨b, o, none⟩) n c) (l.set i F) := by
  obtain ⟨a', c', e, hl, hr⟩ := h
  simp only [Value.slice.injEq] at e
  obtain ⟨rfl, rfl, rfl⟩ := e
  refine ⟨_, c, by rw [List.length_set], by rw [List.length_set]; exact hl, fun t s hs => ?_⟩
  have ht : t < l.length := by have := (List.getElem?_eq_some_iff.1 hs).1; rwa [List.length_set] at this
  obtain ⟨z, hz⟩ : ∃ z, l[t]? = some z := ⟨_, List.getElem?_eq_getElem ht⟩
  obtain ⟨b', o', e2, hf, c0, hsz⟩ := hr t z hz
  simp only [Option.some.injEq, Addr.mk.injEq, and_true] at e2
  obtain ⟨rfl, rfl⟩ := e2
  by_cases hti : i = t
  · subst hti
    rw [List.getElem?_set, if_pos rfl, if_pos ht] at hs
    simp only [Option.some.injEq] at hs
    subst hs
    exact ⟨b, o, rfl, freePutS hf, World.cell?_setCell_same (w := w) (a := ⟨b, o + i, none⟩) (v := .string F) c0, hF⟩
  · rw [List.getElem?_set, if_neg hti, hz] at hs
    cases hs
    exact ⟨b, o, rfl, freePutS hf, putS_cell (.inr (by omega)) c0, hsz⟩
theorem fold_from : ∀ (l out : List ByteArray) (t : ByteArray), t ∈ l.foldl (addF []) out → t ∈ out ∨ (t ∈ l ∧ t.toList.isEmpty = false)
  | [], _, _, h => .inl h
  | s :: r, out, t, h => by
    rcases fold_from r (addF [] out s) t h with h | ⟨h, he⟩
    · unfold addF at h
      split at h
      · exact .inl h
      · rename_i hc
        rcases List.mem_append.1 h with h | h
        · exact .inl h
        · simp only [List.mem_singleton] at h
          subst h
          refine .inr ⟨List.mem_cons_self, ?_⟩
          cases he : t.toList.isEmpty
          · rfl
          · exact absurd (by rw [he]; rfl) hc
    · exact .inr ⟨List.mem_cons_of_mem _ h, he⟩
theorem locals_from {l : List InstrD} {t : ByteArray} (h : t ∈ localsL [] l []) : ∃ x ∈ l, t ∈ namesI x ∧ t.toList.isEmpty = false := by
  rw [localsL_names] at h
  rcases fold_from _ [] t h with h | ⟨h, he⟩
  · cases h
  · obtain ⟨x, hx, ht⟩ := List.mem_flatMap.1 h
    exact ⟨x, hx, ht, he⟩
theorem form_names {x : InstrD} (h : formB x = true) {t : ByteArray} (ht : t ∈ namesI x) (he : t.toList.isEmpty = false) : named t = true := by
  unfold formB at h
  split at h
  · cases h
  · rename_i d nm n hf
    simp only [Bool.and_eq_true] at h
    obtain ⟨⟨⟨⟨-, h1⟩, -⟩, -⟩, h2⟩ := h
    rcases List.mem_cons.1 ht with rfl | ht
    · unfold fieldB at h1
      split at h1
      · exact h1
      · rw [he] at h1; cases h1
    · obtain ⟨a, ha, rfl⟩ := List.mem_map.1 ht
      have h3 := List.all_eq_true.1 h2 a ha
      unfold argB at h3
      rw [he, Bool.false_or, Bool.and_eq_true] at h3
      exact h3.1
theorem locals_named {p : ProgD} (hc : checkF p = none) {t : ByteArray} (h : t ∈ localsL [] p.main []) : named t = true := by
  obtain ⟨x, hx, ht, he⟩ := locals_from h
  unfold checkF at hc
  simp only [Option.or_eq_none_iff] at hc
  obtain ⟨_, _, _, _, _, _, _, hm, _⟩ := hc
  unfold instrsF codeF at hm
  rw [Option.or_eq_none_iff] at hm
  obtain ⟨a, b, e⟩ := List.append_of_mem hx
  have h1 := (firstF_none _ _ _).1 hm.2 a x b e
  unfold instrF at h1
  rw [Option.or_eq_none_iff] at h1
  have h2 := need_none h1.1
  rw [Bool.and_eq_true] at h2
  exact form_names h2.1 ht he
theorem toList_ne {a b : ByteArray} (h : ¬ a = b) : (a.toList == b.toList) = false := by rw [beq_is]; exact decide_eq_false h
theorem ren_differs {o F : ByteArray} (hFo : ¬ F = o) {p : ProgD} (h : o ∈ localsL [] p.main []) : eqProgN p (renP o F p) = false := by
  obtain ⟨x, hx, ht, he⟩ := locals_from h
  obtain ⟨i, hi⟩ := List.mem_iff_getElem?.1 hx
  have h1 : eqInstrN x (renI o F x) = false := by
    unfold eqInstrN
    rcases List.mem_cons.1 ht with e | ht
    · have : (x.dst.toList == (renI o F x).dst.toList) = false := toList_ne (by show ¬ x.dst = renS o F x.dst; rw [← e, renS_self]; exact fun e => hFo e.symm)
      rw [this]
      simp
    · obtain ⟨a, ha, hn⟩ := List.mem_map.1 ht
      obtain ⟨j, hj⟩ := List.mem_iff_getElem?.1 ha
      have : eqL eqArg x.args (renI o F x).args = false := by
        refine eqL_miss eqArg _ _ j a (renA o F a) hj (by show (x.args.map (renA o F))[j]? = _; rw [List.getElem?_map, hj]; rfl) ?_
        unfold eqArg
        have : (a.name.toList == (renA o F a).name.toList) = false := toList_ne (by show ¬ a.name = renS o F a.name; rw [hn, renS_self]; exact fun e => hFo e.symm)
        rw [this]; rfl
      rw [this]
      simp
  have h2 : eqL eqInstrN p.main (renP o F p).main = false := eqL_miss eqInstrN _ _ i x (renI o F x) hi (by show (p.main.map (renI o F))[i]? = _; rw [List.getElem?_map, hi]; rfl) h1
  unfold eqProgN
  rw [h2]
  simp
theorem eqS_selfR : ∀ l : List ByteArray, eqL eqS l l = true
  | [] => rfl
  | x :: r => by rw [eqL, eqS_selfR r]; simp [eqS]
/-- The fresh name. -/
def freshN : ByteArray := ⟨#[102, 114, 101, 115, 104, 95, 118, 97, 114, 105, 97, 98, 108, 101, 95, 111, 102, 95, 116, 104, 101, 95, 115, 116, 97, 116, 101, 109, 101, 110, 116]⟩
theorem fresh_named : named freshN = true := by decide +kernel
theorem fresh_size : freshN.size ≤ maxLen := by show 31 ≤ maxLen; unfold maxLen; omega
end Go.Proofs.YteeebofjlchndaaDoor
