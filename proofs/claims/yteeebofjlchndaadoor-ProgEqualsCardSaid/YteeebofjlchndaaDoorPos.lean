/- What a program reads as when a position is written. Plain lemmas on worlds. -/
import Derived.Test.YteeebofjlchndaaDoorKitQ
import Derived.Test.YteeebofjlchndaaDoorPosP
set_option linter.unusedVariables false
set_option linter.unusedSimpArgs false
namespace Go.Proofs.YteeebofjlchndaaDoor
open Go.ChangeShapes Go.WideShapes Go.ChangeAt Go.RowKit
def setP (z1 z2 : Int) (x : InstrD) : InstrD := { x with line := z1, col := z2 }
def setPF (z1 z2 : Int) (f : FuncD) : FuncD := { f with line := z1, col := z2 }
/-- Two numbers are written, one behind the other. -/
abbrev putPos (w : World) (b y : Nat) (z1 z2 : Int) : World := (w.setCell ⟨b, y, none⟩ (.int .i64 z1)).setCell ⟨b, y + 1, none⟩ (.int .i64 z2)
theorem heap_setCell_type {w : World} {b y x : Nat} {v : Value} {cs : Array Value} {T : TypeId} (h : w.heap[x]? = some (.cells cs T (0, 0))) : ∃ cs', (w.setCell ⟨b, y, none⟩ v).heap[x]? = some (.cells cs' T (0, 0)) := by
  by_cases e : x = b
  · subst e; exact ⟨_, heap_setCell_same _ _ y _ _ v h⟩
  · exact ⟨cs, (heap_setCell_other _ _ _ _ (by simpa using e)).trans h⟩
theorem Free.putPos {g : Nat → Prop} {T : TypeId} {w : World} {b y x : Nat} {z1 z2 : Int} (h : Free (some g) T w x) : Free (some g) T (putPos w b y z1 z2) x := by
  obtain ⟨h1, cs, h2⟩ := h g rfl
  obtain ⟨cs1, h3⟩ := heap_setCell_type (b := b) (y := y) (v := .int .i64 z1) h2
  obtain ⟨cs2, h4⟩ := heap_setCell_type (b := b) (y := y + 1) (v := .int .i64 z2) h3
  exact Free.of h1 h4
theorem putPos_cell {w : World} {b y x o : Nat} {z1 z2 : Int} {v : Value} (hn : x ≠ b ∨ (o ≠ y ∧ o ≠ y + 1)) (h : w.cell? ⟨x, o, none⟩ = some v) : (putPos w b y z1 z2).cell? ⟨x, o, none⟩ = some v := by
  rw [World.cell?_setCell_other, World.cell?_setCell_other]
  · exact h
  · intro e; simp only [Addr.mk.injEq, and_true] at e; omega
  · intro e; simp only [Addr.mk.injEq, and_true] at e; omega
theorem putPos_one {w : World} {b y : Nat} {z1 z2 : Int} {v : Value} (h : w.cell? ⟨b, y, none⟩ = some v) : (putPos w b y z1 z2).cell? ⟨b, y, none⟩ = some (.int .i64 z1) := by
  rw [World.cell?_setCell_other]
  · exact World.cell?_setCell_same (w := w) (a := ⟨b, y, none⟩) (v := .int .i64 z1) h
  · intro e; simp only [Addr.mk.injEq, and_true] at e; omega
theorem putPos_two {w : World} {b y : Nat} {z1 z2 : Int} {v : Value} (h : w.cell? ⟨b, y + 1, none⟩ = some v) : (putPos w b y z1 z2).cell? ⟨b, y + 1, none⟩ = some (.int .i64 z2) := by
  refine World.cell?_setCell_same (w := w.setCell ⟨b, y, none⟩ (.int .i64 z1)) (a := ⟨b, y + 1, none⟩) (v := .int .i64 z2) (u := v) ?_
  rw [World.cell?_setCell_other]
  · exact h
  · intro e; simp only [Addr.mk.injEq, and_true] at e; omega
theorem put_hF {g : Nat → Prop} {w : World} {b y : Nat} {z1 z2 : Int} {T : TypeId} : ∀ U x, U ≠ T → x < w.heap.size → Free (some g) U w x → Free (some g) U (putPos w b y z1 z2) x := fun _ _ _ _ h => h.putPos
theorem put_hC {g : Nat → Prop} {w : World} {b y : Nat} {z1 z2 : Int} {T : TypeId} {cs : Array Value} (hb : w.heap[b]? = some (.cells cs T (0, 0))) : ∀ U x o v, U ≠ T → Free (some g) U w x → w.cell? ⟨x, o, none⟩ = some v → (putPos w b y z1 z2).cell? ⟨x, o, none⟩ = some v := by
  intro U x o v hU hf hc
  refine putPos_cell (.inl ?_) hc
  intro e
  subst e
  obtain ⟨_, cs', h⟩ := hf _ rfl
  rw [hb] at h
  simp at h
  exact hU h.2.symm
theorem modify_get {α : Type} (l : List α) (k i : Nat) (f : α → α) : (l.modify k f)[i]? = if k = i then (l[i]?).map f else l[i]? := by
  rw [List.getElem?_modify]
  cases l[i]? <;> by_cases h : k = i <;> simp [h]
open Classical in
/-- Code, when a position of an instruction is written. -/
theorem RdInstrs.putPos {g : Nat → Prop} {w : World} {b k : Nat} {z1 z2 : Int} {cs : Array Value} (hb : w.heap[b]? = some (.cells cs 40 (0, 0))) {a : Option Addr} {n c : Nat} {l : List InstrD} (h : RdInstrs (some g) w (.slice a n c) l) (hz : zeroOff (.slice a n c)) (h1 : InI64 z1) (h2 : InI64 z2) :
    RdInstrs (some g) (putPos w b (k * 7 + 5) z1 z2) (.slice a n c) (if ∃ s, a = some ⟨b, 0, s⟩ then l.modify k (setP z1 z2) else l) := by
  obtain ⟨a', c', e, hl, hr⟩ := h
  simp only [Value.slice.injEq] at e
  obtain ⟨rfl, rfl, rfl⟩ := e
  have hlen : (if ∃ s, a = some ⟨b, 0, s⟩ then l.modify k (setP z1 z2) else l).length = l.length := by split <;> simp
  refine ⟨a, c, by rw [hlen], by rw [hlen]; exact hl, fun i s hs => ?_⟩
  have hi : i < l.length := by rw [← hlen]; exact (List.getElem?_eq_some_iff.1 hs).1
  obtain ⟨x, hx⟩ : ∃ x, l[i]? = some x := ⟨_, List.getElem?_eq_getElem hi⟩
  obtain ⟨b', o', av, rfl, hf, c0, c1, c2, c3, c4, c5, c6, hri⟩ := hr i x hx
  obtain rfl : o' = 0 := hz _ _ _ _ _ rfl
  have hri' : RdInstr (some g) (Go.Proofs.YteeebofjlchndaaDoor.putPos w b (k * 7 + 5) z1 z2) x av := RdInstr.map (S := fun U => U ≠ 40) put_hF (put_hC hb) (by decide) hri
  have hf' : Free (some g) 40 (Go.Proofs.YteeebofjlchndaaDoor.putPos w b (k * 7 + 5) z1 z2) b' := hf.putPos
  by_cases hcase : b' = b ∧ i = k
  · obtain ⟨rfl, rfl⟩ := hcase
    rw [if_pos ⟨none, rfl⟩, modify_get, if_pos rfl, hx] at hs
    simp only [Option.map_some, Option.some.injEq] at hs
    subst hs
    have c6' : w.cell? ⟨b', i * 7 + 5 + 1, none⟩ = some (.int .i64 x.col) := by rw [← c6]; congr 2; omega
    have c5' : w.cell? ⟨b', i * 7 + 5, none⟩ = some (.int .i64 x.line) := by rw [← c5]; congr 2; omega
    refine ⟨b', 0, av, rfl, hf', putPos_cell (.inr ⟨by omega, by omega⟩) c0, putPos_cell (.inr ⟨by omega, by omega⟩) c1, putPos_cell (.inr ⟨by omega, by omega⟩) c2, putPos_cell (.inr ⟨by omega, by omega⟩) c3, putPos_cell (.inr ⟨by omega, by omega⟩) c4, ?_, ?_, hri'.1, hri'.2.1, hri'.2.2.1, h1, h2, hri'.2.2.2.2.2⟩
    · rw [show 0 + i * 7 + 5 = i * 7 + 5 from by omega]; exact putPos_one c5'
    · rw [show 0 + i * 7 + 6 = i * 7 + 5 + 1 from by omega]; exact putPos_two c6'
  · have hsx : s = x := by
      split at hs
      · rename_i hex
        obtain ⟨s', e⟩ := hex
        simp only [Option.some.injEq, Addr.mk.injEq] at e
        have : i ≠ k := fun h => hcase ⟨e.1, h⟩
        rw [modify_get, if_neg (Ne.symm this), hx] at hs
        exact (Option.some.inj hs).symm
      · rw [hx] at hs; exact (Option.some.inj hs).symm
    subst hsx
    have hne : ∀ t, t < 7 → b' ≠ b ∨ (0 + i * 7 + t ≠ k * 7 + 5 ∧ 0 + i * 7 + t ≠ k * 7 + 5 + 1) := by
      intro t ht
      by_cases e : b' = b
      · have : i ≠ k := fun h => hcase ⟨e, h⟩
        exact .inr ⟨by omega, by omega⟩
      · exact .inl e
    exact ⟨b', 0, av, rfl, hf', putPos_cell (hne 0 (by omega)) c0, putPos_cell (hne 1 (by omega)) c1, putPos_cell (hne 2 (by omega)) c2, putPos_cell (hne 3 (by omega)) c3, putPos_cell (hne 4 (by omega)) c4, putPos_cell (hne 5 (by omega)) c5, putPos_cell (hne 6 (by omega)) c6, hri'⟩
/-- The slices of the code begin where their blocks begin. -/
def Al (w : World) (fv mv : Value) (n : Nat) : Prop := zeroOff fv ∧ zeroOff mv ∧ ∀ b s m c i v, fv = .slice (some ⟨b, 0, s⟩) m c → i < n → w.cell? ⟨b, i * 5 + 2, none⟩ = some v → zeroOff v
/-- Positions stay, or become the one that is written. -/
def PosI (z1 z2 : Int) (l l' : List InstrD) : Prop := ∀ (i : Nat) (x x' : InstrD), l[i]? = some x → l'[i]? = some x' → (x'.line = x.line ∧ x'.col = x.col) ∨ (x'.line = z1 ∧ x'.col = z2)
def PosFs (z1 z2 : Int) (l l' : List FuncD) : Prop := ∀ (i : Nat) (f f' : FuncD), l[i]? = some f → l'[i]? = some f' → ((f'.line = f.line ∧ f'.col = f.col) ∨ (f'.line = z1 ∧ f'.col = z2)) ∧ PosI z1 z2 f.code f'.code
theorem PosI.refl (z1 z2 : Int) (l : List InstrD) : PosI z1 z2 l l := fun i x x' h h' => by rw [h] at h'; cases h'; exact .inl ⟨rfl, rfl⟩
theorem PosFs.refl (z1 z2 : Int) (l : List FuncD) : PosFs z1 z2 l l := fun i x x' h h' => by rw [h] at h'; cases h'; exact ⟨.inl ⟨rfl, rfl⟩, PosI.refl _ _ _⟩
theorem PosI.modify (z1 z2 : Int) (l : List InstrD) (k : Nat) : PosI z1 z2 l (l.modify k (setP z1 z2)) := by
  intro i x x' h h'
  rw [modify_get, h] at h'
  split at h'
  · cases h'; exact .inr ⟨rfl, rfl⟩
  · cases h'; exact .inl ⟨rfl, rfl⟩
theorem map_modify_bare (l : List InstrD) (k : Nat) (z1 z2 : Int) : (l.modify k (setP z1 z2)).map bareI = l.map bareI := by
  apply List.ext_getElem?
  intro i
  rw [List.getElem?_map, List.getElem?_map, modify_get]
  cases l[i]? with
  | none => simp
  | some x => by_cases h : k = i <;> simp [h, bareI, setP]
open Classical in
/-- The functions, when a position of an instruction is written. -/
theorem RdFuncs.putCode {g : Nat → Prop} {w : World} {b k : Nat} {z1 z2 : Int} {cs : Array Value} (hb : w.heap[b]? = some (.cells cs 40 (0, 0))) {a : Option Addr} {n c : Nat} {l : List FuncD} (h : RdFuncs (some g) w (.slice a n c) l) (hz : zeroOff (.slice a n c))
    (hal : ∀ bf s i v, a = some ⟨bf, 0, s⟩ → i < l.length → w.cell? ⟨bf, i * 5 + 2, none⟩ = some v → zeroOff v) (h1 : InI64 z1) (h2 : InI64 z2) :
    ∃ l', RdFuncs (some g) (putPos w b (k * 7 + 5) z1 z2) (.slice a n c) l' ∧ l'.map bareF = l.map bareF ∧ PosFs z1 z2 l l' ∧
      (∀ i f bf s s' m c', a = some ⟨bf, 0, s⟩ → l[i]? = some f → w.cell? ⟨bf, i * 5 + 2, none⟩ = some (.slice (some ⟨b, 0, s'⟩) m c') → l'[i]? = some { f with code := f.code.modify k (setP z1 z2) }) := by
  obtain ⟨a', c', e, hl, hr⟩ := h
  simp only [Value.slice.injEq] at e
  obtain ⟨rfl, rfl, rfl⟩ := e
  let hit : Nat → Prop := fun i => ∃ bf s s' m c', a = some ⟨bf, 0, s⟩ ∧ w.cell? ⟨bf, i * 5 + 2, none⟩ = some (.slice (some ⟨b, 0, s'⟩) m c')
  let l' := l.mapIdx fun i f => if hit i then { f with code := f.code.modify k (setP z1 z2) } else f
  have hget : ∀ i f, l[i]? = some f → l'[i]? = some (if hit i then { f with code := f.code.modify k (setP z1 z2) } else f) := fun i f hf => by
    simp only [l', List.getElem?_mapIdx, hf, Option.map_some]
  have hlen : l'.length = l.length := by simp [l']
  refine ⟨l', ⟨a, c, by rw [hlen], by rw [hlen]; exact hl, fun i s hs => ?_⟩, ?_, ?_, ?_⟩
  · have hi : i < l.length := by rw [← hlen]; exact (List.getElem?_eq_some_iff.1 hs).1
    obtain ⟨f, hf⟩ : ∃ f, l[i]? = some f := ⟨_, List.getElem?_eq_getElem hi⟩
    rw [hget i f hf] at hs
    obtain ⟨b', o', pv, cv, rfl, hfr, c0, c1, c2, c3, c4, r1, r2, r3, r4, r5⟩ := hr i f hf
    obtain rfl : o' = 0 := hz _ _ _ _ _ rfl
    have hk : ∀ t v, w.cell? ⟨b', t, none⟩ = some v → (putPos w b (k * 7 + 5) z1 z2).cell? ⟨b', t, none⟩ = some v := fun t v hv => put_hC hb _ _ _ _ (by decide) hfr hv
    have c2' : w.cell? ⟨b', i * 5 + 2, none⟩ = some cv := by rw [← c2]; congr 2; omega
    have hzc : zeroOff cv := hal b' none i cv rfl hi c2'
    obtain ⟨a2, n2, e2, -⟩ := id r2
    have hq := RdInstrs.putPos (k := k) (z1 := z1) (z2 := z2) hb (e2 ▸ r2) (e2 ▸ hzc) h1 h2
    have hp := RdStrs.map (S := fun U => U ≠ 40) (put_hF (z1 := z1) (z2 := z2) (y := k * 7 + 5)) (put_hC hb) (by decide) r1
    have hiff : hit i ↔ ∃ s, a2 = some ⟨b, 0, s⟩ := by
      constructor
      · rintro ⟨bf, s1, s2, m, c3, e3, h3⟩
        simp only [Option.some.injEq, Addr.mk.injEq] at e3
        obtain ⟨rfl, -, -⟩ := e3
        rw [c2', e2] at h3
        simp only [Option.some.injEq, Value.slice.injEq] at h3
        exact ⟨_, h3.1⟩
      · rintro ⟨s2, rfl⟩
        exact ⟨b', none, s2, _, _, rfl, by rw [c2', e2]⟩
    refine ⟨b', 0, pv, cv, rfl, hfr.putPos, ?_⟩
    by_cases hh : hit i
    · rw [if_pos hh] at hs
      cases hs
      rw [if_pos (hiff.1 hh)] at hq
      exact ⟨hk _ _ c0, hk _ _ c1, hk _ _ c2, hk _ _ c3, hk _ _ c4, hp, by rw [e2]; exact hq, r3, r4, r5⟩
    · rw [if_neg hh] at hs
      cases hs
      rw [if_neg (fun h => hh (hiff.2 h))] at hq
      exact ⟨hk _ _ c0, hk _ _ c1, hk _ _ c2, hk _ _ c3, hk _ _ c4, hp, by rw [e2]; exact hq, r3, r4, r5⟩
  · apply List.ext_getElem?
    intro i
    rw [List.getElem?_map, List.getElem?_map]
    cases hf : l[i]? with
    | none => rw [List.getElem?_eq_none (by rw [hlen]; exact List.getElem?_eq_none_iff.1 hf)]
    | some f =>
      rw [hget i f hf]
      by_cases hh : hit i
      · rw [if_pos hh]
        simp only [Option.map_some, bareF, map_modify_bare]
      · rw [if_neg hh]
  · intro i f f' hf hf'
    rw [hget i f hf] at hf'
    by_cases hh : hit i
    · rw [if_pos hh] at hf'
      cases hf'
      exact ⟨.inl ⟨rfl, rfl⟩, PosI.modify _ _ _ _⟩
    · rw [if_neg hh] at hf'
      cases hf'
      exact ⟨.inl ⟨rfl, rfl⟩, PosI.refl _ _ _⟩
  · intro i f bf s s' m c' ea hf hv
    rw [hget i f hf, if_pos ⟨bf, s, s', m, c', ea, hv⟩]
/-- The functions, when the position of a function is written. -/
theorem RdFuncs.putFun {g : Nat → Prop} {w : World} {b k : Nat} {z1 z2 : Int} {n c : Nat} {l : List FuncD} (h : RdFuncs (some g) w (.slice (some ⟨b, 0, none⟩) n c) l) (h1 : InI64 z1) (h2 : InI64 z2) :
    RdFuncs (some g) (putPos w b (k * 5 + 3) z1 z2) (.slice (some ⟨b, 0, none⟩) n c) (l.modify k (setPF z1 z2)) := by
  obtain ⟨a', c', e, hl, hr⟩ := h
  simp only [Value.slice.injEq] at e
  obtain ⟨rfl, rfl, rfl⟩ := e
  refine ⟨some ⟨b, 0, none⟩, c, by rw [List.length_modify], by rw [List.length_modify]; exact hl, fun i s hs => ?_⟩
  have hi : i < l.length := by have := (List.getElem?_eq_some_iff.1 hs).1; simpa using this
  obtain ⟨f, hf⟩ : ∃ f, l[i]? = some f := ⟨_, List.getElem?_eq_getElem hi⟩
  obtain ⟨b', o', pv, cv, e, hfr, c0, c1, c2, c3, c4, r1, r2, r3, r4, r5⟩ := hr i f hf
  simp only [Option.some.injEq, Addr.mk.injEq, and_true] at e
  obtain ⟨rfl, rfl⟩ := e
  obtain ⟨_, cs, hb⟩ := hfr _ rfl
  have hp := RdStrs.map (S := fun U => U ≠ 51) (put_hF (z1 := z1) (z2 := z2) (y := k * 5 + 3)) (put_hC hb) (by decide) r1
  have hq := RdInstrs.map (S := fun U => U ≠ 51) (put_hF (z1 := z1) (z2 := z2) (y := k * 5 + 3)) (put_hC hb) (by decide) (by decide) r2
  rw [modify_get, hf] at hs
  refine ⟨b, 0, pv, cv, rfl, hfr.putPos, ?_⟩
  by_cases hki : k = i
  · subst hki
    rw [if_pos rfl] at hs
    cases hs
    have c4' : w.cell? ⟨b, k * 5 + 3 + 1, none⟩ = some (.int .i64 f.col) := by rw [← c4]; congr 2; omega
    have c3' : w.cell? ⟨b, k * 5 + 3, none⟩ = some (.int .i64 f.line) := by rw [← c3]; congr 2; omega
    refine ⟨putPos_cell (.inr ⟨by omega, by omega⟩) c0, putPos_cell (.inr ⟨by omega, by omega⟩) c1, putPos_cell (.inr ⟨by omega, by omega⟩) c2, ?_, ?_, hp, hq, h1, h2, r5⟩
    · rw [show 0 + k * 5 + 3 = k * 5 + 3 from by omega]; exact putPos_one c3'
    · rw [show 0 + k * 5 + 4 = k * 5 + 3 + 1 from by omega]; exact putPos_two c4'
  · rw [if_neg hki] at hs
    cases hs
    exact ⟨putPos_cell (.inr ⟨by omega, by omega⟩) c0, putPos_cell (.inr ⟨by omega, by omega⟩) c1, putPos_cell (.inr ⟨by omega, by omega⟩) c2, putPos_cell (.inr ⟨by omega, by omega⟩) c3, putPos_cell (.inr ⟨by omega, by omega⟩) c4, hp, hq, r3, r4, r5⟩
/-- q reads, is p but for positions, and its code begins where blocks begin. -/
def PS (g : Nat → Prop) (w : World) (q p : ProgD) (cv av fv mv : Value) : Prop := RdProg (some g) w q cv av fv mv ∧ Al w fv mv p.funcs.length ∧ bareP q = bareP p
theorem bareP_eq {q p : ProgD} (h : bareP q = bareP p) : q.width = p.width ∧ q.chans = p.chans ∧ q.arrays = p.arrays ∧ q.funcs.map bareF = p.funcs.map bareF ∧ q.main.map bareI = p.main.map bareI := by
  simp only [bareP, ProgD.mk.injEq] at h
  exact h
theorem bareP_funcs {q p : ProgD} (h : bareP q = bareP p) : q.funcs.length = p.funcs.length := by
  have := congrArg List.length (bareP_eq h).2.2.2.1
  simpa using this
theorem bareP_main {q p : ProgD} (h : bareP q = bareP p) : q.main.length = p.main.length := by
  have := congrArg List.length (bareP_eq h).2.2.2.2
  simpa using this
theorem modify_bareF (l : List FuncD) (k : Nat) (z1 z2 : Int) : (l.modify k (setPF z1 z2)).map bareF = l.map bareF := by
  apply List.ext_getElem?
  intro i
  rw [List.getElem?_map, List.getElem?_map, modify_get]
  cases l[i]? with
  | none => simp
  | some x => by_cases h : k = i <;> simp [h, bareF, setPF]
theorem PosFs.modify (z1 z2 : Int) (l : List FuncD) (k : Nat) : PosFs z1 z2 l (l.modify k (setPF z1 z2)) := by
  intro i f f' h h'
  rw [modify_get, h] at h'
  split at h'
  · cases h'; exact ⟨.inr ⟨rfl, rfl⟩, PosI.refl _ _ _⟩
  · cases h'; exact ⟨.inl ⟨rfl, rfl⟩, PosI.refl _ _ _⟩
theorem Al.put {w : World} {fv mv : Value} {n b y : Nat} {z1 z2 : Int} {u1 u2 : Int} (h : Al w fv mv n) (c1 : w.cell? ⟨b, y, none⟩ = some (.int .i64 u1)) (c2 : w.cell? ⟨b, y + 1, none⟩ = some (.int .i64 u2)) : Al (putPos w b y z1 z2) fv mv n := by
  refine ⟨h.1, h.2.1, fun bf s m c i v e hi hv => ?_⟩
  by_cases h1 : bf = b ∧ i * 5 + 2 = y
  · obtain ⟨rfl, rfl⟩ := h1
    rw [putPos_one c1] at hv
    cases hv
    intro _ _ _ _ _ e; cases e
  · by_cases h2 : bf = b ∧ i * 5 + 2 = y + 1
    · obtain ⟨rfl, e2⟩ := h2
      rw [e2, putPos_two c2] at hv
      cases hv
      intro _ _ _ _ _ e; cases e
    · have : (putPos w b y z1 z2).cell? ⟨bf, i * 5 + 2, none⟩ = w.cell? ⟨bf, i * 5 + 2, none⟩ := by
        rw [World.cell?_setCell_other, World.cell?_setCell_other]
        · intro e; simp only [Addr.mk.injEq, and_true] at e; exact h1 ⟨e.1.symm, e.2.symm⟩
        · intro e; simp only [Addr.mk.injEq, and_true] at e; exact h2 ⟨e.1.symm, e.2.symm⟩
      rw [this] at hv
      exact h.2.2 _ _ _ _ _ _ e hi hv
theorem PS.putFun {g : Nat → Prop} {w : World} {q p : ProgD} {cv av mv : Value} {b n c k : Nat} {z1 z2 : Int} (h : PS g w q p cv av (.slice (some ⟨b, 0, none⟩) n c) mv) (hk : k < q.funcs.length) (h1 : InI64 z1) (h2 : InI64 z2) :
    PS g (putPos w b (k * 5 + 3) z1 z2) { q with funcs := q.funcs.modify k (setPF z1 z2) } p cv av (.slice (some ⟨b, 0, none⟩) n c) mv := by
  obtain ⟨⟨r1, r2, r3, r4, r5⟩, hal, hbe⟩ := h
  obtain ⟨a', c', e, hl, hr⟩ := id r3
  simp only [Value.slice.injEq] at e
  obtain ⟨rfl, -, -⟩ := e
  obtain ⟨b', o', pv, cv0, e, hfr, c0, c1, c2, c3, c4, -⟩ := hr k _ (List.getElem?_eq_getElem hk)
  simp only [Option.some.injEq, Addr.mk.injEq, and_true] at e
  obtain ⟨rfl, rfl⟩ := e
  obtain ⟨_, cs, hb⟩ := hfr _ rfl
  have c4' : w.cell? ⟨b, k * 5 + 3 + 1, none⟩ = some (.int .i64 q.funcs[k].col) := by rw [← c4]; congr 2; omega
  have c3' : w.cell? ⟨b, k * 5 + 3, none⟩ = some (.int .i64 q.funcs[k].line) := by rw [← c3]; congr 2; omega
  refine ⟨⟨RdStrs.map (S := fun U => U ≠ 51) put_hF (put_hC hb) (by decide) r1, RdArrs.map (S := fun U => U ≠ 51) put_hF (put_hC hb) (by decide) r2, RdFuncs.putFun r3 h1 h2, RdInstrs.map (S := fun U => U ≠ 51) put_hF (put_hC hb) (by decide) (by decide) r4, r5⟩, hal.put c3' c4', ?_⟩
  rw [← hbe]
  simp only [bareP, modify_bareF]
open Classical in
theorem PS.putIns {g : Nat → Prop} {w : World} {q p : ProgD} {cv av mv : Value} {fa : Option Addr} {b n c k : Nat} {u1 u2 z1 z2 : Int} {cs : Array Value} (h : PS g w q p cv av (.slice fa n c) mv) (hb : w.heap[b]? = some (.cells cs 40 (0, 0)))
    (c1 : w.cell? ⟨b, k * 7 + 5, none⟩ = some (.int .i64 u1)) (c2 : w.cell? ⟨b, k * 7 + 5 + 1, none⟩ = some (.int .i64 u2)) (h1 : InI64 z1) (h2 : InI64 z2) :
    ∃ q', PS g (putPos w b (k * 7 + 5) z1 z2) q' p cv av (.slice fa n c) mv ∧ bareP q' = bareP q ∧ PosFs z1 z2 q.funcs q'.funcs ∧ PosI z1 z2 q.main q'.main ∧
      (∀ i f bf s s' m c', fa = some ⟨bf, 0, s⟩ → q.funcs[i]? = some f → w.cell? ⟨bf, i * 5 + 2, none⟩ = some (.slice (some ⟨b, 0, s'⟩) m c') → q'.funcs[i]? = some { f with code := f.code.modify k (setP z1 z2) }) ∧
      (∀ s m c', mv = .slice (some ⟨b, 0, s⟩) m c' → q'.main = q.main.modify k (setP z1 z2)) := by
  obtain ⟨⟨r1, r2, r3, r4, r5⟩, hal, hbe⟩ := h
  obtain ⟨l', f1, f2, f3, f4⟩ := RdFuncs.putCode (k := k) (z1 := z1) (z2 := z2) hb r3 hal.1 (fun bf s i v e hi hv => hal.2.2 bf s n c i v (by rw [e]) (by rw [← bareP_funcs hbe]; exact hi) hv) h1 h2
  obtain ⟨am, cm, rfl, -⟩ := id r4
  have hm := RdInstrs.putPos (k := k) (z1 := z1) (z2 := z2) hb r4 hal.2.1 h1 h2
  have hq : bareP { q with funcs := l', main := (if ∃ s, am = some ⟨b, 0, s⟩ then q.main.modify k (setP z1 z2) else q.main) } = bareP q := by
    simp only [bareP, f2]
    congr 1
    split
    · exact map_modify_bare _ _ _ _
    · rfl
  refine ⟨{ q with funcs := l', main := (if ∃ s, am = some ⟨b, 0, s⟩ then q.main.modify k (setP z1 z2) else q.main) }, ⟨⟨RdStrs.map (S := fun U => U ≠ 40) put_hF (put_hC hb) (by decide) r1, RdArrs.map (S := fun U => U ≠ 40) put_hF (put_hC hb) (by decide) r2, f1, hm, r5⟩, hal.put c1 c2, hq.trans hbe⟩, hq, f3, ?_, f4, ?_⟩
  · show PosI z1 z2 q.main (if ∃ s, am = some ⟨b, 0, s⟩ then q.main.modify k (setP z1 z2) else q.main)
    split
    · exact PosI.modify _ _ _ _
    · exact PosI.refl _ _ _
  · intro s m c' e
    simp only [Value.slice.injEq] at e
    show (if ∃ s, am = some ⟨b, 0, s⟩ then q.main.modify k (setP z1 z2) else q.main) = _
    rw [if_pos ⟨s, e.1⟩]
/-! ### which positions are done -/
def DC (T : Int → Int → Prop) (l : List InstrD) (k : Nat) : Prop := ∀ j x, j < k → l[j]? = some x → T x.line x.col
def DF (T : Int → Int → Prop) (l : List FuncD) (k : Nat) : Prop := ∀ j f, j < k → l[j]? = some f → T f.line f.col ∧ DC T f.code f.code.length
theorem DC.pos {T : Int → Int → Prop} {z1 z2 : Int} {l l' : List InstrD} {k : Nat} (h : DC T l k) (hp : PosI z1 z2 l l') (hb : l'.map bareI = l.map bareI) (ht : T z1 z2) : DC T l' k := by
  intro j x' hj hx'
  have hlen : l'.length = l.length := by have := congrArg List.length hb; simpa using this
  obtain ⟨x, hx⟩ : ∃ x, l[j]? = some x := ⟨_, List.getElem?_eq_getElem (by rw [← hlen]; exact (List.getElem?_eq_some_iff.1 hx').1)⟩
  rcases hp j x x' hx hx' with ⟨e1, e2⟩ | ⟨e1, e2⟩
  · rw [e1, e2]; exact h j x hj hx
  · rw [e1, e2]; exact ht
theorem DF.pos {T : Int → Int → Prop} {z1 z2 : Int} {l l' : List FuncD} {k : Nat} (h : DF T l k) (hp : PosFs z1 z2 l l') (hb : l'.map bareF = l.map bareF) (ht : T z1 z2) : DF T l' k := by
  intro j f' hj hf'
  have hlen : l'.length = l.length := by have := congrArg List.length hb; simpa using this
  obtain ⟨f, hf⟩ : ∃ f, l[j]? = some f := ⟨_, List.getElem?_eq_getElem (by rw [← hlen]; exact (List.getElem?_eq_some_iff.1 hf').1)⟩
  obtain ⟨hpos, hcode⟩ := hp j f f' hf hf'
  have hbj : bareF f' = bareF f := by
    have := congrArg (fun m : List FuncD => m[j]?) hb
    simp only [List.getElem?_map, hf, hf', Option.map_some, Option.some.injEq] at this
    exact this
  simp only [bareF, FuncD.mk.injEq] at hbj
  have hcl : f'.code.length = f.code.length := by have := congrArg List.length hbj.2.2.1; simpa using this
  obtain ⟨h1, h2⟩ := h j f hj hf
  refine ⟨?_, by rw [hcl]; exact h2.pos hcode hbj.2.2.1 ht⟩
  rcases hpos with ⟨e1, e2⟩ | ⟨e1, e2⟩
  · rw [e1, e2]; exact h1
  · rw [e1, e2]; exact ht
theorem DC.weak {T T' : Int → Int → Prop} {l : List InstrD} {k : Nat} (h : DC T l k) (ht : ∀ a b, T a b → T' a b) : DC T' l k := fun j x hj hx => ht _ _ (h j x hj hx)
theorem DF.weak {T T' : Int → Int → Prop} {l : List FuncD} {k : Nat} (h : DF T l k) (ht : ∀ a b, T a b → T' a b) : DF T' l k := fun j f hj hf => ⟨ht _ _ (h j f hj hf).1, (h j f hj hf).2.weak ht⟩
theorem DC.step {T : Int → Int → Prop} {z1 z2 : Int} {l : List InstrD} {k : Nat} (h : DC T l k) (ht : T z1 z2) : DC T (l.modify k (setP z1 z2)) (k + 1) := by
  intro j x hj hx
  rw [modify_get] at hx
  by_cases e : k = j
  · rw [if_pos e] at hx
    obtain ⟨y, hy, rfl⟩ := Option.map_eq_some_iff.1 hx
    exact ht
  · rw [if_neg e] at hx
    exact h j x (by omega) hx
end Go.Proofs.YteeebofjlchndaaDoor
