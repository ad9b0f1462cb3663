/- Contracts of the kit's CopyInputs, and of the law's Few: new lists of lists. Condition: what comes in reads as the lists. -/
import Derived.Test.YtkjkpddajjmloaaDoorMMq
import Derived.Test.YtkjkpddajjmloaaDoorCalm
set_option linter.unnecessarySimpa false
set_option linter.unusedVariables false
set_option linter.unusedSimpArgs false
namespace Go.Proofs.YtkjkpddajjmloaaDoor
open Go.ChangeShapes Go.WideShapes Go.ChangeAt Go.RowKit
theorem run_min2 {P : Program} (ats : Array TypeId) (ty : TypeId) (a b : Int) (w : World) : (Builtin.min_ ats ty #[.int .i64 a, .int .i64 b]).run P w = .ok (.int .i64 (min a b)) w := by
  have : (if b < a then b else a) = min a b := by split <;> omega
  simp [Builtin.min_, Builtin.min2, this]
theorem RdRow.grown {α : Type} {K : Kind α} {base E size n : Nat} {w w' : World} {v v0 : Value} {l : List α} {xs : List Value} (h : RdRow K (some (upFrom base)) w v l) (hown : w.ownsRow base E size v0 n xs) (hg : w.grownBy w' v0.ownBlock) (hT : K.T ≠ E) : RdRow K (some (upFrom base)) w' v l :=
  RdRow.map (fun b hb hf => grown_hF hown hg _ b hT hb hf) (fun b o v hf hc => grown_hC hown hg _ b o v hT hf hc) h
/-- Lists that are copied so far: the slices vs. -/
structure Copied (n0 : Nat) (L : List (List Int)) (vs : List Value) (w : World) (v : Value) : Prop where
  own : w.ownsRow n0 54 1 v vs.length vs
  rd : ∀ (j : Nat) (u : Value) (l : List Int), vs[j]? = some u → L[j]? = some l → RdRow kNum (some (upFrom n0)) w u l
theorem Copied.step {n0 : Nat} {L : List (List Int)} {vs : List Value} {w w1 w4 : World} {v u v' : Value} {l : List Int} (h : Copied n0 L vs w v) (hb : Below w.heap.size w w1) (hr : RdRow kNum (some (upFrom w.heap.size)) w1 u l) (hn : n0 ≤ w.heap.size) (hl : L[vs.length]? = some l)
    (h1 : w4.ownsRow n0 54 1 v' (vs.length + 1) (vs ++ [u])) (h2 : (w1.alloc (.cells #[u] 54)).grownBy w4 v.ownBlock) : Copied n0 L (vs ++ [u]) w4 v' := by
  obtain ⟨ho, hx⟩ := h
  have hal := (Below.refl w1.heap.size w1).alloc (Nat.le_refl _) (.cells #[u] 54)
  have ho1 := own_below (own_below ho hb) hal
  refine ⟨by simpa using h1, fun j u' l' hj hl' => ?_⟩
  rw [List.getElem?_append] at hj
  split at hj
  · exact (((hx j u' l' hj hl').keep hb).keep hal).grown ho1 h2 (by decide)
  · have hj0 : j = vs.length := by
      rcases Nat.lt_or_ge (j - vs.length) 1 with h1 | h1
      · omega
      · rw [List.getElem?_eq_none (by simpa using h1)] at hj; cases hj
    subst hj0
    simp only [Nat.sub_self, List.getElem?_cons_zero, Option.some.injEq] at hj
    subst hj
    rw [hl] at hl'
    cases hl'
    exact ((hr.up hn).keep hal).grown ho1 h2 (by decide)
theorem Copied.all {n0 : Nat} {L : List (List Int)} {vs : List Value} {w : World} {v : Value} (h : Copied n0 L vs w v) (hv : vs.length = L.length) (hs : L.length * 24 ≤ 140737488351232) : RdLists (some (upFrom n0)) w v L := by
  obtain ⟨ho, hx⟩ := h
  obtain ⟨a, c, rfl, _⟩ := own_read ho
  refine ⟨a, c, by rw [hv], ⟨hs, by rw [← hv]; exact own_cap ho⟩, fun i l hl => ?_⟩
  have hi : i < vs.length := by rw [hv]; exact (List.getElem?_eq_some_iff.1 hl).1
  obtain ⟨g, c', e', hf, hc⟩ := own_at ho (by omega)
  simp only [Value.slice.injEq] at e'
  obtain ⟨rfl, _, _⟩ := e'
  exact ⟨g, 0, vs[i], rfl, hf, hc i _ (List.getElem?_eq_getElem hi), hx i _ l (List.getElem?_eq_getElem hi) hl⟩
set_option maxRecDepth 100000 in
set_option maxHeartbeats 800000 in
theorem copyLists (av : Value) (L : List (List Int)) (w : World) (h : RdLists none w av L) :
    Calls Tryd.prog 23 #[av] w fun e w' => ∃ v, e = .returned v ∧ RdLists (some (upFrom w.heap.size)) w' v L ∧ Below w.heap.size w w' := by
  obtain ⟨a, c, rfl⟩ := h.is
  obtain ⟨i0, hi, hz0, hz1, hz2⟩ := info_parts infoNumS
  have hl : L.length * 24 ≤ 140737488351232 := h.size
  have HR := Lib.hid h
  clear h
  go_enter Tryd.func23, Tryd.ntmps23
  go_wp2
  go_loopw [3, 4] (fun v i wr => ∃ k : Nat, k ≤ L.length ∧ i = .int .i64 k ∧ (∃ vs : List Value, vs.length = k ∧ Copied w.heap.size L vs wr v) ∧ Below w.heap.size w wr) (fun _ i _ => L.length - (intOf i).toNat)
  case atStart => exact ⟨0, Nat.zero_le _, rfl, ⟨[], rfl, World.ownsRow_nil _ _ _ _, fun j u l hj => by simp at hj⟩, Below.refl _ _⟩
  case round =>
    obtain ⟨k, hk, rfl, ⟨vs, rfl, hcp⟩, hb⟩ := hrel
    by_cases hlt : vs.length < L.length
    · obtain ⟨x, hx⟩ : ∃ x, L[vs.length]? = some x := ⟨_, List.getElem?_eq_getElem hlt⟩
      obtain ⟨b, o, xa, xc, rfl, _, c0, hx0⟩ := RdLists.at (HR.out.keep hb) hx
      have hown := hcp.own
      obtain ⟨va, vc, rfl, -⟩ := own_read hown
      have HCP := Lib.hid hcp
      have HX := Lib.hid hx
      have HX0 := Lib.hid (copyNum _ _ _ hx0.forget)
      have hsz := hb.size
      have HBr := Lib.hid hb
      clear hx hcp hx0 hb
      go_wp2_with (first | (go_at_call 54; refine HX0.out.mono ?_; rintro e w1 ⟨v, rfl, hro1, hr1, hb1⟩; obtain ⟨ya, yc, rfl⟩ := hr1.is; have hown1 := own_below hown hb1; have HR1 := Lib.hid hr1; have HB1 := Lib.hid hb1; have hs1 := hb1.size; clear hown hb1 hr1 hro1) | (at_builtin; refine wpList_append_own _ rfl (.tmp 11) (.tmp 17) 47 rfl w.heap.size 54 i0 (.slice none 0 0) 1 24 Tryd.underlying47 hi hz0 hz1 hz2 rfl (by decide) _ _ _ rfl (hown1.alloc _) ⟨w1.heap.size, 0, none⟩ 1 1 [.slice ya x.length yc] rfl rfl (many_new _ _ _) ?c2 ?c3 ?c4 ?c5 ?_))
      case c2 => intro u hu; simp at hu; subst hu; rfl
      case c3 => unfold maxLen; omega
      case c4 => omega
      case c5 => simp; omega
      · intro v' w4 hown' hgrow _
        have HN := Lib.hid (HCP.out.step HB1.out HR1.out hsz HX.out hown' hgrow)
        have HBN := Lib.hid (((bcomp' HB1.out HBr.out).alloc (by omega) (.cells #[.slice ya x.length yc] 54)).grown hgrow (by simp; omega) (own_row_le hown1))
        clear hown' hgrow hown1
        go_wp2
        go_roundw
        case rel => exact ⟨vs.length + 1, by omega, by go_num, ⟨_, by simp, HN.out⟩, HBN.out⟩
        case measure => simp [intOf]; omega
    · have hk2 : vs.length = L.length := by omega
      have HL := Lib.hid (hcp.all hk2 hl)
      clear hcp
      rw [hk2] at hk ⊢
      clear hk2 hlt
      go_wp2
      go_ret
      exact ⟨_, rfl, HL.out, hb⟩
/-- A store into a cell of a block of the type T: what reads through blocks of other types, and other cells, stay. -/
theorem set_hF {g : Nat → Prop} {w : World} {b o : Nat} {u : Value} {T0 : TypeId} {cs : Array Value} (hb : w.heap[b]? = some (.cells cs T0 (0,0))) : ∀ T b', Any T → b' < w.heap.size → Free (some g) T w b' → Free (some g) T (w.setCell ⟨b, o, none⟩ u) b' := by
  intro T b' _ _ h k e
  cases e
  obtain ⟨h1, cs', h2⟩ := h g rfl
  refine ⟨h1, ?_⟩
  by_cases hbb : b' = b
  · subst hbb
    rw [hb] at h2
    simp at h2
    obtain ⟨rfl, rfl⟩ := h2
    exact ⟨_, heap_setCell_same _ _ o _ _ _ hb⟩
  · exact ⟨cs', (heap_setCell_other w ⟨b, o, none⟩ b' u (by simpa using hbb)).trans h2⟩
theorem set_hC {g : Nat → Prop} {w : World} {b o : Nat} {u : Value} {T0 : TypeId} {cs : Array Value} (hb : w.heap[b]? = some (.cells cs T0 (0,0))) : ∀ T b' o' v, T ≠ T0 → Free (some g) T w b' → w.cell? ⟨b', o', none⟩ = some v → (w.setCell ⟨b, o, none⟩ u).cell? ⟨b', o', none⟩ = some v := by
  intro T b' o' v hT hf hc
  have hbb : b' ≠ b := fun e => by
    subst e
    obtain ⟨_, cs', h2⟩ := hf g rfl
    rw [hb] at h2
    simp at h2
    exact hT h2.2.symm
  rw [World.cell?_of_block (w := w) (heap_setCell_other w ⟨b, o, none⟩ b' u (by simpa using hbb))]
  exact hc
theorem cell_set_off {w : World} {b o o' : Nat} {u v : Value} (hne : o' ≠ o) (hc : w.cell? ⟨b, o', none⟩ = some v) : (w.setCell ⟨b, o, none⟩ u).cell? ⟨b, o', none⟩ = some v := by
  rw [World.cell?_setCell_other]
  · exact hc
  · simpa using fun e => hne e
theorem take_min {α : Type} (l : List α) (m : Nat) : l.take (min l.length m) = l.take m := by
  rcases Nat.le_total l.length m with h | h
  · rw [Nat.min_eq_left h, List.take_of_length_le h, List.take_of_length_le (Nat.le_refl _)]
  · rw [Nat.min_eq_right h]
/-- The k-th list, set. -/
theorem RdLists.setAt {g : Nat → Prop} {w : World} {b o c k : Nat} {L : List (List Int)} {l l' : List Int} {u : Value} (h : RdLists (some g) w (.slice (some ⟨b, o, none⟩) L.length c) L) (hx : L[k]? = some l) (ha : RdRow kNum (some g) w u l') :
    RdLists (some g) (w.setCell ⟨b, o + k, none⟩ u) (.slice (some ⟨b, o, none⟩) L.length c) (L.set k l') := by
  obtain ⟨a', c', e, hl, hr⟩ := h
  simp only [Value.slice.injEq] at e
  obtain ⟨rfl, _, rfl⟩ := e
  obtain ⟨b', o', av0, e0, hf0, hc0, _⟩ := hr k l hx
  simp only [Option.some.injEq, Addr.mk.injEq, and_true] at e0
  obtain ⟨rfl, rfl⟩ := e0
  obtain ⟨_, cs, hb⟩ := hf0 g rfl
  have hst : ∀ (y : List Int) (v : Value), RdRow kNum (some g) w v y → RdRow kNum (some g) (w.setCell ⟨b, o + k, none⟩ u) v y := fun y v hy =>
    RdRow.map (fun b' hlt hf => set_hF hb _ b' trivial hlt hf) (fun b' o' v hf hc => set_hC hb _ b' o' v (by decide) hf hc) hy
  refine ⟨some ⟨b, o, none⟩, c, by rw [List.length_set], by rw [List.length_set]; exact hl, fun i s hs => ?_⟩
  rw [List.getElem?_set] at hs
  by_cases hik : k = i
  · subst hik
    have hkl : k < L.length := (List.getElem?_eq_some_iff.1 hx).1
    rw [if_pos rfl, if_pos hkl] at hs
    cases hs
    exact ⟨b, o, u, rfl, set_hF hb _ _ trivial (block_lt_of_cell hc0) hf0, World.cell?_setCell_same _ _ _ hc0, hst _ _ ha⟩
  · rw [if_neg hik] at hs
    obtain ⟨b', o', av1, e1, hf1, h0, h7⟩ := hr i s hs
    simp only [Option.some.injEq, Addr.mk.injEq, and_true] at e1
    obtain ⟨rfl, rfl⟩ := e1
    exact ⟨b, o, av1, rfl, set_hF hb _ _ trivial (block_lt_of_cell h0) hf1, cell_set_off (by omega) h0, hst s av1 h7⟩
def fewI (L : List (List Int)) : List (List Int) := (L.take 34).map fun l => l.take 40
/-- The first k cut, the others as they were. -/
def cutI (L : List (List Int)) (k : Nat) : List (List Int) := ((L.take k).map fun l => l.take 40) ++ L.drop k
theorem cutI_len (l : List (List Int)) (k : Nat) : (cutI l k).length = l.length := by
  unfold cutI
  rw [List.length_append, List.length_map, List.length_take, List.length_drop]; omega
theorem cutI_at (l : List (List Int)) (k : Nat) (x : List Int) (h : l[k]? = some x) : (cutI l k)[k]? = some x := by
  have hk := (List.getElem?_eq_some_iff.1 h).1
  unfold cutI
  rw [List.getElem?_append_right (by rw [List.length_map, List.length_take]; omega), List.length_map, List.length_take, Nat.min_eq_left (by omega), Nat.sub_self, List.getElem?_drop]
  exact h
theorem cutI_step (l : List (List Int)) (k : Nat) (x : List Int) (h : l[k]? = some x) : (cutI l k).set k (x.take 40) = cutI l (k + 1) := by
  have hk := (List.getElem?_eq_some_iff.1 h).1
  unfold cutI
  have hx : l[k] = x := (List.getElem?_eq_some_iff.1 h).2
  rw [List.set_append_right _ _ (by rw [List.length_map, List.length_take]; omega), List.length_map, List.length_take, Nat.min_eq_left (by omega), Nat.sub_self, List.take_add_one (i := k), h, List.drop_eq_getElem_cons hk, List.set_cons_zero]
  simp
theorem cutI_end (l : List (List Int)) : cutI l l.length = l.map fun l => l.take 40 := by simp [cutI]
end Go.Proofs.YtkjkpddajjmloaaDoor
