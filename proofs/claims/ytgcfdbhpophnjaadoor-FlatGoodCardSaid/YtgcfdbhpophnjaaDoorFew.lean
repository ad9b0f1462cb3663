/- Contracts of few and Few: copies whose lists are cut. Condition: what comes in reads as the list, the program. -/
import Derived.Test.YtgcfdbhpophnjaaDoorMix
import Derived.Test.YtgcfdbhpophnjaaDoorKitE
import Derived.Test.YtgcfdbhpophnjaaDoorRefF
set_option linter.unnecessarySimpa false
set_option linter.unusedVariables false
set_option linter.unusedSimpArgs false
namespace Go.Proofs.YtgcfdbhpophnjaaDoor
open Go.ChangeShapes Go.WideShapes Go.ChangeAt Go.RowKit
def cutArgs (x : InstrD) : InstrD := { x with args := x.args.take 34 }
def fewL (l : List InstrD) : List InstrD := (l.take 30).map cutArgs
/-- A slice of a slice reads as the beginning of the list. -/
theorem RdInstrs.cut {lo : Option (Nat → Prop)} {w : World} {a : Option Addr} {c n : Nat} {l : List InstrD} (h : RdInstrs lo w (.slice a l.length c) l) (hn : n ≤ l.length) : RdInstrs lo w (.slice a n c) (l.take n) := by
  obtain ⟨a', c', e, hl, hr⟩ := h
  simp only [Value.slice.injEq] at e
  obtain ⟨rfl, _, rfl⟩ := e
  refine ⟨a, c, by rw [List.length_take, Nat.min_eq_left hn], ⟨by rw [List.length_take]; omega, by rw [List.length_take]; omega⟩, fun i s hs => hr i s ?_⟩
  rw [List.getElem?_take] at hs
  split at hs
  · exact hs
  · cases hs
theorem RdArgs.cut {lo : Option (Nat → Prop)} {w : World} {a : Option Addr} {c n : Nat} {l : List ArgD} (h : RdArgs lo w (.slice a l.length c) l) (hn : n ≤ l.length) : RdArgs lo w (.slice a n c) (l.take n) := by
  obtain ⟨a', c', e, hl, hr⟩ := h
  simp only [Value.slice.injEq] at e
  obtain ⟨rfl, _, rfl⟩ := e
  refine ⟨a, c, by rw [List.length_take, Nat.min_eq_left hn], ⟨by rw [List.length_take]; omega, by rw [List.length_take]; omega⟩, fun i s hs => hr i s ?_⟩
  rw [List.getElem?_take] at hs
  split at hs
  · exact hs
  · cases hs
theorem RdStrs.cut {lo : Option (Nat → Prop)} {w : World} {a : Option Addr} {c n : Nat} {l : List ByteArray} (h : RdStrs lo w (.slice a l.length c) l) (hn : n ≤ l.length) : RdStrs lo w (.slice a n c) (l.take n) := by
  obtain ⟨a', c', e, hl, hr⟩ := h
  simp only [Value.slice.injEq] at e
  obtain ⟨rfl, _, rfl⟩ := e
  refine ⟨a, c, by rw [List.length_take, Nat.min_eq_left hn], ⟨by rw [List.length_take]; omega, by rw [List.length_take]; omega⟩, fun i s hs => hr i s ?_⟩
  rw [List.getElem?_take] at hs
  split at hs
  · exact hs
  · cases hs
theorem RdArrs.cut {lo : Option (Nat → Prop)} {w : World} {a : Option Addr} {c n : Nat} {l : List ArrD} (h : RdArrs lo w (.slice a l.length c) l) (hn : n ≤ l.length) : RdArrs lo w (.slice a n c) (l.take n) := by
  obtain ⟨a', c', e, hl, hr⟩ := h
  simp only [Value.slice.injEq] at e
  obtain ⟨rfl, _, rfl⟩ := e
  refine ⟨a, c, by rw [List.length_take, Nat.min_eq_left hn], ⟨by rw [List.length_take]; omega, by rw [List.length_take]; omega⟩, fun i s hs => hr i s ?_⟩
  rw [List.getElem?_take] at hs
  split at hs
  · exact hs
  · cases hs
/-- A store into a cell of a block of the type T: what reads through blocks of other types, and other cells, stay. -/
theorem set_hF {g : Nat → Prop} {w : World} {b o : Nat} {u : Value} {T0 : TypeId} {cs : Array Value} (hb : w.heap[b]? = some (.cells cs T0 (0,0))) : ∀ T b', Any T → b' < w.heap.size → Free (some g) T w b' → Free (some g) T (w.setCell ⟨b, o, none⟩ u) b' := by
  intro T b' _ _ h k e
  cases e
  obtain ⟨h1, cs', h2⟩ := h g rfl
  refine ⟨h1, ?_⟩
  by_cases hbb : b' = b
  · subst hbb
    rw [hb] at h2
    simp at h2
    obtain ⟨rfl, rfl⟩ := h2
    exact ⟨_, heap_setCell_same _ _ o _ _ _ hb⟩
  · exact ⟨cs', (heap_setCell_other w ⟨b, o, none⟩ b' u (by simpa using hbb)).trans h2⟩
theorem set_hC {g : Nat → Prop} {w : World} {b o : Nat} {u : Value} {T0 : TypeId} {cs : Array Value} (hb : w.heap[b]? = some (.cells cs T0 (0,0))) : ∀ T b' o' v, T ≠ T0 → Free (some g) T w b' → w.cell? ⟨b', o', none⟩ = some v → (w.setCell ⟨b, o, none⟩ u).cell? ⟨b', o', none⟩ = some v := by
  intro T b' o' v hT hf hc
  have hbb : b' ≠ b := fun e => by
    subst e
    obtain ⟨_, cs', h2⟩ := hf g rfl
    rw [hb] at h2
    simp at h2
    exact hT h2.2.symm
  rw [World.cell?_of_block (w := w) (heap_setCell_other w ⟨b, o, none⟩ b' u (by simpa using hbb))]
  exact hc
theorem cell_set_off {w : World} {b o o' : Nat} {u v : Value} (hne : o' ≠ o) (hc : w.cell? ⟨b, o', none⟩ = some v) : (w.setCell ⟨b, o, none⟩ u).cell? ⟨b, o', none⟩ = some v := by
  rw [World.cell?_setCell_other]
  · exact hc
  · simpa using fun e => hne e
/-- The operands of the k-th instruction, set. -/
theorem RdInstrs.setArgs {g : Nat → Prop} {w : World} {b o c k : Nat} {l : List InstrD} {x : InstrD} {av : Value} {args : List ArgD} (h : RdInstrs (some g) w (.slice (some ⟨b, o, none⟩) l.length c) l) (hx : l[k]? = some x) (ha : RdArgs (some g) w av args) :
    RdInstrs (some g) (w.setCell ⟨b, o + k * 7 + 4, none⟩ av) (.slice (some ⟨b, o, none⟩) l.length c) (l.set k { x with args := args }) := by
  obtain ⟨a', c', e, hl, hr⟩ := h
  simp only [Value.slice.injEq] at e
  obtain ⟨rfl, _, rfl⟩ := e
  obtain ⟨b', o', av0, e0, hf0, _, _, _, _, hc4, _⟩ := hr k x hx
  simp only [Option.some.injEq, Addr.mk.injEq, and_true] at e0
  obtain ⟨rfl, rfl⟩ := e0
  obtain ⟨_, cs, hb⟩ := hf0 g rfl
  have hst : ∀ (y : InstrD) (v : Value), RdInstr (some g) w y v → RdInstr (some g) (w.setCell ⟨b, o + k * 7 + 4, none⟩ av) y v := fun y v hy =>
    RdInstr.map (S := fun T => T ≠ 60) (fun T b' _ => set_hF hb T b' trivial) (set_hC hb) (by decide) hy
  refine ⟨some ⟨b, o, none⟩, c, by rw [List.length_set], by rw [List.length_set]; exact hl, fun i s hs => ?_⟩
  rw [List.getElem?_set] at hs
  by_cases hik : k = i
  · subst hik
    have hkl : k < l.length := (List.getElem?_eq_some_iff.1 hx).1
    rw [if_pos rfl, if_pos hkl] at hs
    cases hs
    obtain ⟨b', o', av1, e1, hf1, h0, h1, h2, h3, h4, h5, h6, h7⟩ := hr k x hx
    simp only [Option.some.injEq, Addr.mk.injEq, and_true] at e1
    obtain ⟨rfl, rfl⟩ := e1
    refine ⟨b, o, av, rfl, set_hF hb _ _ trivial (block_lt_of_cell h0) hf1, cell_set_off (by omega) h0, cell_set_off (by omega) h1, cell_set_off (by omega) h2, cell_set_off (by omega) h3, World.cell?_setCell_same _ _ _ h4, cell_set_off (by omega) h5, cell_set_off (by omega) h6, ?_⟩
    have := hst { x with args := args } av ⟨ha, h7.2⟩
    exact this
  · rw [if_neg hik] at hs
    obtain ⟨b', o', av1, e1, hf1, h0, h1, h2, h3, h4, h5, h6, h7⟩ := hr i s hs
    simp only [Option.some.injEq, Addr.mk.injEq, and_true] at e1
    obtain ⟨rfl, rfl⟩ := e1
    exact ⟨b, o, av1, rfl, set_hF hb _ _ trivial (block_lt_of_cell h0) hf1, cell_set_off (by omega) h0, cell_set_off (by omega) h1, cell_set_off (by omega) h2, cell_set_off (by omega) h3, cell_set_off (by omega) h4, cell_set_off (by omega) h5, cell_set_off (by omega) h6, hst s av1 h7⟩
/-- The first k cut, the others as they were. -/
def cutK (l : List InstrD) (k : Nat) : List InstrD := (l.take k).map cutArgs ++ l.drop k
theorem cutK_len (l : List InstrD) (k : Nat) : (cutK l k).length = l.length := by
  unfold cutK
  rw [List.length_append, List.length_map, List.length_take, List.length_drop]; omega
theorem cutK_at (l : List InstrD) (k : Nat) (x : InstrD) (h : l[k]? = some x) : (cutK l k)[k]? = some x := by
  have hk := (List.getElem?_eq_some_iff.1 h).1
  unfold cutK
  rw [List.getElem?_append_right (by rw [List.length_map, List.length_take]; omega), List.length_map, List.length_take, Nat.min_eq_left (by omega), Nat.sub_self, List.getElem?_drop]
  exact h
theorem cutK_step (l : List InstrD) (k : Nat) (x : InstrD) (h : l[k]? = some x) : (cutK l k).set k (cutArgs x) = cutK l (k + 1) := by
  have hk := (List.getElem?_eq_some_iff.1 h).1
  unfold cutK
  have hx : l[k] = x := (List.getElem?_eq_some_iff.1 h).2
  rw [List.set_append_right _ _ (by rw [List.length_map, List.length_take]; omega), List.length_map, List.length_take, Nat.min_eq_left (by omega), Nat.sub_self, List.take_add_one, h, List.drop_eq_getElem_cons hk, List.set_cons_zero]
  simp
theorem take_min {α : Type} (l : List α) (m : Nat) : l.take (min l.length m) = l.take m := by
  rcases Nat.le_total l.length m with h | h
  · rw [Nat.min_eq_left h, List.take_of_length_le h, List.take_of_length_le (Nat.le_refl _)]
  · rw [Nat.min_eq_right h]
theorem cutK_end (l : List InstrD) : cutK l l.length = l.map cutArgs := by simp [cutK]
set_option maxRecDepth 100000 in
set_option maxHeartbeats 3200000 in
theorem few_any (av : Value) (l : List InstrD) (w : World) (h : RdInstrs none w av l) :
    Calls Tryd.prog 28 #[av] w fun e w' => ∃ v, e = .returned v ∧ RdInstrs (some (upFrom w.heap.size)) w' v (fewL l) ∧ Below w.heap.size w w' := by
  obtain ⟨a, c, rfl, hl, hr⟩ := id h
  obtain ⟨n, hn⟩ : ∃ n : Nat, min l.length 30 = n := ⟨_, rfl⟩
  have hmin : ∀ w, (Builtin.min_ #[3, 3] 3 #[.int .i64 (l.length : Int), .int .i64 30]).run Tryd.prog w = .ok (.int .i64 (n : Int)) w := by
    have hz : (n : Int) = min (l.length : Int) 30 := by omega
    intro w
    rw [hz]
    exact run_min2 _ _ _ _ w
  have hcut := h.cut (n := n) (by omega)
  have hnl : n ≤ l.length := by omega
  have hnc : n ≤ c := by omega
  have hn30 : n ≤ 30 := by omega
  have hL : Hid (fewL l = (l.take n).map cutArgs) := by
    show _ = _
    unfold fewL
    congr 1
    subst hn
    rcases Nat.le_total l.length 30 with h | h
    · rw [Nat.min_eq_left h, List.take_of_length_le h, List.take_of_length_le (Nat.le_refl _)]
    · rw [Nat.min_eq_right h]
  have HCUT := Lib.hid hcut
  clear h hr hcut hn
  go_enter Tryd.func28, Tryd.ntmps28
  go_upto_region 2 with (go_at_call 30; refine (copyInstrs _ _ _ HCUT.out).mono ?_; rintro e w1 ⟨v1, rfl, hr1, hb1⟩; obtain ⟨a1, k1, rfl, _⟩ := id hr1; have HR1 := Lib.hid hr1; clear hr1)
  clear hmin
  go_wp2_with fail
  go_loopw [3] (fun i wr => ∃ k : Nat, k ≤ n ∧ i = .int .i64 k ∧ RdInstrs (some (upFrom w.heap.size)) wr (.slice a1 n k1) (cutK (l.take n) k) ∧ Below w.heap.size w wr) (fun i _ => n - (intOf i).toNat)
  case atStart => exact ⟨0, Nat.zero_le _, rfl, (by have hh := HR1.out; rw [show (l.take n).length = n from by rw [List.length_take]; omega] at hh; exact hh), hb1⟩
  case round =>
    obtain ⟨k, hk, rfl, hrd, hb⟩ := hrel
    have hlt' : (l.take n).length = n := by rw [List.length_take]; omega
    by_cases hlt : k < n
    rotate_left
    · obtain rfl : k = n := by omega
      have HV : Hid (RdInstrs (some (upFrom w.heap.size)) wr (.slice a1 k k1) (fewL l)) := by
        have e := cutK_end (l.take k)
        rw [hlt'] at e
        rw [hL.out, ← e]; exact hrd
      clear hrd
      go_wp2_with fail
      go_ret
      exact ⟨_, rfl, HV.out, hb⟩
    obtain ⟨x, hx⟩ : ∃ x, (l.take n)[k]? = some x := ⟨_, List.getElem?_eq_getElem (by omega)⟩
    have HX := Lib.hid hx
    have hLx := cutK_at _ _ _ hx
    have hLl : (cutK (l.take n) k).length = n := by rw [cutK_len]; exact hlt'
    have hstep := cutK_step _ _ _ hx
    obtain ⟨L, hLd⟩ : ∃ L, L = cutK (l.take n) k := ⟨_, rfl⟩
    rw [← hLd] at hrd hLx hLl hstep
    obtain ⟨a', c', e, hl2, hr2⟩ := id hrd
    simp only [Value.slice.injEq] at e
    obtain ⟨rfl, -, rfl⟩ := e
    obtain ⟨b, o, av, rfl, hfree, i0, i1, i2, i3, i4, i5, i6, hri⟩ := hr2 k x hLx
    obtain ⟨aa, ca, rfl, hal, _⟩ := id hri.1
    obtain ⟨m, hm⟩ : ∃ m : Nat, min x.args.length 34 = m := ⟨_, rfl⟩
    have hmin : ∀ w, (Builtin.min_ #[3, 3] 3 #[.int .i64 (x.args.length : Int), .int .i64 34]).run Tryd.prog w = .ok (.int .i64 (m : Int)) w := by
      have hz : (m : Int) = min (x.args.length : Int) 34 := by omega
      intro w
      rw [hz]
      exact run_min2 _ _ _ _ w
    have hmc : m ≤ ca := by omega
    have hma : m ≤ x.args.length := by omega
    have hcut := hri.1.cut (n := m) hma
    have htm : x.args.take m = x.args.take 34 := by rw [← hm]; exact take_min _ _
    have hfz := hfree.frozen (o + k * 7 + 4)
    have HRD : Hid (RdInstrs (some (upFrom w.heap.size)) wr (.slice (some ⟨b, o, none⟩) L.length k1) L) := by show RdInstrs _ _ _ _; rw [hLl]; exact hrd
    have HCT := Lib.hid hcut
    have HF := Lib.hid (And.intro i4 hfz)
    have HLX := Lib.hid (And.intro hLx (And.intro hLl (And.intro hstep htm)))
    have hklt : (k : Int) < (n : Int) := by omega
    have e4 := ext_cell i4
    have hge : w.heap.size ≤ b := (hfree _ rfl).1
    clear hrd hr2 i0 i1 i2 i3 i4 i5 i6 hri hcut hx hLx hLl hstep htm hm hal hfz hfree hl2
    go_upto_region 5 with fail
    (refine wp_region_calm_tail 17 (by kernel_rfl) (by kernel_rfl) ?_; simp only [List.take_succ_cons, List.take_zero, List.drop_succ_cons, List.drop_zero]; (repeat (go_big_quiet_step (fail))); refine wpQuiet_nil ?_; intro wc hwc)
    have j4 := cell_keep hwc HF.out.1
    have jf := free_keep hwc HF.out.1 HF.out.2
    clear e4 hmin
    go_wp2_with fail
    go_roundw
    case rel =>
      have hset := RdInstrs.setArgs (k := k) (HRD.out.keep hwc) HLX.out.1 (args := x.args.take 34) (av := .slice aa m ca) (by rw [← HLX.out.2.2.2]; exact HCT.out.keep hwc)
      rw [HLX.out.2.1] at hset
      refine ⟨k + 1, by omega, by go_num, ?_, (hb.trans (hwc.mono hb.size)).setCell (by simp only; omega) _⟩
      rw [← HLX.out.2.2.1]
      exact hset
    case measure => simp [intOf]; omega
end Go.Proofs.YtgcfdbhpophnjaaDoor
