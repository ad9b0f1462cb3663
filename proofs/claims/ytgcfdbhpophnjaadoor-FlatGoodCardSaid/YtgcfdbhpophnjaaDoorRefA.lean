/- Contracts of the reference's small functions on programs: Is, Find, Body, ArrayNames. Condition: what comes in reads as the list, the program. -/
import Derived.Test.YtgcfdbhpophnjaaDoorTurn
set_option linter.unusedVariables false
set_option linter.unusedSimpArgs false
namespace Go.Proofs.YtgcfdbhpophnjaaDoor
open Go.ChangeShapes Go.WideShapes Go.ChangeAt Go.RowKit
theorem bytes_toList (a : ByteArray) : a.toList = a.data.toList := ByteArray.toList_eq a
theorem beq_is (a b : ByteArray) : (a.toList == b.toList) = decide (a = b) := by
  by_cases h : a = b
  · subst h; simp
  · rw [decide_eq_false h]
    rw [beq_eq_false_iff_ne]
    exact fun e => h (toList_inj e)
theorem inL_hit {s x : ByteArray} {l : List ByteArray} {k : Nat} (h : l[k]? = some x) (e : (x.toList == s.toList) = true) : inL s l = true := by
  rw [beq_is] at e
  have := of_decide_eq_true e
  subst this
  exact inL_iff.2 (List.mem_of_getElem? h)
theorem inL_none {s : ByteArray} {l : List ByteArray} (h : ∀ (k : Nat) x, l[k]? = some x → (x.toList == s.toList) = false) : inL s l = false := by
  rw [inL_not]
  intro hm
  obtain ⟨k, hk⟩ := List.getElem?_of_mem hm
  have := h k s hk
  rw [beq_is] at this
  simp at this
set_option maxRecDepth 100000 in
set_option maxHeartbeats 1600000 in
theorem refIs (v : Value) (l : List ByteArray) (s : ByteArray) (w : World) (h : RdStrs none w v l) :
    Calls Tryd.prog 73 #[v, .string s] w fun e w' => e = .returned (.bool (inL s l)) ∧ w = w' := by
  obtain ⟨a, c, rfl, hl, hr⟩ := h
  have HR := Lib.hid hr
  clear hr
  go_enter Tryd.func73, Tryd.ntmps73
  go_wp2
  go_loop [5] (fun i => ∃ k : Nat, k ≤ l.length ∧ i = .int .i64 k ∧ Hid (∀ (j : Nat) x, j < k → l[j]? = some x → (x.toList == s.toList) = false)) (fun i => l.length - (intOf i).toNat)
  case atStart => exact ⟨0, Nat.zero_le _, rfl, fun j x h => by omega⟩
  case round =>
    obtain ⟨k, hk, rfl, hq⟩ := hrel
    by_cases hlt : k < l.length
    · obtain ⟨x, hx⟩ : ∃ x, l[k]? = some x := ⟨_, List.getElem?_eq_getElem hlt⟩
      obtain ⟨b, o, rfl, _, c0, _⟩ := HR.out k x hx
      have HX := Lib.hid hx
      have hlt2 : (k : Int) < (l.length : Int) := by omega
      clear hx
      cases he : (x.toList == s.toList)
      · have HE := Lib.hid he
        go_wp2
        go_round
        case rel =>
          refine ⟨k + 1, by omega, by go_num, fun j y hj hy => ?_⟩
          rcases Nat.lt_or_ge j k with h | h
          · exact hq.out j y h hy
          · obtain rfl : j = k := by omega
            rw [HX.out] at hy; cases hy; exact HE.out
        case measure => simp [intOf]; omega
      · have HV := Lib.hid (inL_hit HX.out he)
        go_wp2
        go_ret
        exact ⟨by rw [HV.out]; rfl, rfl⟩
    · obtain rfl : k = l.length := by omega
      have HV := Lib.hid (inL_none (s := s) (l := l) (fun j x h => hq.out j x (List.getElem?_eq_some_iff.1 h).1 h))
      go_wp2
      go_ret
      exact ⟨by rw [HV.out]; rfl, rfl⟩
def findZ (s : ByteArray) (l : List FuncD) : Int := match l.findIdx? (fun f => decide (f.name = s)) with | some i => (i : Int) | none => -1
theorem findZ_hit {s : ByteArray} {l : List FuncD} {k : Nat} {x : FuncD} (h : l[k]? = some x) (e : (x.name.toList == s.toList) = true) (hq : ∀ (j : Nat) y, j < k → l[j]? = some y → (y.name.toList == s.toList) = false) : findZ s l = k := by
  unfold findZ
  have : l.findIdx? (fun f => decide (f.name = s)) = some k := by
    rw [List.findIdx?_eq_some_iff_getElem]
    have hk := (List.getElem?_eq_some_iff.1 h).1
    refine ⟨hk, ?_, fun j hj => ?_⟩
    · rw [(List.getElem?_eq_some_iff.1 h).2]; rw [beq_is] at e; exact e
    · have := hq j _ hj (List.getElem?_eq_getElem (by omega))
      rw [beq_is] at this
      simpa using this
  rw [this]
theorem findZ_none {s : ByteArray} {l : List FuncD} (hq : ∀ (j : Nat) y, l[j]? = some y → (y.name.toList == s.toList) = false) : findZ s l = -1 := by
  unfold findZ
  have : l.findIdx? (fun f => decide (f.name = s)) = none := by
    rw [List.findIdx?_eq_none_iff]
    intro x hx
    obtain ⟨j, hj⟩ := List.getElem?_of_mem hx
    have := hq j x hj
    rw [beq_is] at this
    simpa using this
  rw [this]
set_option maxRecDepth 100000 in
set_option maxHeartbeats 1600000 in
theorem refFind (p : ProgD) (cv av fv mv : Value) (s : ByteArray) (w : World) (h : RdFuncs none w fv p.funcs) :
    Calls Tryd.prog 101 #[progV p cv av fv mv, .string s] w fun e w' => e = .returned (.int .i64 (findZ s p.funcs)) ∧ Below w.heap.size w w' := by
  obtain ⟨a, c, rfl, hl, hr⟩ := h
  have HR := Lib.hid hr
  clear hr
  go_enter Tryd.func101, Tryd.ntmps101
  go_upto_region 1 with fail
  have hb0 : Below w.heap.size w (w.alloc (.cells #[.int .i64 p.width, cv, av, .slice a p.funcs.length c, mv] 27)) := (Below.refl _ _).alloc (Nat.le_refl _) _
  have G0 := heap_alloc_new w (.cells #[.int .i64 p.width, cv, av, .slice a p.funcs.length c, mv] 27)
  generalize w.alloc (.cells #[.int .i64 p.width, cv, av, .slice a p.funcs.length c, mv] 27) = W1 at *
  have i3 := row_of G0 3 (.slice a p.funcs.length c) rfl
  have HB := Lib.hid hb0
  clear G0 hb0
  go_wp2
  go_loop [5] (fun i => ∃ k : Nat, k ≤ p.funcs.length ∧ i = .int .i64 k ∧ Hid (∀ (j : Nat) x, j < k → p.funcs[j]? = some x → (x.name.toList == s.toList) = false)) (fun i => p.funcs.length - (intOf i).toNat)
  case atStart => exact ⟨0, Nat.zero_le _, rfl, fun j x h => by omega⟩
  case round =>
    obtain ⟨k, hk, rfl, hq⟩ := hrel
    by_cases hlt : k < p.funcs.length
    · obtain ⟨x, hx⟩ : ∃ x, p.funcs[k]? = some x := ⟨_, List.getElem?_eq_getElem hlt⟩
      obtain ⟨b, o, pv2, cv2, rfl, _, c0, _⟩ := HR.out k x hx
      have d0 := cell_keep HB.out c0
      have HX := Lib.hid hx
      have hlt2 : (k : Int) < (p.funcs.length : Int) := by omega
      clear hx c0
      cases he : (x.name.toList == s.toList)
      · have HE := Lib.hid he
        go_wp2
        go_round
        case rel =>
          refine ⟨k + 1, by omega, by go_num, fun j y hj hy => ?_⟩
          rcases Nat.lt_or_ge j k with h | h
          · exact hq.out j y h hy
          · obtain rfl : j = k := by omega
            rw [HX.out] at hy; cases hy; exact HE.out
        case measure => simp [intOf]; omega
      · have HV := Lib.hid (findZ_hit HX.out he hq.out)
        go_wp2
        go_ret
        exact ⟨by rw [HV.out]; rfl, HB.out⟩
    · obtain rfl : k = p.funcs.length := by omega
      have HV := Lib.hid (findZ_none (s := s) (l := p.funcs) (fun j x h => hq.out j x (List.getElem?_eq_some_iff.1 h).1 h))
      go_wp2
      go_ret
      exact ⟨by rw [HV.out]; rfl, HB.out⟩
/-- The instructions of the i-th function, or, behind the last one, of main. -/
def codeAt (p : ProgD) (i : Nat) : List InstrD := match p.funcs[i]? with | some f => f.code | none => p.main
set_option maxRecDepth 100000 in
set_option maxHeartbeats 1600000 in
theorem refBody (p : ProgD) (cv av fv mv : Value) (i : Nat) (w : World) (h : RdProg none w p cv av fv mv) (hi : i ≤ p.funcs.length) :
    Calls Tryd.prog 72 #[progV p cv av fv mv, .int .i64 i] w fun e w' => ∃ v, e = .returned v ∧ RdInstrs none w v (codeAt p i) ∧ Below w.heap.size w w' := by
  obtain ⟨_, _, h3, h4, _⟩ := h
  obtain ⟨a, c, rfl, hl, hr⟩ := h3
  have HR := Lib.hid hr
  have H4 := Lib.hid h4
  obtain ⟨a4, c4, rfl, _⟩ := id h4
  clear hr h4
  by_cases hlt : i < p.funcs.length
  · obtain ⟨x, hx⟩ : ∃ x, p.funcs[i]? = some x := ⟨_, List.getElem?_eq_getElem hlt⟩
    obtain ⟨b, o, pv2, cv2, rfl, _, c0, c1, c2, _, _, hf⟩ := HR.out i x hx
    have HV : Hid (RdInstrs none w cv2 (codeAt p i)) := by show RdInstrs _ _ _ _; unfold codeAt; rw [hx]; exact hf.2.1
    obtain ⟨a5, c5, rfl, _⟩ := id hf.2.1
    have hlt2 : (i : Int) < (p.funcs.length : Int) := by omega
    clear hx c0 c1 hf
    go_enter Tryd.func72, Tryd.ntmps72
    go_upto_region 1 with fail
    have hb0 : Below w.heap.size w (w.alloc (.cells #[.int .i64 p.width, cv, av, .slice (some ⟨b, o, none⟩) p.funcs.length c, .slice a4 p.main.length c4] 27)) := (Below.refl _ _).alloc (Nat.le_refl _) _
    have G0 := heap_alloc_new w (.cells #[.int .i64 p.width, cv, av, .slice (some ⟨b, o, none⟩) p.funcs.length c, .slice a4 p.main.length c4] 27)
    generalize w.alloc (.cells #[.int .i64 p.width, cv, av, .slice (some ⟨b, o, none⟩) p.funcs.length c, .slice a4 p.main.length c4] 27) = W1 at *
    have i3 := row_of G0 3 (.slice (some ⟨b, o, none⟩) p.funcs.length c) rfl
    have d2 := cell_keep hb0 c2
    have HB := Lib.hid hb0
    clear G0 hb0 c2
    go_wp2
    go_ret
    exact ⟨_, rfl, HV.out, HB.out⟩
  · obtain rfl : i = p.funcs.length := by omega
    have HV : Hid (RdInstrs none w (.slice a4 p.main.length c4) (codeAt p p.funcs.length)) := by show RdInstrs _ _ _ _; unfold codeAt; rw [List.getElem?_eq_none (Nat.le_refl _)]; exact H4.out
    go_enter Tryd.func72, Tryd.ntmps72
    go_upto_region 1 with fail
    have hb0 : Below w.heap.size w (w.alloc (.cells #[.int .i64 p.width, cv, av, .slice a p.funcs.length c, .slice a4 p.main.length c4] 27)) := (Below.refl _ _).alloc (Nat.le_refl _) _
    have G0 := heap_alloc_new w (.cells #[.int .i64 p.width, cv, av, .slice a p.funcs.length c, .slice a4 p.main.length c4] 27)
    generalize w.alloc (.cells #[.int .i64 p.width, cv, av, .slice a p.funcs.length c, .slice a4 p.main.length c4] 27) = W1 at *
    have i3 := row_of G0 3 (.slice a p.funcs.length c) rfl
    have i4 := row_of G0 4 (.slice a4 p.main.length c4) rfl
    have HB := Lib.hid hb0
    clear G0 hb0
    go_wp2
    go_ret
    exact ⟨_, rfl, HV.out, HB.out⟩
set_option maxRecDepth 100000 in
set_option maxHeartbeats 1600000 in
theorem refArrayNames (p : ProgD) (cv av fv mv : Value) (w : World) (h : RdArrs none w av p.arrays) :
    Calls Tryd.prog 69 #[progV p cv av fv mv] w fun e w' => ∃ v, e = .returned v ∧ RdStrs (some (upFrom w.heap.size)) w' v (aNames p.arrays) ∧ Below w.heap.size w w' := by
  obtain ⟨a, c, rfl, hl, hr⟩ := h
  obtain ⟨i0, hi, hz0, hz1, hz2⟩ := info_parts infoStr
  have hok : Hid (∀ s ∈ aNames p.arrays, s.size ≤ maxLen) := by
    intro s hs
    obtain ⟨x, hx, rfl⟩ := List.mem_map.1 hs
    obtain ⟨i, hi⟩ := List.getElem?_of_mem hx
    obtain ⟨b, o, _, _, _, _, _, h1⟩ := hr i x hi
    exact h1
  have HR := Lib.hid hr
  clear hr
  go_enter Tryd.func69, Tryd.ntmps69
  go_upto_region 1 with fail
  have hb0 : Below w.heap.size w (w.alloc (.cells #[.int .i64 p.width, cv, .slice a p.arrays.length c, fv, mv] 27)) := (Below.refl _ _).alloc (Nat.le_refl _) _
  have G0 := heap_alloc_new w (.cells #[.int .i64 p.width, cv, .slice a p.arrays.length c, fv, mv] 27)
  generalize w.alloc (.cells #[.int .i64 p.width, cv, .slice a p.arrays.length c, fv, mv] 27) = W1 at *
  have i2 := row_of G0 2 (.slice a p.arrays.length c) rfl
  have HB := Lib.hid hb0
  have hsz0 : w.heap.size < W1.heap.size := (Array.getElem?_eq_some_iff.1 G0).1
  clear G0 hb0
  go_wp2
  go_loopw [3, 4] (fun v i wr => ∃ k : Nat, k ≤ p.arrays.length ∧ i = .int .i64 k ∧ wr.ownsRow W1.heap.size 9 1 v k ((aNames (p.arrays.take k)).flatMap strCells) ∧ Below W1.heap.size W1 wr) (fun _ i _ => p.arrays.length - (intOf i).toNat)
  case atStart => exact ⟨0, Nat.zero_le _, rfl, World.ownsRow_nil _ _ _ _, Below.refl _ _⟩
  case round =>
    obtain ⟨k, hk, rfl, hown, hb⟩ := hrel
    have j2 := cell_keep hb i2
    by_cases hlt : k < p.arrays.length
    · obtain ⟨x, hx⟩ : ∃ x, p.arrays[k]? = some x := ⟨_, List.getElem?_eq_getElem hlt⟩
      obtain ⟨b, o, rfl, _, c0, _⟩ := HR.out k x hx
      have c0' := cell_keep (bcomp HB.out hb) c0
      have HX : Hid ((aNames (p.arrays.take (k + 1))).flatMap strCells = (aNames (p.arrays.take k)).flatMap strCells ++ strCells x.name) := by
        show _ = _
        rw [List.take_add_one, hx]; simp [aNames]
      clear c0 hx
      have hsz := hb.size
      have hlt2 : (k : Int) < (p.arrays.length : Int) := by omega
      go_wp2_with (at_builtin; refine wpList_append_own _ rfl (.tmp 12) (.tmp 19) 22 rfl W1.heap.size 9 i0 (.string ⟨#[]⟩) 1 16 Tryd.underlying22 hi hz0 hz1 hz2 rfl (by decide) _ _ _ rfl (hown.alloc _) ⟨wr.heap.size, 0, none⟩ 1 1 (strCells x.name) rfl rfl (many_new _ _ _) ?c2 ?c3 ?c4 ?c5 ?_)
      case c2 => intro u hu; simp [strCells] at hu; subst hu; rfl
      case c3 => unfold maxLen; omega
      case c4 => omega
      case c5 => simp; omega
      · intro v' w1 hown' hgrow _
        rw [← HX.out] at hown'
        have hb1 := (hb.alloc hb.size (.cells (strCells x.name).toArray 9)).grown hgrow (by simp; omega) (own_row_le hown)
        clear hown
        go_wp2
        go_roundw
        case rel => exact ⟨k + 1, by omega, by go_num, hown', hb1⟩
        case measure => simp [intOf]; omega
    · obtain rfl : k = p.arrays.length := by omega
      rw [List.take_length] at hown
      go_wp2
      go_ret
      have e : (aNames p.arrays).length = p.arrays.length := by simp [aNames]
      rw [← e] at hown
      exact ⟨_, rfl, (own_strs hown (by omega) hok.out).up (by omega), bcomp HB.out hb⟩
end Go.Proofs.YtgcfdbhpophnjaaDoor
