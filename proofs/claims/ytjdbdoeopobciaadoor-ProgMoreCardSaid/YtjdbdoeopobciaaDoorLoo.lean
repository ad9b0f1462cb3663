/- Contracts of prog.calls, slices.IndexFunc at functions, (*checker).loops: does a function call itself, directly or through others. Conditions: the functions read; each function that is called is there. -/
import Derived.Test.YtjdbdoeopobciaaDoorTurn
import Derived.Test.YtjdbdoeopobciaaDoorRefA
import Derived.Deep.LoopGhost
set_option linter.unusedVariables false
set_option linter.unusedSimpArgs false
namespace Go.Proofs.YtjdbdoeopobciaaDoor
open Go.ChangeShapes Go.WideShapes Go.ChangeAt Go.RowKit
theorem callsOf_step (l : List InstrD) (x : InstrD) (k : Nat) (h : l[k]? = some x) : callsOf (l.take (k + 1)) = if x.kind == 4 then callsOf (l.take k) ++ [x.name] else callsOf (l.take k) := by
  rw [List.take_add_one, h]
  unfold callsOf
  cases h : x.kind == 4 <;> simp [h]
theorem callsOf_le (l : List InstrD) : (callsOf l).length ≤ l.length := by
  unfold callsOf; rw [List.length_map]; exact List.length_filter_le _ _
theorem many_new' (w : World) (A : Obj) (xs : List Value) (t : TypeId) : ∀ j u, xs[j]? = some u → ((w.alloc A).alloc (.cells xs.toArray t)).cell? ((⟨w.heap.size + 1, 0, none⟩ : Addr).add j) = some u := by
  have := many_new (w.alloc A) xs t
  have e : (w.alloc A).heap.size = w.heap.size + 1 := by
    show (w.heap.push _).size = _
    simp
  rw [e] at this
  exact this
set_option maxRecDepth 100000 in
set_option maxHeartbeats 3200000 in
theorem calls_any (cv : Value) (code : List InstrD) (w : World) (h : RdInstrs none w cv code) :
    Calls Tryd.prog 78 #[cv] w fun e w' => ∃ v, e = .returned v ∧ RdStrs (some (upFrom w.heap.size)) w' v (callsOf code) ∧ Below w.heap.size w w' := by
  obtain ⟨a, c, rfl, hl, hr⟩ := h
  obtain ⟨i0, hi, hz0, hz1, hz2⟩ := info_parts infoStr
  have hok : Hid (∀ s ∈ callsOf code, s.size ≤ maxLen) := by
    intro s hs
    obtain ⟨x, hx, rfl⟩ := List.mem_map.1 hs
    obtain ⟨i, hi⟩ := List.getElem?_of_mem (List.mem_filter.1 hx).1
    obtain ⟨b, o, av, _, _, _, _, _, _, _, _, _, hri⟩ := hr i x hi
    exact hri.2.2.2.2.2.2
  have HR := Lib.hid hr
  clear hr
  go_enter Tryd.func78, Tryd.ntmps78
  go_wp2
  go_loopw [3, 8] (fun v i wr => ∃ k : Nat, k ≤ code.length ∧ i = .int .i64 k ∧ wr.ownsRow w.heap.size 9 1 v (callsOf (code.take k)).length ((callsOf (code.take k)).flatMap strCells) ∧ Below w.heap.size w wr) (fun _ i _ => code.length - (intOf i).toNat)
  case atStart => exact ⟨0, Nat.zero_le _, rfl, World.ownsRow_nil _ _ _ _, Below.refl _ _⟩
  case round =>
    obtain ⟨k, hk, rfl, hown, hb⟩ := hrel
    by_cases hlt : k < code.length
    rotate_left
    · obtain rfl : k = code.length := by omega
      rw [List.take_length] at hown
      go_wp2
      go_ret
      exact ⟨_, rfl, own_strs hown (by have := callsOf_le code; omega) hok.out, hb⟩
    obtain ⟨x, hx⟩ : ∃ x, code[k]? = some x := ⟨_, List.getElem?_eq_getElem hlt⟩
    obtain ⟨b, o, av2, rfl, _, c0, c1, c2, c3, c4, c5, c6, hri⟩ := HR.out k x hx
    obtain ⟨aa, ca, rfl, _⟩ := id hri.1
    have d0 := cell_keepB hb c0 (block_lt_of_cell c0)
    have d1 := cell_keepB hb c1 (block_lt_of_cell c1)
    have d2 := cell_keepB hb c2 (block_lt_of_cell c2)
    have d3 := cell_keepB hb c3 (block_lt_of_cell c3)
    have d4 := cell_keepB hb c4 (block_lt_of_cell c4)
    have d5 := cell_keepB hb c5 (block_lt_of_cell c5)
    have d6 := cell_keepB hb c6 (block_lt_of_cell c6)
    have hst := callsOf_step code x k hx
    have hlt2 : (k : Int) < (code.length : Int) := by omega
    have hsz := hb.size
    have hle : (callsOf (code.take k)).length ≤ k := by have := callsOf_le (code.take k); rw [List.length_take] at this; omega
    clear c0 c1 c2 c3 c4 c5 c6 hri hx
    cases h4 : (x.kind == 4)
    · rw [h4, if_neg (by simp)] at hst
      have HS := Lib.hid hst
      clear hst
      go_wp2
      go_roundw
      case rel => exact ⟨k + 1, by omega, by go_num, by rw [HS.out]; exact hown.alloc _, hb.alloc hsz _⟩
      case measure => simp [intOf]; omega
    · rw [h4, if_pos rfl] at hst
      have HX : Hid ((callsOf (code.take (k + 1))).flatMap strCells = (callsOf (code.take k)).flatMap strCells ++ strCells x.name ∧ (callsOf (code.take (k + 1))).length = (callsOf (code.take k)).length + 1) := by
        rw [hst]; exact ⟨by simp, by simp⟩
      clear hst
      go_wp2_with (at_builtin; refine wpList_append_own _ rfl (.tmp 15) (.tmp 18) 22 rfl w.heap.size 9 i0 (.string ⟨#[]⟩) 1 16 Tryd.underlying22 hi hz0 hz1 hz2 rfl (by decide) _ _ _ rfl ((hown.alloc _).alloc _) ⟨wr.heap.size + 1, 0, none⟩ 1 1 (strCells x.name) rfl rfl (many_new' _ _ _ _) ?c2 ?c3 ?c4 ?c5 ?_)
      case c2 => intro u hu; simp [strCells] at hu; subst hu; rfl
      case c3 => unfold maxLen; omega
      case c4 => omega
      case c5 => simp; omega
      · intro v' w1 hown' hgrow _
        rw [← HX.out.1, ← HX.out.2] at hown'
        have hb1 := ((hb.alloc hsz (.cells #[.int .u8 x.kind, .int .u8 x.op, .string x.dst, .string x.name, .slice aa x.args.length ca, .int .i64 x.line, .int .i64 x.col] 43)).alloc (by simp; omega) (.cells (strCells x.name).toArray 9)).grown hgrow (by simp; omega) (own_row_le hown)
        clear hown
        go_wp2
        go_roundw
        case rel => exact ⟨k + 1, by omega, by go_num, hown', hb1⟩
        case measure => simp [intOf]; omega
set_option maxRecDepth 100000 in
theorem isNamed (x : FuncD) (pv cv : Value) (fb : Nat) (s : ByteArray) (w : World) (hc : w.cell? ⟨fb, 0, none⟩ = some (.string s)) (hpv : ∃ a n c, pv = .slice a n c) (hcv : ∃ a n c, cv = .slice a n c) :
    Calls Tryd.prog 77 #[funcV x pv cv, .pointer (some ⟨fb, 0, none⟩)] w fun e w' => e = .returned (.bool (x.name.toList == s.toList)) ∧ Below w.heap.size w w' := by
  obtain ⟨a1, n1, c1, rfl⟩ := hpv
  obtain ⟨a2, n2, c2, rfl⟩ := hcv
  go_enter Tryd.func77, Tryd.ntmps77
  go_upto_region 1 with fail
  have hb0 : Below w.heap.size w (w.alloc (.cells #[.string x.name, .slice a1 n1 c1, .slice a2 n2 c2, .int .i64 x.line, .int .i64 x.col] 52)) := (Below.refl _ _).alloc (Nat.le_refl _) _
  have G0 := heap_alloc_new w (.cells #[.string x.name, .slice a1 n1 c1, .slice a2 n2 c2, .int .i64 x.line, .int .i64 x.col] 52)
  generalize w.alloc (.cells #[.string x.name, .slice a1 n1 c1, .slice a2 n2 c2, .int .i64 x.line, .int .i64 x.col] 52) = W1 at *
  have i0 := row_of G0 0 (.string x.name) rfl
  have hc1 := cell_keep hb0 hc
  have HB := Lib.hid hb0
  clear G0 hb0 hc
  go_wp2
  go_ret
  exact ⟨rfl, HB.out⟩
set_option maxRecDepth 100000 in
set_option maxHeartbeats 1600000 in
theorem indexFunc (fv : Value) (fs : List FuncD) (fb : Nat) (s : ByteArray) (w : World) (h : RdFuncs none w fv fs) (hc : w.cell? ⟨fb, 0, none⟩ = some (.string s)) :
    Calls Tryd.prog 76 #[fv, .func (.func 77) #[] #[.pointer (some ⟨fb, 0, none⟩)]] w fun e w' => e = .returned (.int .i64 (findZ s fs)) ∧ Below w.heap.size w w' := by
  obtain ⟨a, c, rfl, hl, hr⟩ := h
  have HR := Lib.hid hr
  have HC := Lib.hid hc
  clear hr hc
  go_enter Tryd.func76, Tryd.ntmps76
  go_wp2
  go_loopw [8] (fun i wr => ∃ k : Nat, k ≤ fs.length ∧ i = .int .i64 k ∧ Hid (∀ (j : Nat) x, j < k → fs[j]? = some x → (x.name.toList == s.toList) = false) ∧ Below w.heap.size w wr) (fun i _ => fs.length - (intOf i).toNat)
  case atStart => exact ⟨0, Nat.zero_le _, rfl, (fun j x h => by omega), Below.refl _ _⟩
  case round =>
    obtain ⟨k, hk, rfl, hq, hb⟩ := hrel
    by_cases hlt : k < fs.length
    rotate_left
    · obtain rfl : k = fs.length := by omega
      have HV := Lib.hid (findZ_none (s := s) (l := fs) (fun j x h => hq.out j x (List.getElem?_eq_some_iff.1 h).1 h))
      go_wp2
      go_ret
      exact ⟨by rw [HV.out]; rfl, hb⟩
    obtain ⟨x, hx⟩ : ∃ x, fs[k]? = some x := ⟨_, List.getElem?_eq_getElem hlt⟩
    obtain ⟨b, o, pv2, cv2, rfl, _, c0, c1, c2, c3, c4, hf⟩ := HR.out k x hx
    obtain ⟨ap, kp, rfl, _⟩ := id hf.1
    obtain ⟨ac, kc, rfl, _⟩ := id hf.2.1
    have d0 := cell_keepB hb c0 (block_lt_of_cell c0)
    have d1 := cell_keepB hb c1 (block_lt_of_cell c1)
    have d2 := cell_keepB hb c2 (block_lt_of_cell c2)
    have d3 := cell_keepB hb c3 (block_lt_of_cell c3)
    have d4 := cell_keepB hb c4 (block_lt_of_cell c4)
    have HX := Lib.hid hx
    have hlt2 : (k : Int) < (fs.length : Int) := by omega
    have cl := isNamed x (.slice ap x.params.length kp) (.slice ac x.code.length kc) fb s wr (cell_keep hb HC.out) ⟨_, _, _, rfl⟩ ⟨_, _, _, rfl⟩
    clear hx c0 c1 c2 c3 c4 hf
    cases he : (x.name.toList == s.toList)
    · rw [he] at cl
      have HE := Lib.hid he
      have HCl := Lib.hid cl
      clear he cl
      go_wp2_with (go_at_call 77; refine HCl.out.mono ?_; rintro e w1 ⟨rfl, hb1⟩)
      have hb2 := bcomp hb hb1
      go_roundw
      case rel =>
        refine ⟨k + 1, by omega, by go_num, ?_, hb2⟩
        intro j y hj hy
        rcases Nat.lt_or_ge j k with h | h
        · exact hq.out j y h hy
        · obtain rfl : j = k := by omega
          rw [HX.out] at hy; cases hy; exact HE.out
      case measure => simp [intOf]; omega
    · have HV := Lib.hid (findZ_hit HX.out he hq.out)
      rw [he] at cl
      have HCl := Lib.hid cl
      clear he cl
      go_wp2_with (go_at_call 77; refine HCl.out.mono ?_; rintro e w1 ⟨rfl, hb1⟩)
      go_ret
      exact ⟨by rw [HV.out]; rfl, bcomp hb hb1⟩
end Go.Proofs.YtjdbdoeopobciaaDoor
