/- Contract of flat.Check: called in whatever memory in which the table of shapes reads as the program's text lays it, it returns what the plain function flatE says, and writes nothing that was there. Condition: what comes in reads as a flat program. -/
import Derived.Test.YtgcfdbhpophnjaaDoorMFl
set_option linter.unusedVariables false
set_option linter.unusedSimpArgs false
namespace Go.Proofs.YtgcfdbhpophnjaaDoor
open Go.ChangeShapes Go.WideShapes Go.ChangeAt Go.RowKit
theorem head_cases (f : FlatD) :
    (headOk f = false ∧ f.width < 1 ∧ decide (1 ≤ f.width) = false) ∨
    (headOk f = false ∧ 1 ≤ f.width ∧ 64 < f.width ∧ decide (f.width ≤ 64) = false) ∨
    (headOk f = false ∧ 1 ≤ f.width ∧ f.width ≤ 64 ∧ f.regs < 0 ∧ decide (0 ≤ f.regs) = false) ∨
    (headOk f = false ∧ 1 ≤ f.width ∧ f.width ≤ 64 ∧ 0 ≤ f.regs ∧ 2097152 < f.regs ∧ decide (f.regs ≤ 2097152) = false) ∨
    (headOk f = false ∧ 1 ≤ f.width ∧ f.width ≤ 64 ∧ 0 ≤ f.regs ∧ f.regs ≤ 2097152 ∧ namesOk f.chans = false) ∨
    (headOk f = false ∧ 1 ≤ f.width ∧ f.width ≤ 64 ∧ 0 ≤ f.regs ∧ f.regs ≤ 2097152 ∧ namesOk f.chans = true ∧ namesOk f.sites = false) ∨
    (headOk f = false ∧ 1 ≤ f.width ∧ f.width ≤ 64 ∧ 0 ≤ f.regs ∧ f.regs ≤ 2097152 ∧ namesOk f.chans = true ∧ namesOk f.sites = true ∧ 32 < f.arrays.length) ∨
    (headOk f = false ∧ 1 ≤ f.width ∧ f.width ≤ 64 ∧ 0 ≤ f.regs ∧ f.regs ≤ 2097152 ∧ namesOk f.chans = true ∧ namesOk f.sites = true ∧ f.arrays.length ≤ 32 ∧ f.code.length < 1) ∨
    (headOk f = false ∧ 1 ≤ f.width ∧ f.width ≤ 64 ∧ 0 ≤ f.regs ∧ f.regs ≤ 2097152 ∧ namesOk f.chans = true ∧ namesOk f.sites = true ∧ f.arrays.length ≤ 32 ∧ 1 ≤ f.code.length ∧ 4096 < f.code.length) ∨
    (headOk f = true ∧ 1 ≤ f.width ∧ f.width ≤ 64 ∧ 0 ≤ f.regs ∧ f.regs ≤ 2097152 ∧ namesOk f.chans = true ∧ namesOk f.sites = true ∧ f.arrays.length ≤ 32 ∧ 1 ≤ f.code.length ∧ f.code.length ≤ 4096) := by
  unfold headOk
  by_cases h1 : 1 ≤ f.width
  rotate_left
  · exact .inl ⟨by rw [decide_eq_false h1]; rfl, by omega, decide_eq_false h1⟩
  by_cases h2 : f.width ≤ 64
  rotate_left
  · exact .inr (.inl ⟨by rw [decide_eq_false h2]; simp, h1, by omega, decide_eq_false h2⟩)
  by_cases h3 : 0 ≤ f.regs
  rotate_left
  · exact .inr (.inr (.inl ⟨by rw [decide_eq_false h3]; simp, h1, h2, by omega, decide_eq_false h3⟩))
  by_cases h4 : f.regs ≤ 2097152
  rotate_left
  · exact .inr (.inr (.inr (.inl ⟨by rw [decide_eq_false h4]; simp, h1, h2, h3, by omega, decide_eq_false h4⟩)))
  cases h5 : namesOk f.chans
  · exact .inr (.inr (.inr (.inr (.inl ⟨by simp, h1, h2, h3, h4, rfl⟩))))
  cases h6 : namesOk f.sites
  · exact .inr (.inr (.inr (.inr (.inr (.inl ⟨by simp, h1, h2, h3, h4, rfl, rfl⟩)))))
  by_cases h7 : f.arrays.length ≤ 32
  rotate_left
  · exact .inr (.inr (.inr (.inr (.inr (.inr (.inl ⟨by rw [decide_eq_false h7]; simp, h1, h2, h3, h4, rfl, rfl, by omega⟩))))))
  by_cases h8 : 1 ≤ f.code.length
  rotate_left
  · exact .inr (.inr (.inr (.inr (.inr (.inr (.inr (.inl ⟨by rw [decide_eq_false h8]; simp, h1, h2, h3, h4, rfl, rfl, h7, by omega⟩)))))))
  by_cases h9 : f.code.length ≤ 4096
  rotate_left
  · exact .inr (.inr (.inr (.inr (.inr (.inr (.inr (.inr (.inl ⟨by rw [decide_eq_false h9]; simp, h1, h2, h3, h4, rfl, rfl, h7, h8, by omega⟩))))))))
  exact .inr (.inr (.inr (.inr (.inr (.inr (.inr (.inr (.inr ⟨by simp [h1, h2, h3, h4, h7, h8, h9], h1, h2, h3, h4, rfl, rfl, h7, h8, h9⟩))))))))
theorem flatE_head {f : FlatD} (h : headOk f = false) : flatE f = 2 := by unfold flatE flatOk; rw [h]; rfl
theorem all_take_step {α : Type} (p : α → Bool) (l : List α) (k : Nat) (x : α) (h : l[k]? = some x) : (l.take (k + 1)).all p = ((l.take k).all p && p x) := by
  rw [List.take_add_one, h, List.all_append]; simp
theorem all_missM {α : Type} (p : α → Bool) (l : List α) (k : Nat) (x : α) (h : l[k]? = some x) (hp : p x = false) : l.all p = false := by
  rw [List.all_eq_false]; exact ⟨x, List.mem_of_getElem? h, by rw [hp]; simp⟩
theorem flatE_arr {f : FlatD} (h : f.arrays.all arrOk = false) : flatE f = 2 := by unfold flatE flatOk; rw [h]; simp
theorem flatE_code {f : FlatD} (h : f.code.all (codeOk f) = false) : flatE f = 2 := by unfold flatE flatOk; rw [h]; simp
theorem flatE_last {f : FlatD} (h0 : headOk f = true) (h1 : f.arrays.all arrOk = true) (h2 : f.code.all (codeOk f) = true) : flatE f = if (lastK f == 9 || lastK f == 7) then 0 else 2 := by
  unfold flatE flatOk; rw [h0, h1, h2]; rfl
theorem arr_cases (n : Int) : (arrOk n = false ∧ n < 1 ∧ decide (n < 1) = true) ∨ (arrOk n = false ∧ 64 < n ∧ decide (n < 1) = false) ∨ (arrOk n = true ∧ 1 ≤ n ∧ n ≤ 64 ∧ decide (n < 1) = false) := by
  unfold arrOk
  rcases Int.lt_or_le n 1 with h | h
  · exact .inl ⟨by rw [decide_eq_false (by omega)]; rfl, h, decide_eq_true h⟩
  · rcases Int.lt_or_le 64 n with h' | h'
    · exact .inr (.inl ⟨by rw [decide_eq_false (p := n ≤ 64) (by omega), Bool.and_false], h', decide_eq_false (by omega)⟩)
    · exact .inr (.inr ⟨by rw [decide_eq_true h, decide_eq_true h']; rfl, h, h', decide_eq_false (by omega)⟩)
theorem last_at {f : FlatD} (h : 1 ≤ f.code.length) : ∃ c, f.code[f.code.length - 1]? = some c ∧ lastK f = c.kind := by
  refine ⟨_, List.getElem?_eq_getElem (by omega), ?_⟩
  unfold lastK
  rw [List.getLast?_eq_getElem?, List.getElem?_eq_getElem (by omega)]
set_option maxRecDepth 100000 in
set_option maxHeartbeats 6400000 in
theorem flatCheck (f : FlatD) (cv sv av kv : Value) (w : World) (hF : RdFlat none w f cv sv av kv) (hL : LaidM w) :
    Calls Tryd.prog 18 #[flatV f cv sv av kv] w fun e w' => e = .returned (.int .i64 (flatE f)) ∧ Below w.heap.size w w' := by
  obtain ⟨hF1, hF2, hF3, hF4, ⟨hF5, hF6⟩, ⟨hF7, hF8⟩⟩ := id hF
  obtain ⟨ca, cc, rfl⟩ := hF1.is
  obtain ⟨sa, sc, rfl⟩ := hF2.is
  obtain ⟨aa, ac, rfl⟩ := hF3.is
  obtain ⟨ka, kc, rfl⟩ := hF4.is
  have l3 := hF3.size
  have l4 := hF4.size
  have HF := Lib.hid hF
  have HL := Lib.hid hL
  have hb0 : Hid (Below w.heap.size w (w.alloc (.cells #[.int .i64 f.width, .int .i64 f.regs, .slice ca f.chans.length cc, .slice sa f.sites.length sc, .slice aa f.arrays.length ac, .slice ka f.code.length kc] 32))) := (Below.refl _ _).alloc (Nat.le_refl _) _
  have g0 := heap_alloc_new w (.cells #[.int .i64 f.width, .int .i64 f.regs, .slice ca f.chans.length cc, .slice sa f.sites.length sc, .slice aa f.arrays.length ac, .slice ka f.code.length kc] 32)
  have C1 := Lib.hid (fun w' (hb : Below w.heap.size w w') => flatNames _ f.chans w' (hF1.keep hb))
  have C2 := Lib.hid (fun w' (hb : Below w.heap.size w w') => flatNames _ f.sites w' (hF2.keep hb))
  clear hF hL hF1 hF2 hF3 hF4
  generalize hres : flatE f = res at *
  have HR := Lib.hid hres
  clear hres
  rcases head_cases f with ⟨q, h1, h2⟩ | ⟨q, h1, h2, h3⟩ | ⟨q, h1, h2, h3, h4⟩ | ⟨q, h1, h2, h3, h4, h5⟩ | ⟨q, h1, h2, h3, h4, h5⟩ | ⟨q, h1, h2, h3, h4, h5, h6⟩ | ⟨q, h1, h2, h3, h4, h5, h6, h7⟩ | ⟨q, h1, h2, h3, h4, h5, h6, h7, h8⟩ | ⟨q, h1, h2, h3, h4, h5, h6, h7, h8, h9⟩ | ⟨q, h1, h2, h3, h4, h5, h6, h7, h8, h9⟩
  all_goals
    go_enter Tryd.func18, Tryd.ntmps18
    go_upto_region 1 with fail
    have d0 := row_of g0 0 (.int .i64 f.width) rfl
    have d1 := row_of g0 1 (.int .i64 f.regs) rfl
    have d2 := row_of g0 2 (.slice ca f.chans.length cc) rfl
    have d3 := row_of g0 3 (.slice sa f.sites.length sc) rfl
    have d4 := row_of g0 4 (.slice aa f.arrays.length ac) rfl
    have d5 := row_of g0 5 (.slice ka f.code.length kc) rfl
    clear g0
    generalize (w.alloc (.cells #[.int .i64 f.width, .int .i64 f.regs, .slice ca f.chans.length cc, .slice sa f.sites.length sc, .slice aa f.arrays.length ac, .slice ka f.code.length kc] 32)) = W0 at *
  · have HV := Lib.hid (HR.out.symm.trans (flatE_head q))
    clear q
    go_wp2
    go_ret
    exact ⟨by rw [HV.out]; rfl, hb0.out⟩
  · have HV := Lib.hid (HR.out.symm.trans (flatE_head q))
    clear q
    go_wp2
    go_ret
    exact ⟨by rw [HV.out]; rfl, hb0.out⟩
  · have HV := Lib.hid (HR.out.symm.trans (flatE_head q))
    clear q
    go_wp2
    go_ret
    exact ⟨by rw [HV.out]; rfl, hb0.out⟩
  · have HV := Lib.hid (HR.out.symm.trans (flatE_head q))
    clear q
    go_wp2
    go_ret
    exact ⟨by rw [HV.out]; rfl, hb0.out⟩
  · have HV := Lib.hid (HR.out.symm.trans (flatE_head q))
    rw [h5] at C1
    clear q h5
    go_wp2_with (go_at_call 51; refine (C1.out _ hb0.out).mono ?_; rintro e w1 ⟨rfl, hb1⟩)
    go_ret
    exact ⟨by rw [HV.out]; rfl, bcomp hb0.out hb1⟩
  · have HV := Lib.hid (HR.out.symm.trans (flatE_head q))
    rw [h5] at C1
    rw [h6] at C2
    clear q h5 h6
    go_wp2_with (first
      | (go_at_call_of 51 (Value.slice ca f.chans.length cc); refine (C1.out _ hb0.out).mono ?_; rintro e w1 ⟨rfl, hb1⟩; have d3 := cell_keep hb1 d3)
      | (go_at_call_of 51 (Value.slice sa f.sites.length sc); refine (C2.out _ (bcomp hb0.out hb1)).mono ?_; rintro e w2 ⟨rfl, hb2⟩))
    go_ret
    exact ⟨by rw [HV.out]; rfl, bcomp (bcomp hb0.out hb1) hb2⟩
  · have HV := Lib.hid (HR.out.symm.trans (flatE_head q))
    rw [h5] at C1
    rw [h6] at C2
    clear q h5 h6
    have m1 : (32 : Int) < (f.arrays.length : Int) := by omega
    go_wp2_with (first
      | (go_at_call_of 51 (Value.slice ca f.chans.length cc); refine (C1.out _ hb0.out).mono ?_; rintro e w1 ⟨rfl, hb1⟩; have d2 := cell_keep hb1 d2; have d3 := cell_keep hb1 d3; have d4 := cell_keep hb1 d4; have d5 := cell_keep hb1 d5)
      | (go_at_call_of 51 (Value.slice sa f.sites.length sc); refine (C2.out _ (bcomp hb0.out hb1)).mono ?_; rintro e w2 ⟨rfl, hb2⟩; have d4 := cell_keep hb2 d4; have d5 := cell_keep hb2 d5))
    go_ret
    exact ⟨by rw [HV.out]; rfl, bcomp (bcomp hb0.out hb1) hb2⟩
  · have HV := Lib.hid (HR.out.symm.trans (flatE_head q))
    rw [h5] at C1
    rw [h6] at C2
    clear q h5 h6
    have m1 : (f.arrays.length : Int) ≤ 32 := by omega
    have m2 : (f.code.length : Int) < 1 := by omega
    have m3 : decide ((32 : Int) < (f.arrays.length : Int)) = false := decide_eq_false (by omega)
    go_wp2_with (first
      | (go_at_call_of 51 (Value.slice ca f.chans.length cc); refine (C1.out _ hb0.out).mono ?_; rintro e w1 ⟨rfl, hb1⟩; have d2 := cell_keep hb1 d2; have d3 := cell_keep hb1 d3; have d4 := cell_keep hb1 d4; have d5 := cell_keep hb1 d5)
      | (go_at_call_of 51 (Value.slice sa f.sites.length sc); refine (C2.out _ (bcomp hb0.out hb1)).mono ?_; rintro e w2 ⟨rfl, hb2⟩; have d4 := cell_keep hb2 d4; have d5 := cell_keep hb2 d5))
    go_ret
    exact ⟨by rw [HV.out]; rfl, bcomp (bcomp hb0.out hb1) hb2⟩
  · have HV := Lib.hid (HR.out.symm.trans (flatE_head q))
    rw [h5] at C1
    rw [h6] at C2
    clear q h5 h6
    have m1 : (f.arrays.length : Int) ≤ 32 := by omega
    have m2 : (1 : Int) ≤ (f.code.length : Int) := by omega
    have m4 : (4096 : Int) < (f.code.length : Int) := by omega
    have m3 : decide ((32 : Int) < (f.arrays.length : Int)) = false := decide_eq_false (by omega)
    have m5 : decide ((f.code.length : Int) < 1) = false := decide_eq_false (by omega)
    go_wp2_with (first
      | (go_at_call_of 51 (Value.slice ca f.chans.length cc); refine (C1.out _ hb0.out).mono ?_; rintro e w1 ⟨rfl, hb1⟩; have d2 := cell_keep hb1 d2; have d3 := cell_keep hb1 d3; have d4 := cell_keep hb1 d4; have d5 := cell_keep hb1 d5)
      | (go_at_call_of 51 (Value.slice sa f.sites.length sc); refine (C2.out _ (bcomp hb0.out hb1)).mono ?_; rintro e w2 ⟨rfl, hb2⟩; have d4 := cell_keep hb2 d4; have d5 := cell_keep hb2 d5))
    go_ret
    exact ⟨by rw [HV.out]; rfl, bcomp (bcomp hb0.out hb1) hb2⟩
  · rw [h5] at C1
    rw [h6] at C2
    clear h5 h6
    have m1 : (f.arrays.length : Int) ≤ 32 := by omega
    have m2 : (1 : Int) ≤ (f.code.length : Int) := by omega
    have m4 : (f.code.length : Int) ≤ 4096 := by omega
    have m3 : decide ((32 : Int) < (f.arrays.length : Int)) = false := decide_eq_false (by omega)
    have m5 : decide ((f.code.length : Int) < 1) = false := decide_eq_false (by omega)
    have m6 : decide ((4096 : Int) < (f.code.length : Int)) = false := decide_eq_false (by omega)
    have Q := Lib.hid q
    clear q
    go_wp2_with (first
      | (go_at_call_of 51 (Value.slice ca f.chans.length cc); refine (C1.out _ hb0.out).mono ?_; rintro e w1 ⟨rfl, hb1⟩; have d2 := cell_keep hb1 d2; have d3 := cell_keep hb1 d3; have d4 := cell_keep hb1 d4; have d5 := cell_keep hb1 d5)
      | (go_at_call_of 51 (Value.slice sa f.sites.length sc); refine (C2.out _ (bcomp hb0.out hb1)).mono ?_; rintro e w2 ⟨rfl, hb2⟩; have d0 := cell_keep hb2 (cell_keep hb1 d0); have d1 := cell_keep hb2 (cell_keep hb1 d1); have d2 := cell_keep hb2 d2; have d3 := cell_keep hb2 d3; have d4 := cell_keep hb2 d4; have d5 := cell_keep hb2 d5; have hw2 := Lib.hid (bcomp (bcomp hb0.out hb1) hb2)))
    go_loopw [5, 60] (fun _ i wr => ∃ k : Nat, k ≤ f.arrays.length ∧ i = .int .i64 k ∧ Hid ((f.arrays.take k).all arrOk = true) ∧ Below w2.heap.size w2 wr) (fun _ i _ => f.arrays.length - (intOf i).toNat)
    case atStart => exact ⟨0, Nat.zero_le _, rfl, rfl, Below.refl _ _⟩
    case round =>
      obtain ⟨k, hk, rfl, hq, hb⟩ := hrel
      by_cases hlt : k < f.arrays.length
      · obtain ⟨x, hx⟩ : ∃ x, f.arrays[k]? = some x := ⟨_, List.getElem?_eq_getElem hlt⟩
        obtain ⟨b, o, rfl, _, c0, hx1⟩ := atInt (HF.out.2.2.1.keep (bcomp hw2.out hb)) hx
        have HS := Lib.hid (all_take_step arrOk f.arrays k x hx)
        have HM := Lib.hid (fun h => HR.out.symm.trans (flatE_arr (all_missM arrOk f.arrays k x hx h)))
        have hi1 : (k : Int) < (f.arrays.length : Int) := by omega
        obtain ⟨hx0, hx2⟩ := hx1
        clear hx
        rcases arr_cases x with ⟨a1, a2, a3⟩ | ⟨a1, a2, a3⟩ | ⟨a1, a2, a3, a4⟩
        · have HV := Lib.hid (HM.out a1)
          clear a1
          go_wp2
          go_ret
          exact ⟨by rw [HV.out]; rfl, bcomp hw2.out hb⟩
        · have HV := Lib.hid (HM.out a1)
          clear a1
          go_wp2
          go_ret
          exact ⟨by rw [HV.out]; rfl, bcomp hw2.out hb⟩
        · have HN : Hid ((f.arrays.take (k + 1)).all arrOk = true) := by show _ = _; rw [HS.out, hq.out, a1]; rfl
          clear a1
          go_wp2
          go_roundw
          case rel => exact ⟨k + 1, by omega, by go_num, HN, hb⟩
          case measure => simp [intOf]; omega
      · obtain rfl : k = f.arrays.length := by omega
        have hq2 := Lib.hid (show f.arrays.all arrOk = true by have := hq.out; rwa [List.take_length] at this)
        have d0 := cell_keep hb d0
        have d1 := cell_keep hb d1
        have d2 := cell_keep hb d2
        have d3 := cell_keep hb d3
        have d4 := cell_keep hb d4
        have d5 := cell_keep hb d5
        have hw3 := Lib.hid (bcomp hw2.out hb)
        clear hb hq hlt
        obtain ⟨wo, rfl⟩ : ∃ x : World, x = wr := ⟨_, rfl⟩
        go_wp2
        go_loopw [7, 74] (fun _ i wr => ∃ k : Nat, k ≤ f.code.length ∧ i = .int .i64 k ∧ Hid ((f.code.take k).all (codeOk f) = true) ∧ Below wo.heap.size wo wr) (fun _ i _ => f.code.length - (intOf i).toNat)
        case atStart => exact ⟨0, Nat.zero_le _, rfl, rfl, Below.refl _ _⟩
        case round =>
          obtain ⟨k, hk, rfl, hq, hb⟩ := hrel
          have d0 := cell_keep hb d0
          have d1 := cell_keep hb d1
          have d2 := cell_keep hb d2
          have d3 := cell_keep hb d3
          have d4 := cell_keep hb d4
          have d5 := cell_keep hb d5
          have hwr := Lib.hid (bcomp hw3.out hb)
          by_cases hlt : k < f.code.length
          · obtain ⟨x, hx⟩ : ∃ x, f.code[k]? = some x := ⟨_, List.getElem?_eq_getElem hlt⟩
            have hRk := HF.out.2.2.2.1.keep hwr.out
            obtain ⟨b, o, rfl, _, c0, c1, c2, c3, c4, c5, c6, c7, hx1⟩ := atCode hRk hx
            have HC := Lib.hid (fun w' (hb' : Below wr.heap.size wr w') => flatInstr f x (.slice ca f.chans.length cc) (.slice sa f.sites.length sc) (.slice aa f.arrays.length ac) (.slice (some ⟨b, o, none⟩) f.code.length kc) w' (HF.out.keep (bcomp hwr.out hb')) h1 h2 hx1 (HL.out.keep (bcomp hwr.out hb')))
            have HS := Lib.hid (all_take_step (codeOk f) f.code k x hx)
            have HM := Lib.hid (fun h => HR.out.symm.trans (flatE_code (all_missM (codeOk f) f.code k x hx h)))
            have hi1 : (k : Int) < (f.code.length : Int) := by omega
            have hA : Below wr.heap.size wr (wr.alloc (.cells #[.int .u8 x.kind, .int .u8 x.op, .int .i64 x.dst, .int .i64 x.n, .int .i64 x.a.reg, .int .u64 x.a.num, .int .i64 x.b.reg, .int .u64 x.b.num] 48)) := (Below.refl _ _).alloc (Nat.le_refl _) _
            have HA := Lib.hid hA
            have hs1 : w.heap.size < wr.heap.size := block_lt_of_cell d0
            clear hx hRk hA hx1
            cases hok : codeOk f x
            · have HV := Lib.hid (HM.out hok)
              rw [hok] at HC
              clear hok
              go_wp2_with (go_at_call 52; refine (HC.out _ HA.out).mono ?_; rintro e w4 ⟨rfl, hb4⟩)
              go_ret
              exact ⟨by rw [HV.out]; rfl, bcomp (bcomp hwr.out HA.out) hb4⟩
            · have HN : Hid ((f.code.take (k + 1)).all (codeOk f) = true) := by show _ = _; rw [HS.out, hq.out, hok]; rfl
              rw [hok] at HC
              clear hok
              go_wp2_with (go_at_call 52; refine (HC.out _ HA.out).mono ?_; rintro e w4 ⟨rfl, hb4⟩)
              go_roundw
              case rel => exact ⟨k + 1, by omega, by go_num, HN, bcomp (bcomp hb HA.out) hb4⟩
              case measure => simp [intOf]; omega
          · obtain rfl : k = f.code.length := by omega
            have hq3 := show f.code.all (codeOk f) = true by have := hq.out; rwa [List.take_length] at this
            obtain ⟨x, hx, hlast⟩ := last_at h8
            have HE := Lib.hid (HR.out.symm.trans (flatE_last Q.out hq2.out hq3))
            have hRk := HF.out.2.2.2.1.keep hwr.out
            obtain ⟨b, o, rfl, _, c0, c1, c2, c3, c4, c5, c6, c7, hx1⟩ := atCode hRk hx
            have hi1 : ((f.code.length : Int) - 1) < (f.code.length : Int) := by omega
            have hi2 : ((f.code.length : Int) - 1).toNat = f.code.length - 1 := by omega
            clear hx hRk hx1 hq hq3 c1 c2 c3 c4 c5 c6 c7
            cases e9 : (x.kind == 9)
            · have n9 : (x.kind != 9) = true := by rw [bne, e9]; rfl
              cases e7 : (x.kind == 7)
              · have n7 : (x.kind != 7) = true := by rw [bne, e7]; rfl
                have HV : Hid (res = 2) := by show _ = _; rw [HE.out, hlast, e9, e7]; rfl
                clear hlast
                go_wp2
                go_ret
                exact ⟨by rw [HV.out]; rfl, hwr.out⟩
              · have n7 : (x.kind != 7) = false := by rw [bne, e7]; rfl
                have HV : Hid (res = 0) := by show _ = _; rw [HE.out, hlast, e9, e7]; rfl
                clear hlast
                go_wp2
                go_ret
                exact ⟨by rw [HV.out]; rfl, hwr.out⟩
            · have n9 : (x.kind != 9) = false := by rw [bne, e9]; rfl
              have HV : Hid (res = 0) := by show _ = _; rw [HE.out, hlast, e9]; rfl
              clear hlast
              go_wp2
              go_ret
              exact ⟨by rw [HV.out]; rfl, hwr.out⟩
end Go.Proofs.YtgcfdbhpophnjaaDoor
