/- Contract of the reference's Check of flat programs: called in whatever memory it returns what the plain function flatE says, and writes nothing that was there. Condition: what comes in reads as a flat program. -/
import Derived.Test.YtgllkgedjplpdaaDoorMRf
set_option linter.unusedVariables false
set_option linter.unusedSimpArgs false
namespace Go.Proofs.YtgllkgedjplpdaaDoor
open Go.ChangeShapes Go.WideShapes Go.ChangeAt Go.RowKit
theorem codeOk_ref (f : FlatD) (c : CodeD) (h0 : 0 ≤ c.kind) : codeOk f c = (isK c.kind c.op && (c.kind == 1 || c.op == 0) && (if dstK c.kind then decide (0 ≤ c.dst) && decide (c.dst < f.regs) else c.dst == 0) && (if nK c.kind then decide (0 ≤ c.n) && decide (c.n < mostR f c.kind) else c.n == 0) && refOk f c.a (aK c.kind) && refOk f c.b (bR c.kind c.op)) := by
  obtain ⟨k, op, dst, n, a, b⟩ := c
  simp only at h0 ⊢
  unfold codeOk isK
  simp only
  rcases Int.lt_or_le 9 k with h9 | h9
  · rw [decide_eq_false (p := k ≤ 9) (by omega)]; simp
  · rw [decide_eq_true h9]
    have hn : (decide (0 ≤ n) && decide (n < mostF f k)) = (if nK k then decide (0 ≤ n) && decide (n < mostR f k) else n == 0) := by
      unfold mostR
      cases hk : nK k
      · have hm : mostF f k = 1 := by
          have : k = 0 ∨ k = 1 ∨ k = 9 := by
            unfold nK at hk
            rw [Bool.and_eq_false_iff, decide_eq_false_iff_not, decide_eq_false_iff_not] at hk
            omega
          rcases this with rfl | rfl | rfl <;> rfl
        rw [hm, if_neg (by simp)]
        by_cases hz : n = 0
        · subst hz; rfl
        · rw [show (n == 0) = false from by rw [beq_eq_false_iff_ne]; exact hz, Bool.and_eq_false_iff, decide_eq_false_iff_not, decide_eq_false_iff_not]; omega
      · rw [if_pos rfl, if_pos rfl]
    rw [← hn]
    by_cases h1 : k = 1
    · subst h1
      rw [if_pos (show ((1 : Int) == 1) = true from rfl)]
      by_cases ho : 2 ≤ op ∧ op ≤ 20
      · have hb : bK 1 op = bR 1 op := by
          rcases op_casesM op with ⟨_, h, _⟩ | ⟨_, h, _⟩ | ⟨_, _, _, _, h⟩
          · omega
          · omega
          · rw [h 1 rfl]; rfl
        rw [hb, decide_eq_true ho.1, decide_eq_true ho.2]; generalize (decide (0 ≤ n) && decide (n < mostF f 1)) = N; generalize (if dstK 1 = true then decide (0 ≤ dst) && decide (dst < f.regs) else dst == 0) = D; generalize refOk f a _ = A; generalize refOk f b _ = B; cases N <;> cases D <;> cases A <;> cases B <;> rfl
      · have : (decide (2 ≤ op) && decide (op ≤ 20)) = false := by rw [Bool.and_eq_false_iff, decide_eq_false_iff_not, decide_eq_false_iff_not]; omega
        rw [this]; simp
    · have e1 : (k == 1) = false := by rw [beq_eq_false_iff_ne]; exact h1
      have hb : bK k op = bR k op := by unfold bK bR; rw [e1]; rfl
      rw [hb, bne, e1, if_neg (by simp)]; generalize (decide (0 ≤ n) && decide (n < mostF f k)) = N; generalize (if dstK k = true then decide (0 ≤ dst) && decide (dst < f.regs) else dst == 0) = D; generalize refOk f a _ = A; generalize refOk f b _ = B; generalize (op == 0) = O; cases O <;> cases N <;> cases D <;> cases A <;> cases B <;> rfl
set_option maxRecDepth 100000 in
set_option maxHeartbeats 6400000 in
theorem refCheckM (f : FlatD) (cv sv av kv : Value) (w : World) (hF : RdFlat none w f cv sv av kv) :
    Calls Tryd.prog 27 #[flatV f cv sv av kv] w fun e w' => e = .returned (.int .i64 (flatE f)) ∧ Below w.heap.size w w' := by
  obtain ⟨hF1, hF2, hF3, hF4, ⟨hF5, hF6⟩, ⟨hF7, hF8⟩⟩ := id hF
  obtain ⟨ca, cc, rfl⟩ := hF1.is
  obtain ⟨sa, sc, rfl⟩ := hF2.is
  obtain ⟨aa, ac, rfl⟩ := hF3.is
  obtain ⟨ka, kc, rfl⟩ := hF4.is
  have l3 := hF3.size
  have l4 := hF4.size
  have HF := Lib.hid hF
  have hb0 : Hid (Below w.heap.size w (w.alloc (.cells #[.int .i64 f.width, .int .i64 f.regs, .slice ca f.chans.length cc, .slice sa f.sites.length sc, .slice aa f.arrays.length ac, .slice ka f.code.length kc] 26))) := (Below.refl _ _).alloc (Nat.le_refl _) _
  have g0 := heap_alloc_new w (.cells #[.int .i64 f.width, .int .i64 f.regs, .slice ca f.chans.length cc, .slice sa f.sites.length sc, .slice aa f.arrays.length ac, .slice ka f.code.length kc] 26)
  have C1 := Lib.hid (fun w' (hb : Below w.heap.size w w') => refNames25 _ f.chans w' (hF1.keep hb))
  have C2 := Lib.hid (fun w' (hb : Below w.heap.size w w') => refNames25 _ f.sites w' (hF2.keep hb))
  clear hF hF1 hF2 hF3 hF4
  generalize hres : flatE f = res at *
  have HR := Lib.hid hres
  clear hres
  rcases head_cases f with ⟨q, h1, h2⟩ | ⟨q, h1, h2, h3⟩ | ⟨q, h1, h2, h3, h4⟩ | ⟨q, h1, h2, h3, h4, h5⟩ | ⟨q, h1, h2, h3, h4, h5⟩ | ⟨q, h1, h2, h3, h4, h5, h6⟩ | ⟨q, h1, h2, h3, h4, h5, h6, h7⟩ | ⟨q, h1, h2, h3, h4, h5, h6, h7, h8⟩ | ⟨q, h1, h2, h3, h4, h5, h6, h7, h8, h9⟩ | ⟨q, h1, h2, h3, h4, h5, h6, h7, h8, h9⟩
  all_goals
    first | (have y1 : decide (f.width < 1) = false := decide_eq_false (by omega)) | skip
    first | (have y2 : decide (64 < f.width) = false := decide_eq_false (by omega)) | skip
    first | (have y3 : decide (f.regs < 0) = false := decide_eq_false (by omega)) | skip
    first | (have y4 : decide (2097152 < f.regs) = false := decide_eq_false (by omega)) | skip
    go_enter Tryd.func27, Tryd.ntmps27
    go_upto_region 1 with fail
    have d0 := row_of g0 0 (.int .i64 f.width) rfl
    have d1 := row_of g0 1 (.int .i64 f.regs) rfl
    have d2 := row_of g0 2 (.slice ca f.chans.length cc) rfl
    have d3 := row_of g0 3 (.slice sa f.sites.length sc) rfl
    have d4 := row_of g0 4 (.slice aa f.arrays.length ac) rfl
    have d5 := row_of g0 5 (.slice ka f.code.length kc) rfl
    clear g0
    generalize (w.alloc (.cells #[.int .i64 f.width, .int .i64 f.regs, .slice ca f.chans.length cc, .slice sa f.sites.length sc, .slice aa f.arrays.length ac, .slice ka f.code.length kc] 26)) = W0 at *
  · have HV := Lib.hid (HR.out.symm.trans (flatE_head q))
    clear q
    go_wp2
    go_ret
    exact ⟨by rw [HV.out]; rfl, hb0.out⟩
  · have HV := Lib.hid (HR.out.symm.trans (flatE_head q))
    clear q
    go_wp2
    go_ret
    exact ⟨by rw [HV.out]; rfl, hb0.out⟩
  · have HV := Lib.hid (HR.out.symm.trans (flatE_head q))
    clear q
    go_wp2
    go_ret
    exact ⟨by rw [HV.out]; rfl, hb0.out⟩
  · have HV := Lib.hid (HR.out.symm.trans (flatE_head q))
    clear q
    go_wp2
    go_ret
    exact ⟨by rw [HV.out]; rfl, hb0.out⟩
  · have HV := Lib.hid (HR.out.symm.trans (flatE_head q))
    rw [h5] at C1
    clear q h5
    go_wp2_with (go_at_call 56; refine (C1.out _ hb0.out).mono ?_; rintro e w1 ⟨rfl, hb1⟩)
    go_ret
    exact ⟨by rw [HV.out]; rfl, bcomp hb0.out hb1⟩
  · have HV := Lib.hid (HR.out.symm.trans (flatE_head q))
    rw [h5] at C1
    rw [h6] at C2
    clear q h5 h6
    go_wp2_with (first
      | (go_at_call_of 56 (Value.slice ca f.chans.length cc); refine (C1.out _ hb0.out).mono ?_; rintro e w1 ⟨rfl, hb1⟩; have d3 := cell_keep hb1 d3)
      | (go_at_call_of 56 (Value.slice sa f.sites.length sc); refine (C2.out _ (bcomp hb0.out hb1)).mono ?_; rintro e w2 ⟨rfl, hb2⟩))
    go_ret
    exact ⟨by rw [HV.out]; rfl, bcomp (bcomp hb0.out hb1) hb2⟩
  · have HV := Lib.hid (HR.out.symm.trans (flatE_head q))
    rw [h5] at C1
    rw [h6] at C2
    clear q h5 h6
    have m1 : (32 : Int) < (f.arrays.length : Int) := by omega
    go_wp2_with (first
      | (go_at_call_of 56 (Value.slice ca f.chans.length cc); refine (C1.out _ hb0.out).mono ?_; rintro e w1 ⟨rfl, hb1⟩; have d2 := cell_keep hb1 d2; have d3 := cell_keep hb1 d3; have d4 := cell_keep hb1 d4; have d5 := cell_keep hb1 d5)
      | (go_at_call_of 56 (Value.slice sa f.sites.length sc); refine (C2.out _ (bcomp hb0.out hb1)).mono ?_; rintro e w2 ⟨rfl, hb2⟩; have d4 := cell_keep hb2 d4; have d5 := cell_keep hb2 d5))
    go_ret
    exact ⟨by rw [HV.out]; rfl, bcomp (bcomp hb0.out hb1) hb2⟩
  · have HV := Lib.hid (HR.out.symm.trans (flatE_head q))
    rw [h5] at C1
    rw [h6] at C2
    clear q h5 h6
    have m1 : (f.arrays.length : Int) ≤ 32 := by omega
    have m2 : (f.code.length : Int) < 1 := by omega
    have m3 : decide ((32 : Int) < (f.arrays.length : Int)) = false := decide_eq_false (by omega)
    go_wp2_with (first
      | (go_at_call_of 56 (Value.slice ca f.chans.length cc); refine (C1.out _ hb0.out).mono ?_; rintro e w1 ⟨rfl, hb1⟩; have d2 := cell_keep hb1 d2; have d3 := cell_keep hb1 d3; have d4 := cell_keep hb1 d4; have d5 := cell_keep hb1 d5)
      | (go_at_call_of 56 (Value.slice sa f.sites.length sc); refine (C2.out _ (bcomp hb0.out hb1)).mono ?_; rintro e w2 ⟨rfl, hb2⟩; have d4 := cell_keep hb2 d4; have d5 := cell_keep hb2 d5))
    go_ret
    exact ⟨by rw [HV.out]; rfl, bcomp (bcomp hb0.out hb1) hb2⟩
  · have HV := Lib.hid (HR.out.symm.trans (flatE_head q))
    rw [h5] at C1
    rw [h6] at C2
    clear q h5 h6
    have m1 : (f.arrays.length : Int) ≤ 32 := by omega
    have m2 : (1 : Int) ≤ (f.code.length : Int) := by omega
    have m4 : (4096 : Int) < (f.code.length : Int) := by omega
    have m3 : decide ((32 : Int) < (f.arrays.length : Int)) = false := decide_eq_false (by omega)
    have m5 : decide ((f.code.length : Int) < 1) = false := decide_eq_false (by omega)
    go_wp2_with (first
      | (go_at_call_of 56 (Value.slice ca f.chans.length cc); refine (C1.out _ hb0.out).mono ?_; rintro e w1 ⟨rfl, hb1⟩; have d2 := cell_keep hb1 d2; have d3 := cell_keep hb1 d3; have d4 := cell_keep hb1 d4; have d5 := cell_keep hb1 d5)
      | (go_at_call_of 56 (Value.slice sa f.sites.length sc); refine (C2.out _ (bcomp hb0.out hb1)).mono ?_; rintro e w2 ⟨rfl, hb2⟩; have d4 := cell_keep hb2 d4; have d5 := cell_keep hb2 d5))
    go_ret
    exact ⟨by rw [HV.out]; rfl, bcomp (bcomp hb0.out hb1) hb2⟩
  · rw [h5] at C1
    rw [h6] at C2
    clear h5 h6
    have m1 : (f.arrays.length : Int) ≤ 32 := by omega
    have m2 : (1 : Int) ≤ (f.code.length : Int) := by omega
    have m4 : (f.code.length : Int) ≤ 4096 := by omega
    have m3 : decide ((32 : Int) < (f.arrays.length : Int)) = false := decide_eq_false (by omega)
    have m5 : decide ((f.code.length : Int) < 1) = false := decide_eq_false (by omega)
    have m6 : decide ((4096 : Int) < (f.code.length : Int)) = false := decide_eq_false (by omega)
    have Q := Lib.hid q
    clear q
    go_wp2_with (first
      | (go_at_call_of 56 (Value.slice ca f.chans.length cc); refine (C1.out _ hb0.out).mono ?_; rintro e w1 ⟨rfl, hb1⟩; have d2 := cell_keep hb1 d2; have d3 := cell_keep hb1 d3; have d4 := cell_keep hb1 d4; have d5 := cell_keep hb1 d5)
      | (go_at_call_of 56 (Value.slice sa f.sites.length sc); refine (C2.out _ (bcomp hb0.out hb1)).mono ?_; rintro e w2 ⟨rfl, hb2⟩; have d0 := cell_keep hb2 (cell_keep hb1 d0); have d1 := cell_keep hb2 (cell_keep hb1 d1); have d2 := cell_keep hb2 d2; have d3 := cell_keep hb2 d3; have d4 := cell_keep hb2 d4; have d5 := cell_keep hb2 d5; have hw2 := Lib.hid (bcomp (bcomp hb0.out hb1) hb2)))
    go_loopw [3] (fun i wr => ∃ k : Nat, k ≤ f.arrays.length ∧ i = .int .i64 k ∧ Hid ((f.arrays.take k).all arrOk = true) ∧ Below w2.heap.size w2 wr) (fun i _ => f.arrays.length - (intOf i).toNat)
    case atStart => exact ⟨0, Nat.zero_le _, rfl, rfl, Below.refl _ _⟩
    case round =>
      obtain ⟨k, hk, rfl, hq, hb⟩ := hrel
      by_cases hlt : k < f.arrays.length
      · obtain ⟨x, hx⟩ : ∃ x, f.arrays[k]? = some x := ⟨_, List.getElem?_eq_getElem hlt⟩
        obtain ⟨b, o, rfl, _, c0, hx1⟩ := atInt (HF.out.2.2.1.keep (bcomp hw2.out hb)) hx
        have HS := Lib.hid (all_take_step arrOk f.arrays k x hx)
        have HM := Lib.hid (fun h => HR.out.symm.trans (flatE_arr (all_missM arrOk f.arrays k x hx h)))
        have hi1 : (k : Int) < (f.arrays.length : Int) := by omega
        obtain ⟨hx0, hx2⟩ := hx1
        have d1 := cell_keep hb d1
        have d4 := cell_keep hb d4
        have d5 := cell_keep hb d5
        clear hx
        rcases arr_cases x with ⟨a1, a2, a3⟩ | ⟨a1, a2, a3⟩ | ⟨a1, a2, a3, a4⟩
        · have HV := Lib.hid (HM.out a1)
          clear a1
          go_wp2
          go_ret
          exact ⟨by rw [HV.out]; rfl, bcomp hw2.out hb⟩
        · have HV := Lib.hid (HM.out a1)
          clear a1
          go_wp2
          go_ret
          exact ⟨by rw [HV.out]; rfl, bcomp hw2.out hb⟩
        · have HN : Hid ((f.arrays.take (k + 1)).all arrOk = true) := by show _ = _; rw [HS.out, hq.out, a1]; rfl
          clear a1
          go_wp2
          go_roundw
          case rel => exact ⟨k + 1, by omega, by go_num, HN, hb⟩
          case measure => simp [intOf]; omega
      · have d4' := cell_keep hb d4
        obtain rfl : k = f.arrays.length := by omega
        have hq2 := Lib.hid (show f.arrays.all arrOk = true by have := hq.out; rwa [List.take_length] at this)
        have d0 := cell_keep hb d0
        have d1 := cell_keep hb d1
        have d2 := cell_keep hb d2
        have d3 := cell_keep hb d3
        have d4 := cell_keep hb d4
        have d5 := cell_keep hb d5
        have hw3 := Lib.hid (bcomp hw2.out hb)
        clear hb hq hlt
        obtain ⟨wo, rfl⟩ : ∃ x : World, x = wr := ⟨_, rfl⟩
        go_wp2
        go_loopw [4, 5, 6, 7] (fun i _ _ _ wr => ∃ k : Nat, k ≤ f.code.length ∧ i = .int .i64 k ∧ Hid ((f.code.take k).all (codeOk f) = true) ∧ Below wo.heap.size wo wr) (fun i _ _ _ _ => f.code.length - (intOf i).toNat)
        case atStart => exact ⟨0, Nat.zero_le _, rfl, rfl, Below.refl _ _⟩
        case round =>
          obtain ⟨k, hk, rfl, hq, hb⟩ := hrel
          have d0 := cell_keep hb d0
          have d1 := cell_keep hb d1
          have d2 := cell_keep hb d2
          have d3 := cell_keep hb d3
          have d4 := cell_keep hb d4
          have d5 := cell_keep hb d5
          have hwr := Lib.hid (bcomp hw3.out hb)
          by_cases hlt : k < f.code.length
          · obtain ⟨x, hx⟩ : ∃ x, f.code[k]? = some x := ⟨_, List.getElem?_eq_getElem hlt⟩
            have hRk := HF.out.2.2.2.1.keep hwr.out
            obtain ⟨b, o, rfl, _, c0, c1, c2, c3, c4, c5, c6, c7, hx1⟩ := atCode hRk hx
            have HC := Lib.hid (fun w' (hb' : Below wr.heap.size wr w') => refFieldsM f x (.slice ca f.chans.length cc) (.slice sa f.sites.length sc) (.slice aa f.arrays.length ac) (.slice (some ⟨b, o, none⟩) f.code.length kc) w' (HF.out.keep (bcomp hwr.out hb')) hx1)
            have HA0 := Lib.hid (fun w => refRef f x.a (aK x.kind) (.slice ca f.chans.length cc) (.slice sa f.sites.length sc) (.slice aa f.arrays.length ac) (.slice (some ⟨b, o, none⟩) f.code.length kc) w h1 h2 hx1.2.2.2.2.1 hx1.2.2.2.2.2.1 ⟨hF7, hF8⟩)
            have HB0 := Lib.hid (fun w => refRef f x.b (bR x.kind x.op) (.slice ca f.chans.length cc) (.slice sa f.sites.length sc) (.slice aa f.arrays.length ac) (.slice (some ⟨b, o, none⟩) f.code.length kc) w h1 h2 hx1.2.2.2.2.2.2.1 hx1.2.2.2.2.2.2.2 ⟨hF7, hF8⟩)
            have HS := Lib.hid (all_take_step (codeOk f) f.code k x hx)
            have HM := Lib.hid (fun h => HR.out.symm.trans (flatE_code (all_missM (codeOk f) f.code k x hx h)))
            have hi1 : (k : Int) < (f.code.length : Int) := by omega
            have hA : Below wr.heap.size wr (wr.alloc (.cells #[.int .u8 x.kind, .int .u8 x.op, .int .i64 x.dst, .int .i64 x.n, .int .i64 x.a.reg, .int .u64 x.a.num, .int .i64 x.b.reg, .int .u64 x.b.num] 116)) := (Below.refl _ _).alloc (Nat.le_refl _) _
            have ga := Lib.hid (heap_alloc_new wr (.cells #[.int .u8 x.kind, .int .u8 x.op, .int .i64 x.dst, .int .i64 x.n, .int .i64 x.a.reg, .int .u64 x.a.num, .int .i64 x.b.reg, .int .u64 x.b.num] 116))
            have HA := Lib.hid hA
            have hs1 : w.heap.size < wr.heap.size := block_lt_of_cell d0
            have hcI := hx1.2.2.1
            have hcN := hx1.2.2.2.1
            obtain ⟨hcI1, hcI2⟩ := hcI
            obtain ⟨hcN1, hcN2⟩ := hcN
            have HOK := Lib.hid (codeOk_ref f x hx1.1.1)
            have HBd := Lib.hid (And.intro (cell_keep HA.out d0) (And.intro (cell_keep HA.out d1) (And.intro (cell_keep HA.out d2) (And.intro (cell_keep HA.out d3) (And.intro (cell_keep HA.out d4) (cell_keep HA.out d5))))))
            clear hx hRk hA hx1
            generalize codeOk f x = ok at *
            generalize refOk f x.a (aK x.kind) = ra at *
            generalize refOk f x.b (bR x.kind x.op) = rb at *
            generalize mostR f x.kind = most at *
            generalize isK x.kind x.op = is at *
            generalize dstK x.kind = x0 at *
            generalize nK x.kind = xn at *
            generalize aK x.kind = x1 at *
            generalize bR x.kind x.op = xb at *
            go_upto_region 13 with (go_at_call 57; refine (HC.out _ HA.out).mono ?_; rintro e w4 ⟨rfl, hb4⟩; have e0 := cell_keep hb4 (row_of ga.out 0 (.int .u8 x.kind) rfl); have e1 := cell_keep hb4 (row_of ga.out 1 (.int .u8 x.op) rfl); have e2 := cell_keep hb4 (row_of ga.out 2 (.int .i64 x.dst) rfl); have e3 := cell_keep hb4 (row_of ga.out 3 (.int .i64 x.n) rfl); have e4 := cell_keep hb4 (row_of ga.out 4 (.int .i64 x.a.reg) rfl); have e5 := cell_keep hb4 (row_of ga.out 5 (.int .u64 x.a.num) rfl); have e6 := cell_keep hb4 (row_of ga.out 6 (.int .i64 x.b.reg) rfl); have e7 := cell_keep hb4 (row_of ga.out 7 (.int .u64 x.b.num) rfl); have z0 := cell_keep hb4 HBd.out.1; have z1 := cell_keep hb4 HBd.out.2.1; have z2 := cell_keep hb4 HBd.out.2.2.1; have z3 := cell_keep hb4 HBd.out.2.2.2.1; have z4 := cell_keep hb4 HBd.out.2.2.2.2.1; have z5 := cell_keep hb4 HBd.out.2.2.2.2.2; have hs4 : wr.heap.size < w4.heap.size := block_lt_of_cell e0; have hs5 : w.heap.size < w4.heap.size := block_lt_of_cell z0; have HB4 := bcomp (bcomp hwr.out HA.out) hb4; have HBU := Lib.hid (HB4.alloc HB4.size (.cells #[.bool x0, .bool xn, .bool x1, .bool xb, .int .i64 most] 118)); have HO4 := bcomp (bcomp hb HA.out) hb4; have HBO := Lib.hid (HO4.alloc HO4.size (.cells #[.bool x0, .bool xn, .bool x1, .bool xb, .int .i64 most] 118)); have hU : Below w4.heap.size w4 (w4.alloc (.cells #[.bool x0, .bool xn, .bool x1, .bool xb, .int .i64 most] 118)) := (Below.refl _ _).alloc (Nat.le_refl _) _; have gu := heap_alloc_new w4 (.cells #[.bool x0, .bool xn, .bool x1, .bool xb, .int .i64 most] 118); clear HB4 HO4)
            simp only [List.append_eq, List.cons_append, List.nil_append]
            cases is
            · skip
              have HV := Lib.hid (HM.out (by rw [HOK.out]; simp [Bool.false_and]))
              clear HOK HS HM
              as_aux_lemma =>
                go_wp2_with fail
                go_ret
                exact ⟨by rw [HV.out]; rfl, HBU.out⟩
            · cases hk1 : (x.kind == 1)
              · have hk1' : (x.kind != 1) = true := by rw [bne, hk1]; rfl
                cases ho : (x.op == 0)
                · have ho' : (x.op != 0) = true := by rw [bne, ho]; rfl
                  have HV := Lib.hid (HM.out (by rw [HOK.out]; simp [hk1, ho]))
                  clear HOK HS HM
                  as_aux_lemma =>
                    go_wp2_with fail
                    go_ret
                    exact ⟨by rw [HV.out]; rfl, HBU.out⟩
                · have ho' : (x.op != 0) = false := by rw [bne, ho]; rfl
                  cases x0
                  · cases hd : (x.dst == 0)
                    · have hd' : (x.dst != 0) = true := by rw [bne, hd]; rfl
                      have HV := Lib.hid (HM.out (by rw [HOK.out]; simp [hk1, ho, hd]))
                      clear HOK HS HM
                      as_aux_lemma =>
                        go_wp2_with fail
                        go_ret
                        exact ⟨by rw [HV.out]; rfl, HBU.out⟩
                    · have hd' : (x.dst != 0) = false := by rw [bne, hd]; rfl
                      cases xn
                      · cases hn : (x.n == 0)
                        · have hn' : (x.n != 0) = true := by rw [bne, hn]; rfl
                          have HV := Lib.hid (HM.out (by rw [HOK.out]; simp [hk1, ho, hd, hn]))
                          clear HOK HS HM
                          as_aux_lemma =>
                            go_wp2_with fail
                            go_ret
                            exact ⟨by rw [HV.out]; rfl, HBU.out⟩
                        · have hn' : (x.n != 0) = false := by rw [bne, hn]; rfl
                          cases ra
                          · skip
                            have HV := Lib.hid (HM.out (by rw [HOK.out]; simp [hk1, ho, hd, hn]))
                            clear HOK HS HM
                            as_aux_lemma =>
                              go_wp2_with (go_at_call_of 58 (Value.int IntKind.i64 x.a.reg); refine (HA0.out _).mono ?_; rintro e w5 ⟨rfl, hb5⟩; have z0 := cell_keep hb5 (cell_keep hU z0); have z1 := cell_keep hb5 (cell_keep hU z1); have z2 := cell_keep hb5 (cell_keep hU z2); have z3 := cell_keep hb5 (cell_keep hU z3); have z4 := cell_keep hb5 (cell_keep hU z4); have z5 := cell_keep hb5 (cell_keep hU z5); have e6 := cell_keep hb5 (cell_keep hU e6); have e7 := cell_keep hb5 (cell_keep hU e7); have t3 := cell_keep hb5 (row_of gu 3 (.bool xb) rfl))
                              go_ret
                              exact ⟨by rw [HV.out]; rfl, bcomp HBU.out hb5⟩
                          · cases rb
                            · skip
                              have HV := Lib.hid (HM.out (by rw [HOK.out]; simp [hk1, ho, hd, hn]))
                              clear HOK HS HM
                              as_aux_lemma =>
                                go_wp2_with (first | (go_at_call_of 58 (Value.int IntKind.i64 x.a.reg); refine (HA0.out _).mono ?_; rintro e w5 ⟨rfl, hb5⟩; have z0 := cell_keep hb5 (cell_keep hU z0); have z1 := cell_keep hb5 (cell_keep hU z1); have z2 := cell_keep hb5 (cell_keep hU z2); have z3 := cell_keep hb5 (cell_keep hU z3); have z4 := cell_keep hb5 (cell_keep hU z4); have z5 := cell_keep hb5 (cell_keep hU z5); have e6 := cell_keep hb5 (cell_keep hU e6); have e7 := cell_keep hb5 (cell_keep hU e7); have t3 := cell_keep hb5 (row_of gu 3 (.bool xb) rfl)) | (go_at_call_of 58 (Value.int IntKind.i64 x.b.reg); refine (HB0.out _).mono ?_; rintro e w6 ⟨rfl, hb6⟩))
                                go_ret
                                exact ⟨by rw [HV.out]; rfl, bcomp (bcomp HBU.out hb5) hb6⟩
                            · skip
                              have HN : Hid ((f.code.take (k + 1)).all (codeOk f) = true) := by show _ = _; rw [HS.out, hq.out, HOK.out]; simp [hk1, ho, hd, hn]
                              clear HOK HM HS
                              as_aux_lemma =>
                                go_wp2_with (first | (go_at_call_of 58 (Value.int IntKind.i64 x.a.reg); refine (HA0.out _).mono ?_; rintro e w5 ⟨rfl, hb5⟩; have z0 := cell_keep hb5 (cell_keep hU z0); have z1 := cell_keep hb5 (cell_keep hU z1); have z2 := cell_keep hb5 (cell_keep hU z2); have z3 := cell_keep hb5 (cell_keep hU z3); have z4 := cell_keep hb5 (cell_keep hU z4); have z5 := cell_keep hb5 (cell_keep hU z5); have e6 := cell_keep hb5 (cell_keep hU e6); have e7 := cell_keep hb5 (cell_keep hU e7); have t3 := cell_keep hb5 (row_of gu 3 (.bool xb) rfl)) | (go_at_call_of 58 (Value.int IntKind.i64 x.b.reg); refine (HB0.out _).mono ?_; rintro e w6 ⟨rfl, hb6⟩))
                                go_roundw
                                case rel => exact ⟨k + 1, by omega, by go_num, HN, bcomp (bcomp HBO.out hb5) hb6⟩
                                case measure => simp [intOf]; omega
                      · rcases n_cases x.n most with ⟨m1, m2, m3⟩ | ⟨m1, m2, m3, m4⟩ | ⟨m1, m2, m3, m4, m5⟩
                        · skip
                          have HV := Lib.hid (HM.out (by rw [HOK.out]; rw [show (if true = true then decide (0 ≤ x.n) && decide (x.n < most) else x.n == 0) = false from m1]; simp [hk1, ho, hd]))
                          clear HOK HS HM
                          as_aux_lemma =>
                            go_wp2_with fail
                            go_ret
                            exact ⟨by rw [HV.out]; rfl, HBU.out⟩
                        · skip
                          have HV := Lib.hid (HM.out (by rw [HOK.out]; rw [show (if true = true then decide (0 ≤ x.n) && decide (x.n < most) else x.n == 0) = false from m1]; simp [hk1, ho, hd]))
                          clear HOK HS HM
                          as_aux_lemma =>
                            go_wp2_with fail
                            go_ret
                            exact ⟨by rw [HV.out]; rfl, HBU.out⟩
                        · skip
                          cases ra
                          · skip
                            have HV := Lib.hid (HM.out (by rw [HOK.out]; rw [show (if true = true then decide (0 ≤ x.n) && decide (x.n < most) else x.n == 0) = true from m1]; simp [hk1, ho, hd]))
                            clear HOK HS HM
                            as_aux_lemma =>
                              go_wp2_with (go_at_call_of 58 (Value.int IntKind.i64 x.a.reg); refine (HA0.out _).mono ?_; rintro e w5 ⟨rfl, hb5⟩; have z0 := cell_keep hb5 (cell_keep hU z0); have z1 := cell_keep hb5 (cell_keep hU z1); have z2 := cell_keep hb5 (cell_keep hU z2); have z3 := cell_keep hb5 (cell_keep hU z3); have z4 := cell_keep hb5 (cell_keep hU z4); have z5 := cell_keep hb5 (cell_keep hU z5); have e6 := cell_keep hb5 (cell_keep hU e6); have e7 := cell_keep hb5 (cell_keep hU e7); have t3 := cell_keep hb5 (row_of gu 3 (.bool xb) rfl))
                              go_ret
                              exact ⟨by rw [HV.out]; rfl, bcomp HBU.out hb5⟩
                          · cases rb
                            · skip
                              have HV := Lib.hid (HM.out (by rw [HOK.out]; rw [show (if true = true then decide (0 ≤ x.n) && decide (x.n < most) else x.n == 0) = true from m1]; simp [hk1, ho, hd]))
                              clear HOK HS HM
                              as_aux_lemma =>
                                go_wp2_with (first | (go_at_call_of 58 (Value.int IntKind.i64 x.a.reg); refine (HA0.out _).mono ?_; rintro e w5 ⟨rfl, hb5⟩; have z0 := cell_keep hb5 (cell_keep hU z0); have z1 := cell_keep hb5 (cell_keep hU z1); have z2 := cell_keep hb5 (cell_keep hU z2); have z3 := cell_keep hb5 (cell_keep hU z3); have z4 := cell_keep hb5 (cell_keep hU z4); have z5 := cell_keep hb5 (cell_keep hU z5); have e6 := cell_keep hb5 (cell_keep hU e6); have e7 := cell_keep hb5 (cell_keep hU e7); have t3 := cell_keep hb5 (row_of gu 3 (.bool xb) rfl)) | (go_at_call_of 58 (Value.int IntKind.i64 x.b.reg); refine (HB0.out _).mono ?_; rintro e w6 ⟨rfl, hb6⟩))
                                go_ret
                                exact ⟨by rw [HV.out]; rfl, bcomp (bcomp HBU.out hb5) hb6⟩
                            · skip
                              have HN : Hid ((f.code.take (k + 1)).all (codeOk f) = true) := by show _ = _; rw [HS.out, hq.out, HOK.out]; rw [show (if true = true then decide (0 ≤ x.n) && decide (x.n < most) else x.n == 0) = true from m1]; simp [hk1, ho, hd]
                              clear HOK HM HS
                              as_aux_lemma =>
                                go_wp2_with (first | (go_at_call_of 58 (Value.int IntKind.i64 x.a.reg); refine (HA0.out _).mono ?_; rintro e w5 ⟨rfl, hb5⟩; have z0 := cell_keep hb5 (cell_keep hU z0); have z1 := cell_keep hb5 (cell_keep hU z1); have z2 := cell_keep hb5 (cell_keep hU z2); have z3 := cell_keep hb5 (cell_keep hU z3); have z4 := cell_keep hb5 (cell_keep hU z4); have z5 := cell_keep hb5 (cell_keep hU z5); have e6 := cell_keep hb5 (cell_keep hU e6); have e7 := cell_keep hb5 (cell_keep hU e7); have t3 := cell_keep hb5 (row_of gu 3 (.bool xb) rfl)) | (go_at_call_of 58 (Value.int IntKind.i64 x.b.reg); refine (HB0.out _).mono ?_; rintro e w6 ⟨rfl, hb6⟩))
                                go_roundw
                                case rel => exact ⟨k + 1, by omega, by go_num, HN, bcomp (bcomp HBO.out hb5) hb6⟩
                                case measure => simp [intOf]; omega
                  · rcases n_cases x.dst f.regs with ⟨v1, v2, v3⟩ | ⟨v1, v2, v3, v4⟩ | ⟨v1, v2, v3, v4, v5⟩
                    · skip
                      have HV := Lib.hid (HM.out (by rw [HOK.out]; rw [show (if true = true then decide (0 ≤ x.dst) && decide (x.dst < f.regs) else x.dst == 0) = false from v1]; simp [hk1, ho]))
                      clear HOK HS HM
                      as_aux_lemma =>
                        go_wp2_with fail
                        go_ret
                        exact ⟨by rw [HV.out]; rfl, HBU.out⟩
                    · skip
                      have HV := Lib.hid (HM.out (by rw [HOK.out]; rw [show (if true = true then decide (0 ≤ x.dst) && decide (x.dst < f.regs) else x.dst == 0) = false from v1]; simp [hk1, ho]))
                      clear HOK HS HM
                      as_aux_lemma =>
                        go_wp2_with fail
                        go_ret
                        exact ⟨by rw [HV.out]; rfl, HBU.out⟩
                    · skip
                      cases xn
                      · cases hn : (x.n == 0)
                        · have hn' : (x.n != 0) = true := by rw [bne, hn]; rfl
                          have HV := Lib.hid (HM.out (by rw [HOK.out]; rw [show (if true = true then decide (0 ≤ x.dst) && decide (x.dst < f.regs) else x.dst == 0) = true from v1]; simp [hk1, ho, hn]))
                          clear HOK HS HM
                          as_aux_lemma =>
                            go_wp2_with fail
                            go_ret
                            exact ⟨by rw [HV.out]; rfl, HBU.out⟩
                        · have hn' : (x.n != 0) = false := by rw [bne, hn]; rfl
                          cases ra
                          · skip
                            have HV := Lib.hid (HM.out (by rw [HOK.out]; rw [show (if true = true then decide (0 ≤ x.dst) && decide (x.dst < f.regs) else x.dst == 0) = true from v1]; simp [hk1, ho, hn]))
                            clear HOK HS HM
                            as_aux_lemma =>
                              go_wp2_with (go_at_call_of 58 (Value.int IntKind.i64 x.a.reg); refine (HA0.out _).mono ?_; rintro e w5 ⟨rfl, hb5⟩; have z0 := cell_keep hb5 (cell_keep hU z0); have z1 := cell_keep hb5 (cell_keep hU z1); have z2 := cell_keep hb5 (cell_keep hU z2); have z3 := cell_keep hb5 (cell_keep hU z3); have z4 := cell_keep hb5 (cell_keep hU z4); have z5 := cell_keep hb5 (cell_keep hU z5); have e6 := cell_keep hb5 (cell_keep hU e6); have e7 := cell_keep hb5 (cell_keep hU e7); have t3 := cell_keep hb5 (row_of gu 3 (.bool xb) rfl))
                              go_ret
                              exact ⟨by rw [HV.out]; rfl, bcomp HBU.out hb5⟩
                          · cases rb
                            · skip
                              have HV := Lib.hid (HM.out (by rw [HOK.out]; rw [show (if true = true then decide (0 ≤ x.dst) && decide (x.dst < f.regs) else x.dst == 0) = true from v1]; simp [hk1, ho, hn]))
                              clear HOK HS HM
                              as_aux_lemma =>
                                go_wp2_with (first | (go_at_call_of 58 (Value.int IntKind.i64 x.a.reg); refine (HA0.out _).mono ?_; rintro e w5 ⟨rfl, hb5⟩; have z0 := cell_keep hb5 (cell_keep hU z0); have z1 := cell_keep hb5 (cell_keep hU z1); have z2 := cell_keep hb5 (cell_keep hU z2); have z3 := cell_keep hb5 (cell_keep hU z3); have z4 := cell_keep hb5 (cell_keep hU z4); have z5 := cell_keep hb5 (cell_keep hU z5); have e6 := cell_keep hb5 (cell_keep hU e6); have e7 := cell_keep hb5 (cell_keep hU e7); have t3 := cell_keep hb5 (row_of gu 3 (.bool xb) rfl)) | (go_at_call_of 58 (Value.int IntKind.i64 x.b.reg); refine (HB0.out _).mono ?_; rintro e w6 ⟨rfl, hb6⟩))
                                go_ret
                                exact ⟨by rw [HV.out]; rfl, bcomp (bcomp HBU.out hb5) hb6⟩
                            · skip
                              have HN : Hid ((f.code.take (k + 1)).all (codeOk f) = true) := by show _ = _; rw [HS.out, hq.out, HOK.out]; rw [show (if true = true then decide (0 ≤ x.dst) && decide (x.dst < f.regs) else x.dst == 0) = true from v1]; simp [hk1, ho, hn]
                              clear HOK HM HS
                              as_aux_lemma =>
                                go_wp2_with (first | (go_at_call_of 58 (Value.int IntKind.i64 x.a.reg); refine (HA0.out _).mono ?_; rintro e w5 ⟨rfl, hb5⟩; have z0 := cell_keep hb5 (cell_keep hU z0); have z1 := cell_keep hb5 (cell_keep hU z1); have z2 := cell_keep hb5 (cell_keep hU z2); have z3 := cell_keep hb5 (cell_keep hU z3); have z4 := cell_keep hb5 (cell_keep hU z4); have z5 := cell_keep hb5 (cell_keep hU z5); have e6 := cell_keep hb5 (cell_keep hU e6); have e7 := cell_keep hb5 (cell_keep hU e7); have t3 := cell_keep hb5 (row_of gu 3 (.bool xb) rfl)) | (go_at_call_of 58 (Value.int IntKind.i64 x.b.reg); refine (HB0.out _).mono ?_; rintro e w6 ⟨rfl, hb6⟩))
                                go_roundw
                                case rel => exact ⟨k + 1, by omega, by go_num, HN, bcomp (bcomp HBO.out hb5) hb6⟩
                                case measure => simp [intOf]; omega
                      · rcases n_cases x.n most with ⟨m1, m2, m3⟩ | ⟨m1, m2, m3, m4⟩ | ⟨m1, m2, m3, m4, m5⟩
                        · skip
                          have HV := Lib.hid (HM.out (by rw [HOK.out]; rw [show (if true = true then decide (0 ≤ x.dst) && decide (x.dst < f.regs) else x.dst == 0) = true from v1]; rw [show (if true = true then decide (0 ≤ x.n) && decide (x.n < most) else x.n == 0) = false from m1]; simp [hk1, ho]))
                          clear HOK HS HM
                          as_aux_lemma =>
                            go_wp2_with fail
                            go_ret
                            exact ⟨by rw [HV.out]; rfl, HBU.out⟩
                        · skip
                          have HV := Lib.hid (HM.out (by rw [HOK.out]; rw [show (if true = true then decide (0 ≤ x.dst) && decide (x.dst < f.regs) else x.dst == 0) = true from v1]; rw [show (if true = true then decide (0 ≤ x.n) && decide (x.n < most) else x.n == 0) = false from m1]; simp [hk1, ho]))
                          clear HOK HS HM
                          as_aux_lemma =>
                            go_wp2_with fail
                            go_ret
                            exact ⟨by rw [HV.out]; rfl, HBU.out⟩
                        · skip
                          cases ra
                          · skip
                            have HV := Lib.hid (HM.out (by rw [HOK.out]; rw [show (if true = true then decide (0 ≤ x.dst) && decide (x.dst < f.regs) else x.dst == 0) = true from v1]; rw [show (if true = true then decide (0 ≤ x.n) && decide (x.n < most) else x.n == 0) = true from m1]; simp [hk1, ho]))
                            clear HOK HS HM
                            as_aux_lemma =>
                              go_wp2_with (go_at_call_of 58 (Value.int IntKind.i64 x.a.reg); refine (HA0.out _).mono ?_; rintro e w5 ⟨rfl, hb5⟩; have z0 := cell_keep hb5 (cell_keep hU z0); have z1 := cell_keep hb5 (cell_keep hU z1); have z2 := cell_keep hb5 (cell_keep hU z2); have z3 := cell_keep hb5 (cell_keep hU z3); have z4 := cell_keep hb5 (cell_keep hU z4); have z5 := cell_keep hb5 (cell_keep hU z5); have e6 := cell_keep hb5 (cell_keep hU e6); have e7 := cell_keep hb5 (cell_keep hU e7); have t3 := cell_keep hb5 (row_of gu 3 (.bool xb) rfl))
                              go_ret
                              exact ⟨by rw [HV.out]; rfl, bcomp HBU.out hb5⟩
                          · cases rb
                            · skip
                              have HV := Lib.hid (HM.out (by rw [HOK.out]; rw [show (if true = true then decide (0 ≤ x.dst) && decide (x.dst < f.regs) else x.dst == 0) = true from v1]; rw [show (if true = true then decide (0 ≤ x.n) && decide (x.n < most) else x.n == 0) = true from m1]; simp [hk1, ho]))
                              clear HOK HS HM
                              as_aux_lemma =>
                                go_wp2_with (first | (go_at_call_of 58 (Value.int IntKind.i64 x.a.reg); refine (HA0.out _).mono ?_; rintro e w5 ⟨rfl, hb5⟩; have z0 := cell_keep hb5 (cell_keep hU z0); have z1 := cell_keep hb5 (cell_keep hU z1); have z2 := cell_keep hb5 (cell_keep hU z2); have z3 := cell_keep hb5 (cell_keep hU z3); have z4 := cell_keep hb5 (cell_keep hU z4); have z5 := cell_keep hb5 (cell_keep hU z5); have e6 := cell_keep hb5 (cell_keep hU e6); have e7 := cell_keep hb5 (cell_keep hU e7); have t3 := cell_keep hb5 (row_of gu 3 (.bool xb) rfl)) | (go_at_call_of 58 (Value.int IntKind.i64 x.b.reg); refine (HB0.out _).mono ?_; rintro e w6 ⟨rfl, hb6⟩))
                                go_ret
                                exact ⟨by rw [HV.out]; rfl, bcomp (bcomp HBU.out hb5) hb6⟩
                            · skip
                              have HN : Hid ((f.code.take (k + 1)).all (codeOk f) = true) := by show _ = _; rw [HS.out, hq.out, HOK.out]; rw [show (if true = true then decide (0 ≤ x.dst) && decide (x.dst < f.regs) else x.dst == 0) = true from v1]; rw [show (if true = true then decide (0 ≤ x.n) && decide (x.n < most) else x.n == 0) = true from m1]; simp [hk1, ho]
                              clear HOK HM HS
                              as_aux_lemma =>
                                go_wp2_with (first | (go_at_call_of 58 (Value.int IntKind.i64 x.a.reg); refine (HA0.out _).mono ?_; rintro e w5 ⟨rfl, hb5⟩; have z0 := cell_keep hb5 (cell_keep hU z0); have z1 := cell_keep hb5 (cell_keep hU z1); have z2 := cell_keep hb5 (cell_keep hU z2); have z3 := cell_keep hb5 (cell_keep hU z3); have z4 := cell_keep hb5 (cell_keep hU z4); have z5 := cell_keep hb5 (cell_keep hU z5); have e6 := cell_keep hb5 (cell_keep hU e6); have e7 := cell_keep hb5 (cell_keep hU e7); have t3 := cell_keep hb5 (row_of gu 3 (.bool xb) rfl)) | (go_at_call_of 58 (Value.int IntKind.i64 x.b.reg); refine (HB0.out _).mono ?_; rintro e w6 ⟨rfl, hb6⟩))
                                go_roundw
                                case rel => exact ⟨k + 1, by omega, by go_num, HN, bcomp (bcomp HBO.out hb5) hb6⟩
                                case measure => simp [intOf]; omega
              · have hk1' : (x.kind != 1) = false := by rw [bne, hk1]; rfl
                cases x0
                · cases hd : (x.dst == 0)
                  · have hd' : (x.dst != 0) = true := by rw [bne, hd]; rfl
                    have HV := Lib.hid (HM.out (by rw [HOK.out]; simp [hk1, hd]))
                    clear HOK HS HM
                    as_aux_lemma =>
                      go_wp2_with fail
                      go_ret
                      exact ⟨by rw [HV.out]; rfl, HBU.out⟩
                  · have hd' : (x.dst != 0) = false := by rw [bne, hd]; rfl
                    cases xn
                    · cases hn : (x.n == 0)
                      · have hn' : (x.n != 0) = true := by rw [bne, hn]; rfl
                        have HV := Lib.hid (HM.out (by rw [HOK.out]; simp [hk1, hd, hn]))
                        clear HOK HS HM
                        as_aux_lemma =>
                          go_wp2_with fail
                          go_ret
                          exact ⟨by rw [HV.out]; rfl, HBU.out⟩
                      · have hn' : (x.n != 0) = false := by rw [bne, hn]; rfl
                        cases ra
                        · skip
                          have HV := Lib.hid (HM.out (by rw [HOK.out]; simp [hk1, hd, hn]))
                          clear HOK HS HM
                          as_aux_lemma =>
                            go_wp2_with (go_at_call_of 58 (Value.int IntKind.i64 x.a.reg); refine (HA0.out _).mono ?_; rintro e w5 ⟨rfl, hb5⟩; have z0 := cell_keep hb5 (cell_keep hU z0); have z1 := cell_keep hb5 (cell_keep hU z1); have z2 := cell_keep hb5 (cell_keep hU z2); have z3 := cell_keep hb5 (cell_keep hU z3); have z4 := cell_keep hb5 (cell_keep hU z4); have z5 := cell_keep hb5 (cell_keep hU z5); have e6 := cell_keep hb5 (cell_keep hU e6); have e7 := cell_keep hb5 (cell_keep hU e7); have t3 := cell_keep hb5 (row_of gu 3 (.bool xb) rfl))
                            go_ret
                            exact ⟨by rw [HV.out]; rfl, bcomp HBU.out hb5⟩
                        · cases rb
                          · skip
                            have HV := Lib.hid (HM.out (by rw [HOK.out]; simp [hk1, hd, hn]))
                            clear HOK HS HM
                            as_aux_lemma =>
                              go_wp2_with (first | (go_at_call_of 58 (Value.int IntKind.i64 x.a.reg); refine (HA0.out _).mono ?_; rintro e w5 ⟨rfl, hb5⟩; have z0 := cell_keep hb5 (cell_keep hU z0); have z1 := cell_keep hb5 (cell_keep hU z1); have z2 := cell_keep hb5 (cell_keep hU z2); have z3 := cell_keep hb5 (cell_keep hU z3); have z4 := cell_keep hb5 (cell_keep hU z4); have z5 := cell_keep hb5 (cell_keep hU z5); have e6 := cell_keep hb5 (cell_keep hU e6); have e7 := cell_keep hb5 (cell_keep hU e7); have t3 := cell_keep hb5 (row_of gu 3 (.bool xb) rfl)) | (go_at_call_of 58 (Value.int IntKind.i64 x.b.reg); refine (HB0.out _).mono ?_; rintro e w6 ⟨rfl, hb6⟩))
                              go_ret
                              exact ⟨by rw [HV.out]; rfl, bcomp (bcomp HBU.out hb5) hb6⟩
                          · skip
                            have HN : Hid ((f.code.take (k + 1)).all (codeOk f) = true) := by show _ = _; rw [HS.out, hq.out, HOK.out]; simp [hk1, hd, hn]
                            clear HOK HM HS
                            as_aux_lemma =>
                              go_wp2_with (first | (go_at_call_of 58 (Value.int IntKind.i64 x.a.reg); refine (HA0.out _).mono ?_; rintro e w5 ⟨rfl, hb5⟩; have z0 := cell_keep hb5 (cell_keep hU z0); have z1 := cell_keep hb5 (cell_keep hU z1); have z2 := cell_keep hb5 (cell_keep hU z2); have z3 := cell_keep hb5 (cell_keep hU z3); have z4 := cell_keep hb5 (cell_keep hU z4); have z5 := cell_keep hb5 (cell_keep hU z5); have e6 := cell_keep hb5 (cell_keep hU e6); have e7 := cell_keep hb5 (cell_keep hU e7); have t3 := cell_keep hb5 (row_of gu 3 (.bool xb) rfl)) | (go_at_call_of 58 (Value.int IntKind.i64 x.b.reg); refine (HB0.out _).mono ?_; rintro e w6 ⟨rfl, hb6⟩))
                              go_roundw
                              case rel => exact ⟨k + 1, by omega, by go_num, HN, bcomp (bcomp HBO.out hb5) hb6⟩
                              case measure => simp [intOf]; omega
                    · rcases n_cases x.n most with ⟨m1, m2, m3⟩ | ⟨m1, m2, m3, m4⟩ | ⟨m1, m2, m3, m4, m5⟩
                      · skip
                        have HV := Lib.hid (HM.out (by rw [HOK.out]; rw [show (if true = true then decide (0 ≤ x.n) && decide (x.n < most) else x.n == 0) = false from m1]; simp [hk1, hd]))
                        clear HOK HS HM
                        as_aux_lemma =>
                          go_wp2_with fail
                          go_ret
                          exact ⟨by rw [HV.out]; rfl, HBU.out⟩
                      · skip
                        have HV := Lib.hid (HM.out (by rw [HOK.out]; rw [show (if true = true then decide (0 ≤ x.n) && decide (x.n < most) else x.n == 0) = false from m1]; simp [hk1, hd]))
                        clear HOK HS HM
                        as_aux_lemma =>
                          go_wp2_with fail
                          go_ret
                          exact ⟨by rw [HV.out]; rfl, HBU.out⟩
                      · skip
                        cases ra
                        · skip
                          have HV := Lib.hid (HM.out (by rw [HOK.out]; rw [show (if true = true then decide (0 ≤ x.n) && decide (x.n < most) else x.n == 0) = true from m1]; simp [hk1, hd]))
                          clear HOK HS HM
                          as_aux_lemma =>
                            go_wp2_with (go_at_call_of 58 (Value.int IntKind.i64 x.a.reg); refine (HA0.out _).mono ?_; rintro e w5 ⟨rfl, hb5⟩; have z0 := cell_keep hb5 (cell_keep hU z0); have z1 := cell_keep hb5 (cell_keep hU z1); have z2 := cell_keep hb5 (cell_keep hU z2); have z3 := cell_keep hb5 (cell_keep hU z3); have z4 := cell_keep hb5 (cell_keep hU z4); have z5 := cell_keep hb5 (cell_keep hU z5); have e6 := cell_keep hb5 (cell_keep hU e6); have e7 := cell_keep hb5 (cell_keep hU e7); have t3 := cell_keep hb5 (row_of gu 3 (.bool xb) rfl))
                            go_ret
                            exact ⟨by rw [HV.out]; rfl, bcomp HBU.out hb5⟩
                        · cases rb
                          · skip
                            have HV := Lib.hid (HM.out (by rw [HOK.out]; rw [show (if true = true then decide (0 ≤ x.n) && decide (x.n < most) else x.n == 0) = true from m1]; simp [hk1, hd]))
                            clear HOK HS HM
                            as_aux_lemma =>
                              go_wp2_with (first | (go_at_call_of 58 (Value.int IntKind.i64 x.a.reg); refine (HA0.out _).mono ?_; rintro e w5 ⟨rfl, hb5⟩; have z0 := cell_keep hb5 (cell_keep hU z0); have z1 := cell_keep hb5 (cell_keep hU z1); have z2 := cell_keep hb5 (cell_keep hU z2); have z3 := cell_keep hb5 (cell_keep hU z3); have z4 := cell_keep hb5 (cell_keep hU z4); have z5 := cell_keep hb5 (cell_keep hU z5); have e6 := cell_keep hb5 (cell_keep hU e6); have e7 := cell_keep hb5 (cell_keep hU e7); have t3 := cell_keep hb5 (row_of gu 3 (.bool xb) rfl)) | (go_at_call_of 58 (Value.int IntKind.i64 x.b.reg); refine (HB0.out _).mono ?_; rintro e w6 ⟨rfl, hb6⟩))
                              go_ret
                              exact ⟨by rw [HV.out]; rfl, bcomp (bcomp HBU.out hb5) hb6⟩
                          · skip
                            have HN : Hid ((f.code.take (k + 1)).all (codeOk f) = true) := by show _ = _; rw [HS.out, hq.out, HOK.out]; rw [show (if true = true then decide (0 ≤ x.n) && decide (x.n < most) else x.n == 0) = true from m1]; simp [hk1, hd]
                            clear HOK HM HS
                            as_aux_lemma =>
                              go_wp2_with (first | (go_at_call_of 58 (Value.int IntKind.i64 x.a.reg); refine (HA0.out _).mono ?_; rintro e w5 ⟨rfl, hb5⟩; have z0 := cell_keep hb5 (cell_keep hU z0); have z1 := cell_keep hb5 (cell_keep hU z1); have z2 := cell_keep hb5 (cell_keep hU z2); have z3 := cell_keep hb5 (cell_keep hU z3); have z4 := cell_keep hb5 (cell_keep hU z4); have z5 := cell_keep hb5 (cell_keep hU z5); have e6 := cell_keep hb5 (cell_keep hU e6); have e7 := cell_keep hb5 (cell_keep hU e7); have t3 := cell_keep hb5 (row_of gu 3 (.bool xb) rfl)) | (go_at_call_of 58 (Value.int IntKind.i64 x.b.reg); refine (HB0.out _).mono ?_; rintro e w6 ⟨rfl, hb6⟩))
                              go_roundw
                              case rel => exact ⟨k + 1, by omega, by go_num, HN, bcomp (bcomp HBO.out hb5) hb6⟩
                              case measure => simp [intOf]; omega
                · rcases n_cases x.dst f.regs with ⟨v1, v2, v3⟩ | ⟨v1, v2, v3, v4⟩ | ⟨v1, v2, v3, v4, v5⟩
                  · skip
                    have HV := Lib.hid (HM.out (by rw [HOK.out]; rw [show (if true = true then decide (0 ≤ x.dst) && decide (x.dst < f.regs) else x.dst == 0) = false from v1]; simp [hk1]))
                    clear HOK HS HM
                    as_aux_lemma =>
                      go_wp2_with fail
                      go_ret
                      exact ⟨by rw [HV.out]; rfl, HBU.out⟩
                  · skip
                    have HV := Lib.hid (HM.out (by rw [HOK.out]; rw [show (if true = true then decide (0 ≤ x.dst) && decide (x.dst < f.regs) else x.dst == 0) = false from v1]; simp [hk1]))
                    clear HOK HS HM
                    as_aux_lemma =>
                      go_wp2_with fail
                      go_ret
                      exact ⟨by rw [HV.out]; rfl, HBU.out⟩
                  · skip
                    cases xn
                    · cases hn : (x.n == 0)
                      · have hn' : (x.n != 0) = true := by rw [bne, hn]; rfl
                        have HV := Lib.hid (HM.out (by rw [HOK.out]; rw [show (if true = true then decide (0 ≤ x.dst) && decide (x.dst < f.regs) else x.dst == 0) = true from v1]; simp [hk1, hn]))
                        clear HOK HS HM
                        as_aux_lemma =>
                          go_wp2_with fail
                          go_ret
                          exact ⟨by rw [HV.out]; rfl, HBU.out⟩
                      · have hn' : (x.n != 0) = false := by rw [bne, hn]; rfl
                        cases ra
                        · skip
                          have HV := Lib.hid (HM.out (by rw [HOK.out]; rw [show (if true = true then decide (0 ≤ x.dst) && decide (x.dst < f.regs) else x.dst == 0) = true from v1]; simp [hk1, hn]))
                          clear HOK HS HM
                          as_aux_lemma =>
                            go_wp2_with (go_at_call_of 58 (Value.int IntKind.i64 x.a.reg); refine (HA0.out _).mono ?_; rintro e w5 ⟨rfl, hb5⟩; have z0 := cell_keep hb5 (cell_keep hU z0); have z1 := cell_keep hb5 (cell_keep hU z1); have z2 := cell_keep hb5 (cell_keep hU z2); have z3 := cell_keep hb5 (cell_keep hU z3); have z4 := cell_keep hb5 (cell_keep hU z4); have z5 := cell_keep hb5 (cell_keep hU z5); have e6 := cell_keep hb5 (cell_keep hU e6); have e7 := cell_keep hb5 (cell_keep hU e7); have t3 := cell_keep hb5 (row_of gu 3 (.bool xb) rfl))
                            go_ret
                            exact ⟨by rw [HV.out]; rfl, bcomp HBU.out hb5⟩
                        · cases rb
                          · skip
                            have HV := Lib.hid (HM.out (by rw [HOK.out]; rw [show (if true = true then decide (0 ≤ x.dst) && decide (x.dst < f.regs) else x.dst == 0) = true from v1]; simp [hk1, hn]))
                            clear HOK HS HM
                            as_aux_lemma =>
                              go_wp2_with (first | (go_at_call_of 58 (Value.int IntKind.i64 x.a.reg); refine (HA0.out _).mono ?_; rintro e w5 ⟨rfl, hb5⟩; have z0 := cell_keep hb5 (cell_keep hU z0); have z1 := cell_keep hb5 (cell_keep hU z1); have z2 := cell_keep hb5 (cell_keep hU z2); have z3 := cell_keep hb5 (cell_keep hU z3); have z4 := cell_keep hb5 (cell_keep hU z4); have z5 := cell_keep hb5 (cell_keep hU z5); have e6 := cell_keep hb5 (cell_keep hU e6); have e7 := cell_keep hb5 (cell_keep hU e7); have t3 := cell_keep hb5 (row_of gu 3 (.bool xb) rfl)) | (go_at_call_of 58 (Value.int IntKind.i64 x.b.reg); refine (HB0.out _).mono ?_; rintro e w6 ⟨rfl, hb6⟩))
                              go_ret
                              exact ⟨by rw [HV.out]; rfl, bcomp (bcomp HBU.out hb5) hb6⟩
                          · skip
                            have HN : Hid ((f.code.take (k + 1)).all (codeOk f) = true) := by show _ = _; rw [HS.out, hq.out, HOK.out]; rw [show (if true = true then decide (0 ≤ x.dst) && decide (x.dst < f.regs) else x.dst == 0) = true from v1]; simp [hk1, hn]
                            clear HOK HM HS
                            as_aux_lemma =>
                              go_wp2_with (first | (go_at_call_of 58 (Value.int IntKind.i64 x.a.reg); refine (HA0.out _).mono ?_; rintro e w5 ⟨rfl, hb5⟩; have z0 := cell_keep hb5 (cell_keep hU z0); have z1 := cell_keep hb5 (cell_keep hU z1); have z2 := cell_keep hb5 (cell_keep hU z2); have z3 := cell_keep hb5 (cell_keep hU z3); have z4 := cell_keep hb5 (cell_keep hU z4); have z5 := cell_keep hb5 (cell_keep hU z5); have e6 := cell_keep hb5 (cell_keep hU e6); have e7 := cell_keep hb5 (cell_keep hU e7); have t3 := cell_keep hb5 (row_of gu 3 (.bool xb) rfl)) | (go_at_call_of 58 (Value.int IntKind.i64 x.b.reg); refine (HB0.out _).mono ?_; rintro e w6 ⟨rfl, hb6⟩))
                              go_roundw
                              case rel => exact ⟨k + 1, by omega, by go_num, HN, bcomp (bcomp HBO.out hb5) hb6⟩
                              case measure => simp [intOf]; omega
                    · rcases n_cases x.n most with ⟨m1, m2, m3⟩ | ⟨m1, m2, m3, m4⟩ | ⟨m1, m2, m3, m4, m5⟩
                      · skip
                        have HV := Lib.hid (HM.out (by rw [HOK.out]; rw [show (if true = true then decide (0 ≤ x.dst) && decide (x.dst < f.regs) else x.dst == 0) = true from v1]; rw [show (if true = true then decide (0 ≤ x.n) && decide (x.n < most) else x.n == 0) = false from m1]; simp [hk1]))
                        clear HOK HS HM
                        as_aux_lemma =>
                          go_wp2_with fail
                          go_ret
                          exact ⟨by rw [HV.out]; rfl, HBU.out⟩
                      · skip
                        have HV := Lib.hid (HM.out (by rw [HOK.out]; rw [show (if true = true then decide (0 ≤ x.dst) && decide (x.dst < f.regs) else x.dst == 0) = true from v1]; rw [show (if true = true then decide (0 ≤ x.n) && decide (x.n < most) else x.n == 0) = false from m1]; simp [hk1]))
                        clear HOK HS HM
                        as_aux_lemma =>
                          go_wp2_with fail
                          go_ret
                          exact ⟨by rw [HV.out]; rfl, HBU.out⟩
                      · skip
                        cases ra
                        · skip
                          have HV := Lib.hid (HM.out (by rw [HOK.out]; rw [show (if true = true then decide (0 ≤ x.dst) && decide (x.dst < f.regs) else x.dst == 0) = true from v1]; rw [show (if true = true then decide (0 ≤ x.n) && decide (x.n < most) else x.n == 0) = true from m1]; simp [hk1]))
                          clear HOK HS HM
                          as_aux_lemma =>
                            go_wp2_with (go_at_call_of 58 (Value.int IntKind.i64 x.a.reg); refine (HA0.out _).mono ?_; rintro e w5 ⟨rfl, hb5⟩; have z0 := cell_keep hb5 (cell_keep hU z0); have z1 := cell_keep hb5 (cell_keep hU z1); have z2 := cell_keep hb5 (cell_keep hU z2); have z3 := cell_keep hb5 (cell_keep hU z3); have z4 := cell_keep hb5 (cell_keep hU z4); have z5 := cell_keep hb5 (cell_keep hU z5); have e6 := cell_keep hb5 (cell_keep hU e6); have e7 := cell_keep hb5 (cell_keep hU e7); have t3 := cell_keep hb5 (row_of gu 3 (.bool xb) rfl))
                            go_ret
                            exact ⟨by rw [HV.out]; rfl, bcomp HBU.out hb5⟩
                        · cases rb
                          · skip
                            have HV := Lib.hid (HM.out (by rw [HOK.out]; rw [show (if true = true then decide (0 ≤ x.dst) && decide (x.dst < f.regs) else x.dst == 0) = true from v1]; rw [show (if true = true then decide (0 ≤ x.n) && decide (x.n < most) else x.n == 0) = true from m1]; simp [hk1]))
                            clear HOK HS HM
                            as_aux_lemma =>
                              go_wp2_with (first | (go_at_call_of 58 (Value.int IntKind.i64 x.a.reg); refine (HA0.out _).mono ?_; rintro e w5 ⟨rfl, hb5⟩; have z0 := cell_keep hb5 (cell_keep hU z0); have z1 := cell_keep hb5 (cell_keep hU z1); have z2 := cell_keep hb5 (cell_keep hU z2); have z3 := cell_keep hb5 (cell_keep hU z3); have z4 := cell_keep hb5 (cell_keep hU z4); have z5 := cell_keep hb5 (cell_keep hU z5); have e6 := cell_keep hb5 (cell_keep hU e6); have e7 := cell_keep hb5 (cell_keep hU e7); have t3 := cell_keep hb5 (row_of gu 3 (.bool xb) rfl)) | (go_at_call_of 58 (Value.int IntKind.i64 x.b.reg); refine (HB0.out _).mono ?_; rintro e w6 ⟨rfl, hb6⟩))
                              go_ret
                              exact ⟨by rw [HV.out]; rfl, bcomp (bcomp HBU.out hb5) hb6⟩
                          · skip
                            have HN : Hid ((f.code.take (k + 1)).all (codeOk f) = true) := by show _ = _; rw [HS.out, hq.out, HOK.out]; rw [show (if true = true then decide (0 ≤ x.dst) && decide (x.dst < f.regs) else x.dst == 0) = true from v1]; rw [show (if true = true then decide (0 ≤ x.n) && decide (x.n < most) else x.n == 0) = true from m1]; simp [hk1]
                            clear HOK HM HS
                            as_aux_lemma =>
                              go_wp2_with (first | (go_at_call_of 58 (Value.int IntKind.i64 x.a.reg); refine (HA0.out _).mono ?_; rintro e w5 ⟨rfl, hb5⟩; have z0 := cell_keep hb5 (cell_keep hU z0); have z1 := cell_keep hb5 (cell_keep hU z1); have z2 := cell_keep hb5 (cell_keep hU z2); have z3 := cell_keep hb5 (cell_keep hU z3); have z4 := cell_keep hb5 (cell_keep hU z4); have z5 := cell_keep hb5 (cell_keep hU z5); have e6 := cell_keep hb5 (cell_keep hU e6); have e7 := cell_keep hb5 (cell_keep hU e7); have t3 := cell_keep hb5 (row_of gu 3 (.bool xb) rfl)) | (go_at_call_of 58 (Value.int IntKind.i64 x.b.reg); refine (HB0.out _).mono ?_; rintro e w6 ⟨rfl, hb6⟩))
                              go_roundw
                              case rel => exact ⟨k + 1, by omega, by go_num, HN, bcomp (bcomp HBO.out hb5) hb6⟩
                              case measure => simp [intOf]; omega
          · obtain rfl : k = f.code.length := by omega
            have hq3 := show f.code.all (codeOk f) = true by have := hq.out; rwa [List.take_length] at this
            obtain ⟨x, hx, hlast⟩ := last_at h8
            have HE := Lib.hid (HR.out.symm.trans (flatE_last Q.out hq2.out hq3))
            have hRk := HF.out.2.2.2.1.keep hwr.out
            obtain ⟨b, o, rfl, _, c0, c1, c2, c3, c4, c5, c6, c7, hx1⟩ := atCode hRk hx
            have hi1 : ((f.code.length : Int) - 1) < (f.code.length : Int) := by omega
            have hi2 : ((f.code.length : Int) - 1).toNat = f.code.length - 1 := by omega
            clear hx hRk hx1 hq hq3 c1 c2 c3 c4 c5 c6 c7
            cases e9 : (x.kind == 9)
            · have n9 : (x.kind != 9) = true := by rw [bne, e9]; rfl
              cases e7 : (x.kind == 7)
              · have n7 : (x.kind != 7) = true := by rw [bne, e7]; rfl
                have HV : Hid (res = 2) := by show _ = _; rw [HE.out, hlast, e9, e7]; rfl
                clear hlast
                go_wp2
                go_ret
                exact ⟨by rw [HV.out]; rfl, hwr.out⟩
              · have n7 : (x.kind != 7) = false := by rw [bne, e7]; rfl
                have HV : Hid (res = 0) := by show _ = _; rw [HE.out, hlast, e9, e7]; rfl
                clear hlast
                go_wp2
                go_ret
                exact ⟨by rw [HV.out]; rfl, hwr.out⟩
            · have n9 : (x.kind != 9) = false := by rw [bne, e9]; rfl
              have HV : Hid (res = 0) := by show _ = _; rw [HE.out, hlast, e9]; rfl
              clear hlast
              go_wp2
              go_ret
              exact ⟨by rw [HV.out]; rfl, hwr.out⟩
end Go.Proofs.YtgllkgedjplpdaaDoor
