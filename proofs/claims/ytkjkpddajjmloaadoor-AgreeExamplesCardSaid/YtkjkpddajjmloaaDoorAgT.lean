/- Contracts of law34's Brief and fine, law33's Short, law31's Small: whether what comes in is small. Condition: what comes in reads as the plain data; the tables hold what they are laid with. The contract of law34's fine: whether what comes in is small. Condition: what comes in reads as the plain data. -/
import Derived.Test.YtkjkpddajjmloaaDoorAgY
import Derived.Test.YtkjkpddajjmloaaDoorMRc
set_option linter.unnecessarySimpa false
set_option linter.unusedVariables false
set_option linter.unusedSimpArgs false
namespace Go.Proofs.YtkjkpddajjmloaaDoor
open Go.ChangeShapes Go.WideShapes Go.ChangeAt Go.RowKit
def BriefP (q : PolD) : Prop := q.levels.length ≤ 8 ∧ q.order.length ≤ 30 ∧ q.chans.length ≤ 40 ∧ q.sites.length ≤ 40 ∧ (q.steps ≤ 60 ∨ 65536 < q.steps)
instance (q : PolD) : Decidable (BriefP q) := by unfold BriefP; infer_instance
set_option maxRecDepth 100000 in
theorem brief_any (q : PolD) (cP : Array Value) (w : World) (hP : PolC w q cP) :
    Calls Tryd.prog 48 #[.agg cP] w fun e w' => e = .returned (.bool (decide (BriefP q))) ∧ Below w.heap.size w w' := by
  obtain ⟨lv, ov, cv, sv, rfl, hP⟩ := hP
  obtain ⟨la, lc, rfl⟩ := hP.1.is
  obtain ⟨oa, oc, rfl⟩ := hP.2.1.is
  obtain ⟨ca, cc, rfl⟩ := hP.2.2.1.is
  obtain ⟨sa, sc, rfl⟩ := hP.2.2.2.1.is
  obtain ⟨V, hV⟩ : ∃ V, decide (BriefP q) = V := ⟨_, rfl⟩
  rw [hV]
  have HV := Lib.hid hV
  clear hV
  have HB := Lib.hid ((Below.refl w.heap.size w).alloc (Nat.le_refl _) (.cells #[.slice la q.levels.length lc, .slice oa q.order.length oc, .slice ca q.chans.length cc, .slice sa q.sites.length sc, .bool q.sens, .int .i64 q.steps, .int .i64 q.paths, .int .i64 q.nodes, .int .i64 q.confs] 46))
  have hg := heap_alloc_new w (.cells #[.slice la q.levels.length lc, .slice oa q.order.length oc, .slice ca q.chans.length cc, .slice sa q.sites.length sc, .bool q.sens, .int .i64 q.steps, .int .i64 q.paths, .int .i64 q.nodes, .int .i64 q.confs] 46)
  have c0 := row_of hg 0 (.slice la q.levels.length lc) rfl
  have c1 := row_of hg 1 (.slice oa q.order.length oc) rfl
  have c2 := row_of hg 2 (.slice ca q.chans.length cc) rfl
  have c3 := row_of hg 3 (.slice sa q.sites.length sc) rfl
  have c5 := row_of hg 5 (.int .i64 q.steps) rfl
  clear hg hP
  go_enter Tryd.func48, Tryd.ntmps48
  go_upto_region 1 with fail
  generalize w.alloc (.cells #[.slice la q.levels.length lc, .slice oa q.order.length oc, .slice ca q.chans.length cc, .slice sa q.sites.length sc, .bool q.sens, .int .i64 q.steps, .int .i64 q.paths, .int .i64 q.nodes, .int .i64 q.confs] 46) = W at *
  by_cases r1 : (q.levels.length : Int) ≤ 8
  case neg =>
    obtain rfl : V = false := by rw [← HV.out]; exact decide_eq_false (fun hh => by unfold BriefP at hh; omega)
    go_wp2_with fail
    go_ret
    exact ⟨rfl, HB.out⟩
  by_cases r2 : (q.order.length : Int) ≤ 30
  case neg =>
    obtain rfl : V = false := by rw [← HV.out]; exact decide_eq_false (fun hh => by unfold BriefP at hh; omega)
    go_wp2_with fail
    go_ret
    exact ⟨rfl, HB.out⟩
  by_cases r3 : (q.chans.length : Int) ≤ 40
  case neg =>
    obtain rfl : V = false := by rw [← HV.out]; exact decide_eq_false (fun hh => by unfold BriefP at hh; omega)
    go_wp2_with fail
    go_ret
    exact ⟨rfl, HB.out⟩
  by_cases r4 : (q.sites.length : Int) ≤ 40
  case neg =>
    obtain rfl : V = false := by rw [← HV.out]; exact decide_eq_false (fun hh => by unfold BriefP at hh; omega)
    go_wp2_with fail
    go_ret
    exact ⟨rfl, HB.out⟩
  by_cases r5 : q.steps ≤ 60
  · obtain rfl : V = true := by rw [← HV.out]; exact decide_eq_true (by unfold BriefP; omega)
    go_wp2_with fail
    go_ret
    exact ⟨rfl, HB.out⟩
  by_cases r6 : (65536 : Int) < q.steps
  · obtain rfl : V = true := by rw [← HV.out]; exact decide_eq_true (by unfold BriefP; omega)
    go_wp2_with fail
    go_ret
    exact ⟨rfl, HB.out⟩
  · obtain rfl : V = false := by rw [← HV.out]; exact decide_eq_false (fun hh => by unfold BriefP at hh; omega)
    go_wp2_with fail
    go_ret
    exact ⟨rfl, HB.out⟩
theorem lists_at {w : World} {a : Option Addr} {n c : Nat} {L : List (List Int)} (h : RdLists none w (.slice a n c) L) : ∀ i l, L[i]? = some l → ∃ b o v, a = some ⟨b, o, none⟩ ∧ w.cell? ⟨b, o + i, none⟩ = some v ∧ RdRow kNum none w v l := by
  obtain ⟨a', c', e, _, hi⟩ := h
  simp only [Value.slice.injEq] at e
  obtain ⟨rfl, -, rfl⟩ := e
  intro i l hl
  obtain ⟨b, o, v, e1, _, e2, e3⟩ := hi i l hl
  exact ⟨b, o, v, e1, e2, e3⟩
def shortP (A : List (List Int)) : Prop := A.length ≤ 40 ∧ ∀ l ∈ A, l.length ≤ 20
instance (A : List (List Int)) : Decidable (shortP A) := by unfold shortP; infer_instance
set_option maxRecDepth 100000 in
theorem short_any (av : Value) (A : List (List Int)) (w : World) (hA : RdLists none w av A) :
    Calls Tryd.prog 49 #[av] w fun e w' => e = .returned (.bool (decide (shortP A))) ∧ w = w' := by
  obtain ⟨aa, ac, rfl⟩ := hA.is
  have HI := Lib.hid (lists_at hA)
  clear hA
  obtain ⟨V, hV⟩ : ∃ V, decide (shortP A) = V := ⟨_, rfl⟩
  rw [hV]
  have HV := Lib.hid hV
  clear hV
  go_enter Tryd.func49, Tryd.ntmps49
  by_cases h40 : (40 : Int) < A.length
  · obtain rfl : V = false := by rw [← HV.out]; exact decide_eq_false (fun hh => by have := hh.1; omega)
    go_wp2_with fail
    go_ret
    exact ⟨rfl, rfl⟩
  go_wp2_with fail
  go_loopw [3] (fun i wr => ∃ k : Nat, k ≤ A.length ∧ i = .int .i64 k ∧ w = wr ∧ Hid (∀ l ∈ A.take k, l.length ≤ 20)) (fun i _ => A.length - (intOf i).toNat)
  case atStart => exact ⟨0, Nat.zero_le _, rfl, rfl, fun l hl => by simp at hl⟩
  case round =>
    obtain ⟨k, hk, rfl, rfl, HQ⟩ := hrel
    by_cases hlt : k < A.length
    · have hlt1 : (k : Int) < A.length := by omega
      obtain ⟨l, hl⟩ : ∃ l, A[k]? = some l := ⟨_, List.getElem?_eq_getElem hlt⟩
      obtain ⟨b, o, v, rfl, c0, hr⟩ := HI.out k l hl
      obtain ⟨xa, xc, rfl⟩ := hr.is
      by_cases h20 : (20 : Int) < l.length
      · obtain rfl : V = false := by rw [← HV.out]; exact decide_eq_false (fun hh => by have := hh.2 l (List.mem_of_getElem? hl); omega)
        clear hr hl
        go_wp2_with fail
        go_ret
        exact ⟨rfl, rfl⟩
      · have HQ2 : Hid (∀ m ∈ A.take (k + 1), m.length ≤ 20) := by
          intro m hm
          rw [List.take_add_one, hl] at hm
          rcases List.mem_append.1 hm with h | h
          · exact HQ.out m h
          · simp at h; subst h; omega
        clear hr hl
        go_wp2_with fail
        go_roundw
        case rel => exact ⟨k + 1, by omega, by go_num, trivial, HQ2⟩
        case measure => simp [intOf]; omega
    · obtain rfl : k = A.length := by omega
      obtain rfl : V = true := by rw [← HV.out]; exact decide_eq_true ⟨by omega, fun l hl => HQ.out l (by rw [List.take_length]; exact hl)⟩
      go_wp2_with fail
      go_ret
      exact ⟨rfl, rfl⟩
def SmallP (f : FlatD) : Prop := flatE f = 0 ∧ f.width ≤ 3 ∧ f.regs ≤ 8 ∧ 1 ≤ f.chans.length ∧ f.chans.length ≤ 4 ∧ f.arrays.length ≤ 4 ∧ f.code.length ≤ 30 ∧ ∀ n ∈ f.arrays, n ≤ 8
instance (f : FlatD) : Decidable (SmallP f) := by unfold SmallP; infer_instance
set_option maxRecDepth 100000 in
set_option maxHeartbeats 1600000 in
theorem small_any (f : FlatD) (cF : Array Value) (w : World) (hF : FlatC w f cF) :
    Calls Tryd.prog 47 #[.agg cF] w fun e w' => e = .returned (.bool (decide (SmallP f))) ∧ Below w.heap.size w w' := by
  obtain ⟨cv, sv, av, kv, rfl, hF⟩ := hF
  obtain ⟨fca, fcc, rfl⟩ := hF.1.is
  obtain ⟨fsa, fsc, rfl⟩ := hF.2.1.is
  obtain ⟨faa, fac, rfl⟩ := hF.2.2.1.is
  obtain ⟨fka, fkc, rfl⟩ := hF.2.2.2.1.is
  obtain ⟨V, hV⟩ : ∃ V, decide (SmallP f) = V := ⟨_, rfl⟩
  rw [hV]
  have HV := Lib.hid hV
  clear hV
  have hal := (Below.refl w.heap.size w).alloc (Nat.le_refl _) (.cells #[.int .i64 f.width, .int .i64 f.regs, .slice fca f.chans.length fcc, .slice fsa f.sites.length fsc, .slice faa f.arrays.length fac, .slice fka f.code.length fkc] 43)
  have HB := Lib.hid hal
  have hg := heap_alloc_new w (.cells #[.int .i64 f.width, .int .i64 f.regs, .slice fca f.chans.length fcc, .slice fsa f.sites.length fsc, .slice faa f.arrays.length fac, .slice fka f.code.length fkc] 43)
  have HAR := Lib.hid (hF.keep hal).2.2.1
  have HC := Lib.hid (refCheck f _ _ _ _ _ (hF.keep hal))
  have HCN := Lib.hid hg
  clear hal hF hg
  go_enter Tryd.func47, Tryd.ntmps47
  go_upto_region 1 with fail
  generalize w.alloc (.cells #[.int .i64 f.width, .int .i64 f.regs, .slice fca f.chans.length fcc, .slice fsa f.sites.length fsc, .slice faa f.arrays.length fac, .slice fka f.code.length fkc] 43) = W at *
  have c0 := row_of HCN.out 0 (.int .i64 f.width) rfl
  have c1 := row_of HCN.out 1 (.int .i64 f.regs) rfl
  have c2 := row_of HCN.out 2 (.slice fca f.chans.length fcc) rfl
  have c3 := row_of HCN.out 3 (.slice fsa f.sites.length fsc) rfl
  have c4 := row_of HCN.out 4 (.slice faa f.arrays.length fac) rfl
  have c5 := row_of HCN.out 5 (.slice fka f.code.length fkc) rfl
  obtain ⟨E, hE⟩ : ∃ E, flatE f = E := ⟨_, rfl⟩
  rw [hE] at HC
  have HE := Lib.hid hE
  clear hE
  by_cases r1 : E ≠ 0
  · obtain rfl : V = false := by rw [← HV.out]; exact decide_eq_false (fun hh => by unfold SmallP at hh; rw [HE.out] at hh; omega)
    have hE1 : (E != 0) = true := by simp [r1]
    go_wp2_with (go_at_call 74; refine HC.out.mono ?_; rintro e z ⟨rfl, hz⟩; have B1 := Lib.hid (bcomp HB.out hz); have BZ := Lib.hid hz; have d0 := cell_keep hz c0; have d1 := cell_keep hz c1; have d2 := cell_keep hz c2; have d4 := cell_keep hz c4; have d5 := cell_keep hz c5; clear hz)
    go_ret
    exact ⟨rfl, B1.out⟩
  by_cases r2 : 3 < f.width
  · obtain rfl : V = false := by rw [← HV.out]; exact decide_eq_false (fun hh => by unfold SmallP at hh; rw [HE.out] at hh; omega)
    go_wp2_with (go_at_call 74; refine HC.out.mono ?_; rintro e z ⟨rfl, hz⟩; have B1 := Lib.hid (bcomp HB.out hz); have BZ := Lib.hid hz; have d0 := cell_keep hz c0; have d1 := cell_keep hz c1; have d2 := cell_keep hz c2; have d4 := cell_keep hz c4; have d5 := cell_keep hz c5; clear hz)
    go_ret
    exact ⟨rfl, B1.out⟩
  by_cases r3 : 8 < f.regs
  · obtain rfl : V = false := by rw [← HV.out]; exact decide_eq_false (fun hh => by unfold SmallP at hh; rw [HE.out] at hh; omega)
    go_wp2_with (go_at_call 74; refine HC.out.mono ?_; rintro e z ⟨rfl, hz⟩; have B1 := Lib.hid (bcomp HB.out hz); have BZ := Lib.hid hz; have d0 := cell_keep hz c0; have d1 := cell_keep hz c1; have d2 := cell_keep hz c2; have d4 := cell_keep hz c4; have d5 := cell_keep hz c5; clear hz)
    go_ret
    exact ⟨rfl, B1.out⟩
  by_cases r4 : (f.chans.length : Int) < 1
  · obtain rfl : V = false := by rw [← HV.out]; exact decide_eq_false (fun hh => by unfold SmallP at hh; rw [HE.out] at hh; omega)
    go_wp2_with (go_at_call 74; refine HC.out.mono ?_; rintro e z ⟨rfl, hz⟩; have B1 := Lib.hid (bcomp HB.out hz); have BZ := Lib.hid hz; have d0 := cell_keep hz c0; have d1 := cell_keep hz c1; have d2 := cell_keep hz c2; have d4 := cell_keep hz c4; have d5 := cell_keep hz c5; clear hz)
    go_ret
    exact ⟨rfl, B1.out⟩
  by_cases r5 : (4 : Int) < f.chans.length
  · obtain rfl : V = false := by rw [← HV.out]; exact decide_eq_false (fun hh => by unfold SmallP at hh; rw [HE.out] at hh; omega)
    go_wp2_with (go_at_call 74; refine HC.out.mono ?_; rintro e z ⟨rfl, hz⟩; have B1 := Lib.hid (bcomp HB.out hz); have BZ := Lib.hid hz; have d0 := cell_keep hz c0; have d1 := cell_keep hz c1; have d2 := cell_keep hz c2; have d4 := cell_keep hz c4; have d5 := cell_keep hz c5; clear hz)
    go_ret
    exact ⟨rfl, B1.out⟩
  by_cases r6 : (4 : Int) < f.arrays.length
  · obtain rfl : V = false := by rw [← HV.out]; exact decide_eq_false (fun hh => by unfold SmallP at hh; rw [HE.out] at hh; omega)
    go_wp2_with (go_at_call 74; refine HC.out.mono ?_; rintro e z ⟨rfl, hz⟩; have B1 := Lib.hid (bcomp HB.out hz); have BZ := Lib.hid hz; have d0 := cell_keep hz c0; have d1 := cell_keep hz c1; have d2 := cell_keep hz c2; have d4 := cell_keep hz c4; have d5 := cell_keep hz c5; clear hz)
    go_ret
    exact ⟨rfl, B1.out⟩
  by_cases r7 : (30 : Int) < f.code.length
  · obtain rfl : V = false := by rw [← HV.out]; exact decide_eq_false (fun hh => by unfold SmallP at hh; rw [HE.out] at hh; omega)
    go_wp2_with (go_at_call 74; refine HC.out.mono ?_; rintro e z ⟨rfl, hz⟩; have B1 := Lib.hid (bcomp HB.out hz); have BZ := Lib.hid hz; have d0 := cell_keep hz c0; have d1 := cell_keep hz c1; have d2 := cell_keep hz c2; have d4 := cell_keep hz c4; have d5 := cell_keep hz c5; clear hz)
    go_ret
    exact ⟨rfl, B1.out⟩
  go_wp2_with (go_at_call 74; refine HC.out.mono ?_; rintro e z ⟨rfl, hz⟩; have B1 := Lib.hid (bcomp HB.out hz); have BZ := Lib.hid hz; have d0 := cell_keep hz c0; have d1 := cell_keep hz c1; have d2 := cell_keep hz c2; have d4 := cell_keep hz c4; have d5 := cell_keep hz c5; clear hz)
  have HAR2 : Hid (RdRow kInt none z (.slice faa f.arrays.length fac) f.arrays) := HAR.out.keep BZ.out
  clear c0 c1 c2 c3 c4 c5 d0 d1 d2 d5 HAR HC HCN BZ
  go_loopw [3] (fun i wr => ∃ k : Nat, k ≤ f.arrays.length ∧ i = .int .i64 k ∧ z = wr ∧ Hid (∀ n ∈ f.arrays.take k, n ≤ 8)) (fun i _ => f.arrays.length - (intOf i).toNat)
  case atStart => exact ⟨0, Nat.zero_le _, rfl, rfl, fun l hl => by simp at hl⟩
  case round =>
    obtain ⟨k, hk, rfl, rfl, HQ⟩ := hrel
    by_cases hlt : k < f.arrays.length
    · have hlt1 : (k : Int) < f.arrays.length := by omega
      obtain ⟨n, hn⟩ : ∃ n, f.arrays[k]? = some n := ⟨_, List.getElem?_eq_getElem hlt⟩
      obtain ⟨b, o, rfl, _, g0, _⟩ := atInt HAR2.out hn
      by_cases h8 : (8 : Int) < n
      · obtain rfl : V = false := by rw [← HV.out]; exact decide_eq_false (fun hh => by have := hh.2.2.2.2.2.2.2 n (List.mem_of_getElem? hn); omega)
        clear hn
        go_wp2_with fail
        go_ret
        exact ⟨rfl, B1.out⟩
      · have HQ2 : Hid (∀ m ∈ f.arrays.take (k + 1), m ≤ 8) := by
          intro m hm
          rw [List.take_add_one, hn] at hm
          rcases List.mem_append.1 hm with h | h
          · exact HQ.out m h
          · simp at h; subst h; omega
        clear hn
        go_wp2_with fail
        go_roundw
        case rel => exact ⟨k + 1, by omega, by go_num, trivial, HQ2⟩
        case measure => simp [intOf]; omega
    · obtain rfl : k = f.arrays.length := by omega
      obtain rfl : V = true := by rw [← HV.out]; exact decide_eq_true ⟨by rw [HE.out]; omega, by omega, by omega, by omega, by omega, by omega, by omega, fun l hl => HQ.out l (by rw [List.take_length]; exact hl)⟩
      go_wp2_with fail
      go_ret
      exact ⟨rfl, B1.out⟩
open Go.ChangeShapes Go.WideShapes Go.ChangeAt Go.RowKit
def fineB (f : FlatD) (q : PolD) (Ls : List (List (List Int))) : Bool := decide (SmallP f) && (decide (BriefP q) && Ls.all fun A => decide (shortP A))
theorem fine_small {f : FlatD} {q : PolD} {Ls : List (List (List Int))} (h : fineB f q Ls = true) : SmallP f := by
  unfold fineB at h; simp only [Bool.and_eq_true, decide_eq_true_eq] at h; exact h.1
theorem fine_brief {f : FlatD} {q : PolD} {Ls : List (List (List Int))} (h : fineB f q Ls = true) : BriefP q := by
  unfold fineB at h; simp only [Bool.and_eq_true, decide_eq_true_eq] at h; exact h.2.1
theorem fine_short {f : FlatD} {q : PolD} {Ls : List (List (List Int))} (h : fineB f q Ls = true) {A : List (List Int)} (hA : A ∈ Ls) : shortP A := by
  unfold fineB at h; simp only [Bool.and_eq_true, decide_eq_true_eq, List.all_eq_true] at h; exact h.2.2 A hA
/-- Lists of inputs that lie in a row. -/
def RdRuns (w : World) (v : Value) (Ls : List (List (List Int))) : Prop := ∃ b c, v = .slice (some ⟨b, 0, none⟩) Ls.length c ∧ ∀ i A, Ls[i]? = some A → ∃ iv, w.cell? ⟨b, i, none⟩ = some iv ∧ RdLists none w iv A
theorem RdRuns.keep {w w' : World} {v : Value} {Ls : List (List (List Int))} (h : RdRuns w v Ls) (k : Below w.heap.size w w') : RdRuns w' v Ls := by
  obtain ⟨b, c, e, hi⟩ := h
  exact ⟨b, c, e, fun i A hA => by obtain ⟨iv, h1, h2⟩ := hi i A hA; exact ⟨iv, cell_keep k h1, h2.keep k⟩⟩
set_option maxRecDepth 100000 in
set_option maxHeartbeats 1600000 in
theorem fine_any (f : FlatD) (q : PolD) (cF cP : Array Value) (rv : Value) (Ls : List (List (List Int))) (w : World) (hF : FlatC w f cF) (hP : PolC w q cP) (hR : RdRuns w rv Ls) (hn : Ls.length ≤ 1000000) :
    Calls Tryd.prog 21 #[.agg cF, .agg cP, rv] w fun e w' => e = .returned (.bool (fineB f q Ls)) ∧ Below w.heap.size w w' := by
  obtain ⟨rb, rc, rfl, hri⟩ := hR
  obtain ⟨V, hV⟩ : ∃ V, fineB f q Ls = V := ⟨_, rfl⟩
  rw [hV]
  have HV := Lib.hid hV
  obtain ⟨lv, ov, cv, sv, rfl, _⟩ := id hP
  have HRI := Lib.hid hri
  have HF := Lib.hid hF
  have HP := Lib.hid hP
  have HFI := Lib.hid hF.info
  have HPI := Lib.hid hP.info
  clear hV hri hF hP
  have hal := ((Below.refl w.heap.size w).alloc (Nat.le_refl _) (.cells cF 43)).alloc (by simp) (.cells #[lv, ov, cv, sv, .bool q.sens, .int .i64 q.steps, .int .i64 q.paths, .int .i64 q.nodes, .int .i64 q.confs] 46)
  have hx := heap2_of (w := w) (A := .cells cF 43 (0, 0)) (B := .cells #[lv, ov, cv, sv, .bool q.sens, .int .i64 q.steps, .int .i64 q.paths, .int .i64 q.nodes, .int .i64 q.confs] 46 (0, 0)) (Below.refl _ _)
  have HB0 := Lib.hid hal
  have HG0 := Lib.hid hx.1
  have HG1 := Lib.hid hx.2.1
  clear hal hx
  go_enter Tryd.func21, Tryd.ntmps21
  go_upto_region 1 with fail
  generalize (w.alloc (.cells cF 43)).alloc (.cells #[lv, ov, cv, sv, .bool q.sens, .int .i64 q.steps, .int .i64 q.paths, .int .i64 q.nodes, .int .i64 q.confs] 46) = W at *
  have hsz : w.heap.size + 1 < W.heap.size := (Array.getElem?_eq_some_iff.1 HG1.out).1
  have p0 := row_of HG1.out 0 lv rfl
  have p1 := row_of HG1.out 1 ov rfl
  have p2 := row_of HG1.out 2 cv rfl
  have p3 := row_of HG1.out 3 sv rfl
  have p4 := row_of HG1.out 4 (.bool q.sens) rfl
  have p5 := row_of HG1.out 5 (.int .i64 q.steps) rfl
  have p6 := row_of HG1.out 6 (.int .i64 q.paths) rfl
  have p7 := row_of HG1.out 7 (.int .i64 q.nodes) rfl
  have p8 := row_of HG1.out 8 (.int .i64 q.confs) rfl
  have HS := Lib.hid (small_any f cF W (HF.out.keep HB0.out))
  by_cases hs : SmallP f
  case neg =>
    obtain rfl : V = false := by rw [← HV.out]; unfold fineB; simp [hs]
    rw [decide_eq_false hs] at HS
    go_wp2_with (first | (refine wpList_load_row rfl 43 (.tmp 3) rfl w.heap.size rfl 43 cF (0, 0) _ ?l11 Tryd.underlying43 rfl ?i11 ?_; exact HG0.out; exact HFI.out) | (go_at_call 47; refine HS.out.mono ?_; rintro e z ⟨rfl, hz⟩; have B1 := Lib.hid (bcomp HB0.out hz); clear hz))
    go_ret
    exact ⟨rfl, B1.out⟩
  rw [decide_eq_true hs] at HS
  by_cases hb : BriefP q
  case neg =>
    obtain rfl : V = false := by rw [← HV.out]; unfold fineB; simp [hb]
    go_wp2_with (first | (refine wpList_load_row rfl 43 (.tmp 3) rfl w.heap.size rfl 43 cF (0, 0) _ ?l12 Tryd.underlying43 rfl ?i12 ?_; exact HG0.out; exact HFI.out) | (go_at_call 47; refine HS.out.mono ?_; rintro e z ⟨rfl, hz⟩; have B1 := Lib.hid (bcomp HB0.out hz); have g0 := cell_keep hz p0; have g1 := cell_keep hz p1; have g2 := cell_keep hz p2; have g3 := cell_keep hz p3; have g4 := cell_keep hz p4; have g5 := cell_keep hz p5; have g6 := cell_keep hz p6; have g7 := cell_keep hz p7; have g8 := cell_keep hz p8; have HBR := Lib.hid (brief_any q _ z (HP.out.keep B1.out)); rw [decide_eq_false hb] at HBR; clear hz) | (go_at_call 48; refine HBR.out.mono ?_; rintro e z2 ⟨rfl, hz⟩; have B2 := Lib.hid (bcomp B1.out hz); clear hz))
    go_ret
    exact ⟨rfl, B2.out⟩
  go_upto_region 4 with (first | (refine wpList_load_row rfl 43 (.tmp 3) rfl w.heap.size rfl 43 cF (0, 0) _ ?l13 Tryd.underlying43 rfl ?i13 ?_; exact HG0.out; exact HFI.out) | (go_at_call 47; refine HS.out.mono ?_; rintro e z ⟨rfl, hz⟩; have B1 := Lib.hid (bcomp HB0.out hz); have g0 := cell_keep hz p0; have g1 := cell_keep hz p1; have g2 := cell_keep hz p2; have g3 := cell_keep hz p3; have g4 := cell_keep hz p4; have g5 := cell_keep hz p5; have g6 := cell_keep hz p6; have g7 := cell_keep hz p7; have g8 := cell_keep hz p8; have HBR := Lib.hid (brief_any q _ z (HP.out.keep B1.out)); rw [decide_eq_true hb] at HBR; clear hz) | (go_at_call 48; refine HBR.out.mono ?_; rintro e z2 ⟨rfl, hz⟩; have B2 := Lib.hid (bcomp B1.out hz); clear hz))
  have HSB : Hid (fineB f q Ls = Ls.all fun A => decide (shortP A)) := by show _ = _; unfold fineB; rw [decide_eq_true hs, decide_eq_true hb]; simp
  clear hs hb HBR HS HG0 HG1 HF HP p0 p1 p2 p3 p4 p5 p6 p7 p8 g0 g1 g2 g3 g4 g5 g6 g7 g8
  go_loopw [7] (fun i wr => ∃ k : Nat, k ≤ Ls.length ∧ i = .int .i64 k ∧ z2 = wr ∧ Hid (∀ A ∈ Ls.take k, shortP A)) (fun i _ => Ls.length - (intOf i).toNat)
  case atStart => exact ⟨0, Nat.zero_le _, rfl, rfl, fun l hl => by simp at hl⟩
  case round =>
    obtain ⟨k, hk, rfl, rfl, HQ⟩ := hrel
    by_cases hlt : k < Ls.length
    · have hlt1 : (k : Int) < Ls.length := by omega
      obtain ⟨A, hA⟩ : ∃ A, Ls[k]? = some A := ⟨_, List.getElem?_eq_getElem hlt⟩
      obtain ⟨iv, c0, hr⟩ := HRI.out k A hA
      have d0 := cell_keep B2.out c0
      have hsv := short_any iv A z2 (hr.keep B2.out)
      clear hr c0
      by_cases hsp : shortP A
      · have HQ2 : Hid (∀ m ∈ Ls.take (k + 1), shortP m) := by
          intro m hm
          rw [List.take_add_one, hA] at hm
          rcases List.mem_append.1 hm with h | h
          · exact HQ.out m h
          · simp at h; subst h; exact hsp
        rw [decide_eq_true hsp] at hsv
        have HSV := Lib.hid hsv
        clear hA hsv hsp
        go_wp2_with (go_at_call 49; refine HSV.out.mono ?_; rintro e z4 ⟨rfl, rfl⟩)
        go_roundw
        case rel => exact ⟨k + 1, by omega, by go_num, trivial, HQ2⟩
        case measure => simp [intOf]; omega
      · obtain rfl : V = false := by
          rw [← HV.out, HSB.out, List.all_eq_false]
          exact ⟨A, List.mem_of_getElem? hA, by simp [hsp]⟩
        rw [decide_eq_false hsp] at hsv
        have HSV := Lib.hid hsv
        clear hA hsv hsp
        go_wp2_with (go_at_call 49; refine HSV.out.mono ?_; rintro e z4 ⟨rfl, rfl⟩)
        go_ret
        exact ⟨rfl, B2.out⟩
    · obtain rfl : k = Ls.length := by omega
      obtain rfl : V = true := by
        rw [← HV.out, HSB.out, List.all_eq_true]
        intro A hA
        rw [List.take_length] at HQ
        exact decide_eq_true (HQ.out A hA)
      go_wp2_with fail
      go_ret
      exact ⟨rfl, B2.out⟩
theorem runs_two {w : World} {g : Nat} {u v : Value} {A B : List (List Int)} (h : w.heap[g]? = some (.cells #[u, v] 47 (0, 0))) (ha : RdLists none w u A) (hb : RdLists none w v B) : RdRuns w (.slice (some ⟨g, 0, none⟩) 2 2) [A, B] := by
  refine ⟨_, 2, rfl, fun i X hX => ?_⟩
  match i, hX with
  | 0, hX => simp only [List.getElem?_cons_zero, Option.some.injEq] at hX; subst hX; exact ⟨_, row_of h 0 _ rfl, ha⟩
  | 1, hX => simp only [List.getElem?_cons_zero, List.getElem?_cons_succ, Option.some.injEq] at hX; subst hX; exact ⟨_, row_of h 1 _ rfl, hb⟩
  | i + 2, hX => simp at hX
theorem FlatC.codes {w : World} {f : FlatD} {c : Array Value} (h : FlatC w f c) : ∀ c ∈ f.code, CodeIn c := by
  obtain ⟨a, b, d, e, rfl, g⟩ := h
  exact g.2.2.2.1.ok
theorem short_fits {A : List (List Int)} (h : shortP A) : ∀ l ∈ A, l.length ≤ 1000000 := fun l hl => by have := h.2 l hl; omega
end Go.Proofs.YtkjkpddajjmloaaDoor
