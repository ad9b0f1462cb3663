/- Contract of prog.Check: it returns the position and the error of the program's first fault, or zero. Condition: the program reads, the two package tables read as laid. -/
import Derived.Test.YtgcfdbhpophnjaaDoorRun
import Derived.Defers
import Derived.Recover
import Derived.Laws.Pointers
import Derived.RegionTactic
import Derived.ChangeAlike
set_option linter.unusedVariables false
set_option linter.unusedSimpArgs false
namespace Go.Proofs.YtgcfdbhpophnjaaDoor
open Go.ChangeShapes Go.WideShapes Go.ChangeAt Go.RowKit
def errOf : Option FaultD → Int := fun o => match o with | none => 0 | some F => F.e
def posL : Option FaultD → Int := fun o => match o with | none => 0 | some F => F.line
def posC : Option FaultD → Int := fun o => match o with | none => 0 | some F => F.col
theorem push_old (a : Array Obj) (x : Obj) (i : Nat) (h : i < a.size) : (a.push x)[i]? = a[i]? := by
  rw [Array.getElem?_push, if_neg (by omega)]
theorem push_new (a : Array Obj) (x : Obj) (i : Nat) (h : i = a.size) : (a.push x)[i]? = some x := by
  rw [Array.getElem?_push, if_pos h]
theorem five (W : World) (o : Obj) : Below W.heap.size W (((((W.alloc (.map #[] 0)).alloc (.map #[] 0)).alloc (.map #[] 0)).alloc (.map #[] 0)).alloc o) ∧
    (((((W.alloc (.map #[] 0)).alloc (.map #[] 0)).alloc (.map #[] 0)).alloc (.map #[] 0)).alloc o).heap.size = W.heap.size + 1 + 1 + 1 + 1 + 1 ∧
    (((((W.alloc (.map #[] 0)).alloc (.map #[] 0)).alloc (.map #[] 0)).alloc (.map #[] 0)).alloc o).heap[W.heap.size]? = some (.map #[] 0) ∧
    (((((W.alloc (.map #[] 0)).alloc (.map #[] 0)).alloc (.map #[] 0)).alloc (.map #[] 0)).alloc o).heap[W.heap.size + 1]? = some (.map #[] 0) ∧
    (((((W.alloc (.map #[] 0)).alloc (.map #[] 0)).alloc (.map #[] 0)).alloc (.map #[] 0)).alloc o).heap[W.heap.size + 1 + 1]? = some (.map #[] 0) ∧
    (((((W.alloc (.map #[] 0)).alloc (.map #[] 0)).alloc (.map #[] 0)).alloc (.map #[] 0)).alloc o).heap[W.heap.size + 1 + 1 + 1]? = some (.map #[] 0) ∧
    (((((W.alloc (.map #[] 0)).alloc (.map #[] 0)).alloc (.map #[] 0)).alloc (.map #[] 0)).alloc o).heap[W.heap.size + 1 + 1 + 1 + 1]? = some o := by
  have e : (((((W.alloc (.map #[] 0)).alloc (.map #[] 0)).alloc (.map #[] 0)).alloc (.map #[] 0)).alloc o).heap = ((((W.heap.push (.map #[] 0)).push (.map #[] 0)).push (.map #[] 0)).push (.map #[] 0)).push o := rfl
  refine ⟨(((((Below.refl _ _).alloc (Nat.le_refl _) _).alloc (by simp) _).alloc (by simp; omega) _).alloc (by simp; omega) _).alloc (by simp; omega) _, ?_, ?_, ?_, ?_, ?_, ?_⟩ <;> rw [e]
  · simp
  all_goals
    iterate 5 (first | done | (refine push_new _ _ _ ?_; simp; done) | (refine (push_old _ _ _ ?_).trans ?_; (simp <;> omega)))
theorem set_none {w : World} {b : Nat} (h : w.heap[b]? = some (.map #[] 0)) : SetIs w b [] := ⟨#[], 0, h, rfl, fun _ h => nomatch h⟩
theorem ints_none {w : World} {b : Nat} (h : w.heap[b]? = some (.map #[] 0)) : IntsIs w b [] := ⟨#[], 0, h, rfl, fun _ h => nomatch h⟩
theorem assert_fault (F : FaultD) (w : World) : (Instr.typeAssert (faultV F) 20 105 false).run Tryd.prog w = .ok (.agg #[.int .i64 F.line, .int .i64 F.col, .int .i64 F.e]) w := by
  kernel_rfl
set_option maxRecDepth 100000 in
set_option maxHeartbeats 1600000 in
theorem catch_panic (ga gb : Nat) (F : FaultD) (x0 x1 x2 : Value) (w : World) (h0 : w.cell? ⟨ga, 0, none⟩ = some x0) (h1 : w.cell? ⟨ga, 1, none⟩ = some x1) (h2 : w.cell? ⟨gb, 0, none⟩ = some x2) (f0 : w.frozen? ⟨ga, 0, none⟩ = false) (f1 : w.frozen? ⟨ga, 1, none⟩ = false) (f2 : w.frozen? ⟨gb, 0, none⟩ = false) (hne : ga ≠ gb) :
    CallsD Tryd.prog 56 #[.pointer (some ⟨ga, 0, none⟩), .pointer (some ⟨gb, 0, none⟩)] (.panicking [{ v := faultV F, recovered := false }]) w fun e u' w' =>
      e = .returned (.tuple #[]) ∧ u' = .panicking [{ v := faultV F, recovered := true }] ∧ w'.cell? ⟨ga, 0, none⟩ = some (.int .i64 F.line) ∧ w'.cell? ⟨ga, 1, none⟩ = some (.int .i64 F.col) ∧ w'.cell? ⟨gb, 0, none⟩ = some (.int .i64 F.e) ∧ Turned (fun k => k = ga ∨ k = gb) w w' := by
  refine callsD_of_wpS Tryd.func56 rfl fun c₀ cs hu => ?_
  apply wpS_seq
  apply wpS_region
  simp [wpOpsS, go_sem, recoverD, hu, Tryd.ntmps56, Exit.thenS]
  refine wpS_of_wp ?_
  have e : (#[Value.pointer (some ⟨ga, 0, none⟩), Value.pointer (some ⟨gb, 0, none⟩)] ++ ((Array.replicate 11 undef).setIfInBounds 2 (faultV F)).setIfInBounds 0 (faultV F)) = #[Value.pointer (some ⟨ga, 0, none⟩), Value.pointer (some ⟨gb, 0, none⟩), faultV F, undef, faultV F, undef, undef, undef, undef, undef, undef, undef, undef] := rfl
  rw [e]
  clear e
  have hta := fun w => assert_fault F w
  go_wp2
  have hb := (Below.refl w.heap.size w).alloc (Nat.le_refl _) (.cells #[.int .i64 F.line, .int .i64 F.col, .int .i64 F.e] 105)
  have G := heap_alloc_new w (.cells #[.int .i64 F.line, .int .i64 F.col, .int .i64 F.e] 105)
  have l1 := block_lt_of_cell h0
  have l2 := block_lt_of_cell h2
  generalize w.alloc (.cells #[.int .i64 F.line, .int .i64 F.col, .int .i64 F.e] 105) = W at *
  have k0 := row_of G 0 (.int .i64 F.line) rfl
  have k1 := row_of G 1 (.int .i64 F.col) rfl
  have k2 := row_of G 2 (.int .i64 F.e) rfl
  have d0 := cell_keep hb h0
  have d1 := cell_keep hb h1
  have d2 := cell_keep hb h2
  have g0 := free_keep hb h0 f0
  have g1 := free_keep hb h1 f1
  have g2 := free_keep hb h2 f2
  have n1 : ¬ w.heap.size = ga := by simp at l1; omega
  have n2 : ¬ w.heap.size = gb := by simp at l2; omega
  have n3 : ¬ gb = ga := fun e => hne e.symm
  have n4 : ¬ ga = gb := hne
  have HB := Lib.hid hb
  clear G h0 h1 h2 f0 f1 f2 hb
  go_region
  have hT : Turned (fun k => k = ga ∨ k = gb) w ((((W.setCell ⟨ga, 0, none⟩ (.int .i64 F.line)).setCell ⟨ga, 1, none⟩ (.int .i64 F.col)).setCell ⟨gb, 0, none⟩ (.int .i64 F.e)).drew) := by
    have t1 := (setCell_turned W ⟨ga, 0, none⟩ (.int .i64 F.line)).mono (T := fun k => k = ga ∨ k = gb) (fun i h => .inl h)
    have t2 := (setCell_turned (W.setCell ⟨ga, 0, none⟩ (.int .i64 F.line)) ⟨ga, 1, none⟩ (.int .i64 F.col)).mono (T := fun k => k = ga ∨ k = gb) (fun i h => .inl h)
    have t3 := (setCell_turned ((W.setCell ⟨ga, 0, none⟩ (.int .i64 F.line)).setCell ⟨ga, 1, none⟩ (.int .i64 F.col)) ⟨gb, 0, none⟩ (.int .i64 F.e)).mono (T := fun k => k = ga ∨ k = gb) (fun i h => .inr h)
    have t4 := ((Turned.of_below HB.out).trans ((t1.trans t2).trans t3))
    exact ⟨t4.os, t4.tape, t4.output, t4.size, t4.block⟩
  refine ⟨rfl, .panicking [{ v := faultV F, recovered := true }], rfl, .tuple #[], results_none rfl _ _ _, rfl, rfl, ?_, ?_, ?_, hT⟩
  · go_simp
  · go_simp
  · go_simp
set_option maxRecDepth 100000 in
theorem catch_idle (a b : Addr) (w : World) :
    CallsD Tryd.prog 56 #[.pointer (some a), .pointer (some b)] .returning w fun e u' w' => e = .returned (.tuple #[]) ∧ u' = .returning ∧ w = w' := by
  refine callsD_of_wpS Tryd.func56 rfl fun c₀ cs hu => ?_
  apply wpS_seq
  apply wpS_region
  simp [wpOpsS, go_sem, recoverD, hu, Tryd.ntmps56, Exit.thenS]
  refine wpS_of_wp ?_
  go_wp2
  cases c₀
  simp_all [bodyPostS, results, Tryd.results56]
set_option maxRecDepth 100000 in
set_option maxHeartbeats 3200000 in
theorem check_any (p : ProgD) (cv av fv mv : Value) (w : World) (h : RdProg none w p cv av fv mv) (hL : Laid w) :
    Calls Tryd.prog 21 #[progV p cv av fv mv] w fun e w' => e = .returned (.tuple #[.agg #[.int .i64 (posL (checkF p)), .int .i64 (posC (checkF p))], .int .i64 (errOf (checkF p))]) ∧ Below w.heap.size w w' := by
  obtain ⟨hrc, hra, hrf, hrm, hrw⟩ := id h
  obtain ⟨ac, kc, rfl, -, -⟩ := id hrc
  obtain ⟨aa, ka, rfl, -, -⟩ := id hra
  obtain ⟨af, kf, rfl, -, -⟩ := id hrf
  obtain ⟨am, km, rfl, -, -⟩ := id hrm
  have H := Lib.hid h
  have HL := Lib.hid hL
  have hmm := @run_makeMap Tryd.prog
  have hmf : ∀ (fn : Fn) (first cap : Array Value) (w : World), (Instr.makeFunc fn first cap).run Tryd.prog w = .ok (.func fn first cap) w := fun _ _ _ _ => rfl
  clear h hL hrc hra hrf hrm hrw
  go_enter_defers Tryd.func21, Tryd.ntmps21
  go_upto_region 2 with fail
  have hb1 := (((Below.refl w.heap.size w).alloc (Nat.le_refl _) (.cells #[.int .i64 p.width, .slice ac p.chans.length kc, .slice aa p.arrays.length ka, .slice af p.funcs.length kf, .slice am p.main.length km] 27)).alloc (by simp) (.cells #[.int .i64 0, .int .i64 0] 50)).alloc (by simp; omega) (.cells #[.int .i64 0] 33)
  have q0 := heap3_0 w (.cells #[.int .i64 p.width, .slice ac p.chans.length kc, .slice aa p.arrays.length ka, .slice af p.funcs.length kf, .slice am p.main.length km] 27) (.cells #[.int .i64 0, .int .i64 0] 50) (.cells #[.int .i64 0] 33)
  have q1 := heap3_1 w (.cells #[.int .i64 p.width, .slice ac p.chans.length kc, .slice aa p.arrays.length ka, .slice af p.funcs.length kf, .slice am p.main.length km] 27) (.cells #[.int .i64 0, .int .i64 0] 50) (.cells #[.int .i64 0] 33)
  have q2 := heap3_2 w (.cells #[.int .i64 p.width, .slice ac p.chans.length kc, .slice aa p.arrays.length ka, .slice af p.funcs.length kf, .slice am p.main.length km] 27) (.cells #[.int .i64 0, .int .i64 0] 50) (.cells #[.int .i64 0] 33)
  generalize ((w.alloc (.cells #[.int .i64 p.width, .slice ac p.chans.length kc, .slice aa p.arrays.length ka, .slice af p.funcs.length kf, .slice am p.main.length km] 27)).alloc (.cells #[.int .i64 0, .int .i64 0] 50)).alloc (.cells #[.int .i64 0] 33) = W3 at *
  have b0 := row_of q0 0 (.int .i64 p.width) rfl
  have b1 := row_of q0 1 (.slice ac p.chans.length kc) rfl
  have b2 := row_of q0 2 (.slice aa p.arrays.length ka) rfl
  have b3 := row_of q0 3 (.slice af p.funcs.length kf) rfl
  have b4 := row_of q0 4 (.slice am p.main.length km) rfl
  have HW := Lib.hid hb1
  have HQ1 := Lib.hid q1
  have HQ2 := Lib.hid q2
  have hl2 : w.heap.size + 1 + 1 < W3.heap.size := (Array.getElem?_eq_some_iff.1 q2).1
  have HRD := Lib.hid (H.out.keep hb1)
  have HLD := Lib.hid (HL.out.keep hb1)
  clear hb1 q0 q1 q2
  go_wp2_with fail
  obtain ⟨hb5, hs5, m0, m1, m2, m3, m4⟩ := five W3 (.cells #[.int .i64 p.width, .slice ac p.chans.length kc, .slice aa p.arrays.length ka, .slice af p.funcs.length kf, .slice am p.main.length km, .map (some W3.heap.size), .map (some (W3.heap.size + 1)), .map (some (W3.heap.size + 1 + 1)), .map (some (W3.heap.size + 1 + 1 + 1)), .slice none 0 0] 112)
  have c1 := run_any W3 _ p _ _ _ _ (W3.heap.size + 1 + 1 + 1 + 1) W3.heap.size (W3.heap.size + 1) (W3.heap.size + 1 + 1) (W3.heap.size + 1 + 1 + 1) HRD.out HLD.out hb5 m4 (set_none m0) (set_none m1) (set_none m2) (ints_none m3) ⟨by omega, by omega, by omega, by omega, by omega, by omega, by omega, by omega, by omega, by omega, by omega⟩
  clear hb5 hs5 m0 m1 m2 m3 m4 b0 b1 b2 b3 b4
  refine c1.mono ?_
  rintro e w9 ⟨he, hb9⟩
  clear c1
  have q1 := (hb9.block (w.heap.size + 1) (by omega)).trans HQ1.out
  have q2 := (hb9.block (w.heap.size + 1 + 1) (by omega)).trans HQ2.out
  have r0 := row_of q1 0 (.int .i64 0) rfl
  have r1 := row_of q1 1 (.int .i64 0) rfl
  have r2 := row_of q2 0 (.int .i64 0) rfl
  have f0 := frozen_of_row w9 _ 0 _ _ q1
  have f1 := frozen_of_row w9 _ 1 _ _ q1
  have f2 := frozen_of_row w9 _ 0 _ _ q2
  have HB := Lib.hid (HW.out.trans (hb9.mono HW.out.size))
  cases hc : checkF p with
  | none =>
    rw [hc] at he
    subst he
    have HC := Lib.hid hc
    clear hc q1 q2 hb9
    go_wp2
    refine leaves_cons (f := 56) (args := #[.pointer (some ⟨w.heap.size + 1, 0, none⟩), .pointer (some ⟨w.heap.size + 1 + 1, 0, none⟩)]) (by simp) (by simp [go_sem]) ?_
    refine (catch_idle ⟨w.heap.size + 1, 0, none⟩ ⟨w.heap.size + 1 + 1, 0, none⟩ _).mono ?_
    rintro e u' w'' ⟨rfl, rfl, rfl⟩
    refine ⟨.tuple #[.agg #[.int .i64 0, .int .i64 0], .int .i64 0], ?_, by rw [HC.out]; rfl, ?_⟩
    · simp [results, Tryd.results21, go_sem, r0, r1, r2]
    · exact ((HB.out.setCell (by simp) _).setCell (by simp) _).setCell (by simp; omega) _
  | some F =>
    rw [hc] at he
    subst he
    have HC := Lib.hid hc
    refine leaves_cons (f := 56) (args := #[.pointer (some ⟨w.heap.size + 1, 0, none⟩), .pointer (some ⟨w.heap.size + 1 + 1, 0, none⟩)]) (by simp) (by simp [go_sem]) ?_
    refine (catch_panic (w.heap.size + 1) (w.heap.size + 1 + 1) F _ _ _ _ r0 r1 r2 f0 f1 f2 (by omega)).mono ?_
    rintro e u' w'' ⟨rfl, rfl, s0, s1, s2, ht⟩
    refine ⟨.tuple #[.agg #[.int .i64 F.line, .int .i64 F.col], .int .i64 F.e], ?_, by rw [HC.out]; rfl, ?_⟩
    · simp [results, Tryd.results21, go_sem, s0, s1, s2]
    · exact below_then HB.out ht (by have := hb9.size; omega) (fun i e => by rcases e with e | e <;> omega)
end Go.Proofs.YtgcfdbhpophnjaaDoor
