/- Contract of prog.Check: it returns the position and the error of the program's first fault, or zero. Condition: the program reads, the two package tables read as laid. -/
import Derived.Test.YtgllkgedjplpdaaGreatDoorRun
import Derived.Defers
import Derived.Recover
import Derived.Laws.Pointers
import Derived.RegionTactic
import Derived.ChangeAlike
import Derived.Test.YtgllkgedjplpdaaGreatDoorMix
set_option linter.all false
set_option maxRecDepth 1000000
set_option maxHeartbeats 12800000
set_option linter.unusedVariables false
set_option linter.unusedSimpArgs false
namespace Go.Proofs.YtgllkgedjplpdaaGreatDoor
open Go.ChangeShapes Go.WideShapes Go.ChangeAt Go.RowKit
def errOf : Option FaultD -> Int := fun o => match o with | none => 0 | some F => F.e
def posL : Option FaultD -> Int := fun o => match o with | none => 0 | some F => F.line
def posC : Option FaultD -> Int := fun o => match o with | none => 0 | some F => F.col
theorem push_old (a : Array Obj) (x : Obj) (i : Nat) (h : i < a.size) : (a.push x)[i]? = a[i]? := by
  rw [Array.getElem?_push, if_neg (by omega)]
theorem push_new (a : Array Obj) (x : Obj) (i : Nat) (h : i = a.size) : (a.push x)[i]? = some x := by
  rw [Array.getElem?_push, if_pos h]
theorem five (W : World) (o : Obj) : Below W.heap.size W (((((W.alloc (.map #[] 0)).alloc (.map #[] 0)).alloc (.map #[] 0)).alloc (.map #[] 0)).alloc o) /\
    (((((W.alloc (.map #[] 0)).alloc (.map #[] 0)).alloc (.map #[] 0)).alloc (.map #[] 0)).alloc o).heap.size = W.heap.size + 1 + 1 + 1 + 1 + 1 /\
    (((((W.alloc (.map #[] 0)).alloc (.map #[] 0)).alloc (.map #[] 0)).alloc (.map #[] 0)).alloc o).heap[W.heap.size]? = some (.map #[] 0) /\
    (((((W.alloc (.map #[] 0)).alloc (.map #[] 0)).alloc (.map #[] 0)).alloc (.map #[] 0)).alloc o).heap[W.heap.size + 1]? = some (.map #[] 0) /\
    (((((W.alloc (.map #[] 0)).alloc (.map #[] 0)).alloc (.map #[] 0)).alloc (.map #[] 0)).alloc o).heap[W.heap.size + 1 + 1]? = some (.map #[] 0) /\
    (((((W.alloc (.map #[] 0)).alloc (.map #[] 0)).alloc (.map #[] 0)).alloc (.map #[] 0)).alloc o).heap[W.heap.size + 1 + 1 + 1]? = some (.map #[] 0) /\
    (((((W.alloc (.map #[] 0)).alloc (.map #[] 0)).alloc (.map #[] 0)).alloc (.map #[] 0)).alloc o).heap[W.heap.size + 1 + 1 + 1 + 1]? = some o := by
  have e : (((((W.alloc (.map #[] 0)).alloc (.map #[] 0)).alloc (.map #[] 0)).alloc (.map #[] 0)).alloc o).heap = ((((W.heap.push (.map #[] 0)).push (.map #[] 0)).push (.map #[] 0)).push (.map #[] 0)).push o := rfl
  refine ⟨(((((bR _ _).alloc (nR _) _).alloc (by simp) _).alloc (by simp; omega) _).alloc (by simp; omega) _).alloc (by simp; omega) _, ?_, ?_, ?_, ?_, ?_, ?_⟩ <;> rw [e]
  · simp
  all_goals
    iterate 5 (first | done | (refine push_new _ _ _ ?_; simp; done) | (refine (push_old _ _ _ ?_).trans ?_; (simp <;> omega)))
theorem set_none {w : World} {b : Nat} (h : w.heap[b]? = some (.map #[] 0)) : SetIs w b [] := ⟨#[], 0, h, rfl, fun _ h => nomatch h⟩
theorem ints_none {w : World} {b : Nat} (h : w.heap[b]? = some (.map #[] 0)) : IntsIs w b [] := ⟨#[], 0, h, rfl, fun _ h => nomatch h⟩
theorem assert_fault (F : FaultD) (w : World) : (Instr.typeAssert (faultV F) 20 100 false).run Tryz.prog w = .ok (.agg #[.int .i64 F.line, .int .i64 F.col, .int .i64 F.e]) w := by
  kernel_rfl
set_option maxRecDepth 100000 in
set_option maxHeartbeats 1600000 in
theorem catch_panic (ga gb : Nat) (F : FaultD) (x0 x1 x2 : Value) (w : World) (h0 : w.cell? ⟨ga, 0, none⟩ = some x0) (h1 : w.cell? ⟨ga, 1, none⟩ = some x1) (h2 : w.cell? ⟨gb, 0, none⟩ = some x2) (f0 : w.frozen? ⟨ga, 0, none⟩ = false) (f1 : w.frozen? ⟨ga, 1, none⟩ = false) (f2 : w.frozen? ⟨gb, 0, none⟩ = false) (hne : ga ≠ gb) :
    CallsD Tryz.prog 50 #[.pointer (some ⟨ga, 0, none⟩), .pointer (some ⟨gb, 0, none⟩)] (.panicking [{ v := faultV F, recovered := false }]) w fun e u' w' =>
      e = .returned (.tuple #[]) /\ u' = .panicking [{ v := faultV F, recovered := true }] /\ w'.cell? ⟨ga, 0, none⟩ = some (.int .i64 F.line) /\ w'.cell? ⟨ga, 1, none⟩ = some (.int .i64 F.col) /\ w'.cell? ⟨gb, 0, none⟩ = some (.int .i64 F.e) /\ Turned (fun k => k = ga \/ k = gb) w w' := by
  refine callsD_of_wpS Tryz.func50 rfl fun c₀ cs hu => ?_
  apply wpS_seq
  apply wpS_region
  simp [wpOpsS, go_sem, recoverD, hu, Tryz.ntmps50, Exit.thenS]
  refine wpS_of_wp ?_
  have e : (#[Value.pointer (some ⟨ga, 0, none⟩), Value.pointer (some ⟨gb, 0, none⟩)] ++ ((Array.replicate 11 undef).setIfInBounds 2 (faultV F)).setIfInBounds 0 (faultV F)) = #[Value.pointer (some ⟨ga, 0, none⟩), Value.pointer (some ⟨gb, 0, none⟩), faultV F, undef, faultV F, undef, undef, undef, undef, undef, undef, undef, undef] := rfl
  rw [e]
  clear e
  have hta := fun w => assert_fault F w
  go_wp2
  have hb := (bR w.heap.size w).alloc (nR _) (.cells #[.int .i64 F.line, .int .i64 F.col, .int .i64 F.e] 100)
  have G := heap_alloc_new w (.cells #[.int .i64 F.line, .int .i64 F.col, .int .i64 F.e] 100)
  have l1 := block_lt_of_cell h0
  have l2 := block_lt_of_cell h2
  generalize w.alloc (.cells #[.int .i64 F.line, .int .i64 F.col, .int .i64 F.e] 100) = W at *
  have k0 := row_of G 0 (.int .i64 F.line) rfl
  have k1 := row_of G 1 (.int .i64 F.col) rfl
  have k2 := row_of G 2 (.int .i64 F.e) rfl
  have d0 := cell_keep hb h0
  have d1 := cell_keep hb h1
  have d2 := cell_keep hb h2
  have g0 := free_keep hb h0 f0
  have g1 := free_keep hb h1 f1
  have g2 := free_keep hb h2 f2
  have n1 : ¬ w.heap.size = ga := by simp at l1; omega
  have n2 : ¬ w.heap.size = gb := by simp at l2; omega
  have n3 : ¬ gb = ga := fun e => hne e.symm
  have n4 : ¬ ga = gb := hne
  have HB := Hd hb
  clear G h0 h1 h2 f0 f1 f2 hb
  go_region
  have hT : Turned (fun k => k = ga \/ k = gb) w ((((W.setCell ⟨ga, 0, none⟩ (.int .i64 F.line)).setCell ⟨ga, 1, none⟩ (.int .i64 F.col)).setCell ⟨gb, 0, none⟩ (.int .i64 F.e)).drew) := by
    have t1 := (setCell_turned W ⟨ga, 0, none⟩ (.int .i64 F.line)).mono (T := fun k => k = ga \/ k = gb) (fun i h => .inl h)
    have t2 := (setCell_turned (W.setCell ⟨ga, 0, none⟩ (.int .i64 F.line)) ⟨ga, 1, none⟩ (.int .i64 F.col)).mono (T := fun k => k = ga \/ k = gb) (fun i h => .inl h)
    have t3 := (setCell_turned ((W.setCell ⟨ga, 0, none⟩ (.int .i64 F.line)).setCell ⟨ga, 1, none⟩ (.int .i64 F.col)) ⟨gb, 0, none⟩ (.int .i64 F.e)).mono (T := fun k => k = ga \/ k = gb) (fun i h => .inr h)
    have t4 := ((Turned.of_below HB.out).trans ((t1.trans t2).trans t3))
    exact ⟨t4.os, t4.tape, t4.output, t4.size, t4.block⟩
  refine ⟨rfl, .panicking [{ v := faultV F, recovered := true }], rfl, .tuple #[], results_none rfl _ _ _, rfl, rfl, ?_, ?_, ?_, hT⟩
  · go_simp
  · go_simp
  · go_simp
set_option maxRecDepth 100000 in
theorem catch_idle (a b : Addr) (w : World) :
    CallsD Tryz.prog 50 #[.pointer (some a), .pointer (some b)] .returning w fun e u' w' => e = .returned (.tuple #[]) /\ u' = .returning /\ w = w' := by
  refine callsD_of_wpS Tryz.func50 rfl fun c₀ cs hu => ?_
  apply wpS_seq
  apply wpS_region
  simp [wpOpsS, go_sem, recoverD, hu, Tryz.ntmps50, Exit.thenS]
  refine wpS_of_wp ?_
  go_wp2
  cases c₀
  simp_all [bodyPostS, results, Tryz.results50]
set_option maxRecDepth 100000 in
set_option maxHeartbeats 3200000 in
theorem check_any (p : ProgD) (cv av fv mv : Value) (w : World) (h : RdProg none w p cv av fv mv) (hL : Laid w) :
    Calls Tryz.prog 24 #[progV p cv av fv mv] w fun e w' => e = .returned (.tuple #[.agg #[.int .i64 (posL (checkF p)), .int .i64 (posC (checkF p))], .int .i64 (errOf (checkF p))]) /\ Below w.heap.size w w' := by
  obtain ⟨hrc, hra, hrf, hrm, hrw⟩ := id h
  obtain ⟨ac, kc, rfl, -, -⟩ := id hrc
  obtain ⟨aa, ka, rfl, -, -⟩ := id hra
  obtain ⟨af, kf, rfl, -, -⟩ := id hrf
  obtain ⟨am, km, rfl, -, -⟩ := id hrm
  have H := Hd h
  have HL := Hd hL
  have hmm := @run_makeMap Tryz.prog
  have hmf : ∀ (fn : Fn) (first cap : Array Value) (w : World), (Instr.makeFunc fn first cap).run Tryz.prog w = .ok (.func fn first cap) w := fun _ _ _ _ => rfl
  clear h hL hrc hra hrf hrm hrw
  go_enter_defers Tryz.func24, Tryz.ntmps24
  go_upto_region 2 with fail
  have hb1 := (((bR w.heap.size w).alloc (nR _) (.cells #[.int .i64 p.width, .slice ac p.chans.length kc, .slice aa p.arrays.length ka, .slice af p.funcs.length kf, .slice am p.main.length km] 27)).alloc (by simp) (.cells #[.int .i64 0, .int .i64 0] 35)).alloc (by simp; omega) (.cells #[.int .i64 0] 36)
  have q0 := heap3_0 w (.cells #[.int .i64 p.width, .slice ac p.chans.length kc, .slice aa p.arrays.length ka, .slice af p.funcs.length kf, .slice am p.main.length km] 27) (.cells #[.int .i64 0, .int .i64 0] 35) (.cells #[.int .i64 0] 36)
  have q1 := heap3_1 w (.cells #[.int .i64 p.width, .slice ac p.chans.length kc, .slice aa p.arrays.length ka, .slice af p.funcs.length kf, .slice am p.main.length km] 27) (.cells #[.int .i64 0, .int .i64 0] 35) (.cells #[.int .i64 0] 36)
  have q2 := heap3_2 w (.cells #[.int .i64 p.width, .slice ac p.chans.length kc, .slice aa p.arrays.length ka, .slice af p.funcs.length kf, .slice am p.main.length km] 27) (.cells #[.int .i64 0, .int .i64 0] 35) (.cells #[.int .i64 0] 36)
  generalize ((w.alloc (.cells #[.int .i64 p.width, .slice ac p.chans.length kc, .slice aa p.arrays.length ka, .slice af p.funcs.length kf, .slice am p.main.length km] 27)).alloc (.cells #[.int .i64 0, .int .i64 0] 35)).alloc (.cells #[.int .i64 0] 36) = W3 at *
  have b0 := row_of q0 0 (.int .i64 p.width) rfl
  have b1 := row_of q0 1 (.slice ac p.chans.length kc) rfl
  have b2 := row_of q0 2 (.slice aa p.arrays.length ka) rfl
  have b3 := row_of q0 3 (.slice af p.funcs.length kf) rfl
  have b4 := row_of q0 4 (.slice am p.main.length km) rfl
  have HW := Hd hb1
  have HQ1 := Hd q1
  have HQ2 := Hd q2
  have hl2 : w.heap.size + 1 + 1 < W3.heap.size := (aE q2).1
  have HRD := Hd (H.out.keep hb1)
  have HLD := Hd (HL.out.keep hb1)
  clear hb1 q0 q1 q2
  go_wp2_with fail
  obtain ⟨hb5, hs5, m0, m1, m2, m3, m4⟩ := five W3 (.cells #[.int .i64 p.width, .slice ac p.chans.length kc, .slice aa p.arrays.length ka, .slice af p.funcs.length kf, .slice am p.main.length km, .map (some W3.heap.size), .map (some (W3.heap.size + 1)), .map (some (W3.heap.size + 1 + 1)), .map (some (W3.heap.size + 1 + 1 + 1)), .slice none 0 0] 107)
  have c1 := run_any W3 _ p _ _ _ _ (W3.heap.size + 1 + 1 + 1 + 1) W3.heap.size (W3.heap.size + 1) (W3.heap.size + 1 + 1) (W3.heap.size + 1 + 1 + 1) HRD.out HLD.out hb5 m4 (set_none m0) (set_none m1) (set_none m2) (ints_none m3) ⟨by omega, by omega, by omega, by omega, by omega, by omega, by omega, by omega, by omega, by omega, by omega⟩
  clear hb5 hs5 m0 m1 m2 m3 m4 b0 b1 b2 b3 b4
  refine c1.mono ?_
  rintro e w9 ⟨he, hb9⟩
  clear c1
  have q1 := (hb9.block (w.heap.size + 1) (by omega)).trans HQ1.out
  have q2 := (hb9.block (w.heap.size + 1 + 1) (by omega)).trans HQ2.out
  have r0 := row_of q1 0 (.int .i64 0) rfl
  have r1 := row_of q1 1 (.int .i64 0) rfl
  have r2 := row_of q2 0 (.int .i64 0) rfl
  have f0 := frozen_of_row w9 _ 0 _ _ q1
  have f1 := frozen_of_row w9 _ 1 _ _ q1
  have f2 := frozen_of_row w9 _ 0 _ _ q2
  have HB := Hd (HW.out.trans (hb9.mono HW.out.size))
  cases hc : checkF p with
  | none =>
    rw [hc] at he
    subst he
    have HC := Hd hc
    clear hc q1 q2 hb9
    go_wp2
    refine leaves_cons (f := 50) (args := #[.pointer (some ⟨w.heap.size + 1, 0, none⟩), .pointer (some ⟨w.heap.size + 1 + 1, 0, none⟩)]) (by simp) (by simp [go_sem]) ?_
    refine (catch_idle ⟨w.heap.size + 1, 0, none⟩ ⟨w.heap.size + 1 + 1, 0, none⟩ _).mono ?_
    rintro e u' w'' ⟨rfl, rfl, rfl⟩
    refine ⟨.tuple #[.agg #[.int .i64 0, .int .i64 0], .int .i64 0], ?_, by rw [HC.out]; rfl, ?_⟩
    · simp [results, Tryz.results24, go_sem, r0, r1, r2]
    · exact ((HB.out.setCell (by simp) _).setCell (by simp) _).setCell (by simp; omega) _
  | some F =>
    rw [hc] at he
    subst he
    have HC := Hd hc
    refine leaves_cons (f := 50) (args := #[.pointer (some ⟨w.heap.size + 1, 0, none⟩), .pointer (some ⟨w.heap.size + 1 + 1, 0, none⟩)]) (by simp) (by simp [go_sem]) ?_
    refine (catch_panic (w.heap.size + 1) (w.heap.size + 1 + 1) F _ _ _ _ r0 r1 r2 f0 f1 f2 (by omega)).mono ?_
    rintro e u' w'' ⟨rfl, rfl, s0, s1, s2, ht⟩
    refine ⟨.tuple #[.agg #[.int .i64 F.line, .int .i64 F.col], .int .i64 F.e], ?_, by rw [HC.out]; rfl, ?_⟩
    · simp [results, Tryz.results24, go_sem, s0, s1, s2]
    · exact below_then HB.out ht (by have := hb9.size; omega) (fun i e => by rcases e with e | e <;> omega)
open Go.ChangeShapes Go.WideShapes Go.ChangeAt Go.RowKit
def Ev (P:FaultD->Prop) (o:Option FaultD):Prop:=∀ F,o=some F->P F
section
variable {P:FaultD->Prop}
theorem Ev.none:Ev P none:=fun _ h=>nomatch h
theorem Ev.need {ok:Bool} {line col e:Int} (h:ok=false->P ⟨line,col,e⟩):Ev P (needF ok line col e):=by
 intro F hF
 unfold needF at hF
 cases ok
 ·simp at hF;subst hF;exact h rfl
 ·simp at hF
theorem Ev.or {a b:Option FaultD} (ha:Ev P a) (hb:Ev P b):Ev P (a.or b):=by
 intro F hF
 cases a with
 | none=>exact hb F (by simpa using hF)
 | some x=>exact ha F (by simpa using hF)
theorem Ev.first {α:Type} {f:List α->α->Option FaultD}:∀ (l d:List α),(∀ d x,x ∈ l->Ev P (f d x))->Ev P (firstF f d l)
 | [],_,_=>fun _ h=>by simp [firstF] at h
 | x :: r,d,h=>by
  unfold firstF
  exact (h d x (by simp)).or (Ev.first r (d ++ [x]) (fun d y hy=>h d y (by simp [hy])))
end
def FaultOf (p:ProgD) (F:FaultD):Prop:=
 (3<=F.e/\F.e<=9)/\((F.line=0/\F.col=0) \/ (∃ f ∈ p.funcs,F.line=f.line/\F.col=f.col) \/ (∃ f ∈ p.funcs,∃ x ∈ f.code,F.line=x.line/\F.col=x.col) \/ (∃ x ∈ p.main,F.line=x.line/\F.col=x.col))
section
variable {P:FaultD->Prop}
theorem instrF_ev (chans arrays:List ByteArray) (main:Bool) (labels sites:List ByteArray) (x:InstrD) (h:∀ e,3<=e->e<=9->P ⟨x.line,x.col,e⟩):Ev P (instrF chans arrays main labels sites x):=by
 unfold instrF restF
 refine (Ev.need fun _=>h _ (by omega) (by omega)).or ?_
 repeat' split
 all_goals first|exact Ev.none|exact Ev.need fun _=>h _ (by omega) (by omega)
theorem instrsF_ev (chans arrays:List ByteArray) (main:Bool) (sites:List ByteArray) (code:List InstrD) (line col:Int) (h0:∀ e,3<=e->e<=9->P ⟨line,col,e⟩) (h:∀ x ∈ code,∀ e,3<=e->e<=9->P ⟨x.line,x.col,e⟩):Ev P (instrsF chans arrays main sites code line col):=by
 unfold instrsF codeF
 exact (Ev.need fun _=>h0 _ (by omega) (by omega)).or (Ev.first _ _ fun d x hx=>instrF_ev _ _ _ _ _ _ (h x hx))
theorem targetsF_ev (params:List (ByteArray × Int)) (labels:List ByteArray) (code:List InstrD) (h:∀ x ∈ code,∀ e,3<=e->e<=9->P ⟨x.line,x.col,e⟩):Ev P (targetsF params labels code):=by
 unfold targetsF
 refine Ev.first _ _ fun d x hx=>?_
 unfold targetF
 repeat' split
 ·exact Ev.need fun _=>h x hx _ (by omega) (by omega)
 ·exact (Ev.need fun _=>h x hx _ (by omega) (by omega)).or (Ev.need fun _=>h x hx _ (by omega) (by omega))
 ·exact Ev.none
theorem declF_ev (acc:List ByteArray) (s:ByteArray) (line col:Int) (h0:∀ e,3<=e->e<=9->P ⟨line,col,e⟩):Ev P (declF acc s line col):=
 (Ev.need fun _=>h0 _ (by omega) (by omega)).or (Ev.need fun _=>h0 _ (by omega) (by omega))
theorem declsF_ev (l:List ByteArray) (line col:Int) (h0:∀ e,3<=e->e<=9->P ⟨line,col,e⟩):Ev P (declsF l line col):=Ev.first _ _ fun d s _=>declF_ev _ _ _ _ h0
theorem check_ev (p:ProgD) (h0:∀ e,3<=e->e<=9->P ⟨0,0,e⟩) (hf:∀ f ∈ p.funcs,∀ e,3<=e->e<=9->P ⟨f.line,f.col,e⟩) (hc:∀ f ∈ p.funcs,∀ x ∈ f.code,∀ e,3<=e->e<=9->P ⟨x.line,x.col,e⟩) (hm:∀ x ∈ p.main,∀ e,3<=e->e<=9->P ⟨x.line,x.col,e⟩):Ev P (checkF p):=by
 unfold checkF
 have n0:∀ {ok:Bool} {e:Int},3<=e->e<=9->Ev P (needF ok 0 0 e):=fun h1 h2=>Ev.need fun _=>h0 _ h1 h2
 refine (n0 (by omega) (by omega)).or ?_
 refine (n0 (by omega) (by omega)).or ?_
 refine (declsF_ev _ _ _ h0).or ?_
 refine (n0 (by omega) (by omega)).or ?_
 refine Ev.or ?_ ?_
 ·exact Ev.first _ _ fun d a _=>(declF_ev _ _ _ _ h0).or (n0 (by omega) (by omega))
 refine (n0 (by omega) (by omega)).or ?_
 refine Ev.or ?_ ?_
 ·refine Ev.first _ _ fun d f hx=>?_
  unfold funcF
  exact (declF_ev _ _ _ _ (hf f hx)).or ((Ev.need fun _=>hf f hx _ (by omega) (by omega)).or ((declsF_ev _ _ _ (hf f hx)).or (instrsF_ev _ _ _ _ _ _ _ (hf f hx) (hc f hx))))
 refine (instrsF_ev _ _ _ _ _ _ _ h0 hm).or ?_
 refine Ev.or ?_ ?_
 ·exact Ev.first _ _ fun d f hx=>targetsF_ev _ _ _ (hc f hx)
 refine (targetsF_ev _ _ _ hm).or ?_
 exact Ev.first _ _ fun d f hx=>Ev.need fun _=>hf f hx _ (by omega) (by omega)
end
theorem check_fault {p:ProgD} {F:FaultD} (h:checkF p=some F):FaultOf p F:=
 check_ev (P:=FaultOf p) p (fun e h1 h2=>⟨⟨h1,h2⟩,.inl ⟨rfl,rfl⟩⟩) (fun f hf e h1 h2=>⟨⟨h1,h2⟩,.inr (.inl ⟨f,hf,rfl,rfl⟩)⟩) (fun f hf x hx e h1 h2=>⟨⟨h1,h2⟩,.inr (.inr (.inl ⟨f,hf,x,hx,rfl,rfl⟩))⟩) (fun x hx e h1 h2=>⟨⟨h1,h2⟩,.inr (.inr (.inr ⟨x,hx,rfl,rfl⟩))⟩) F h
theorem formB_args {x:InstrD} (h:formB x=true):x.args.length<=32:=by
 unfold formB at h
 split at h
 ·cases h
 ·unfold countB at h
  simp at h
  omega
theorem need_none {ok:Bool} {line col e:Int} (h:needF ok line col e=none):ok=true:=by
 unfold needF at h
 cases ok
 ·simp at h
 ·rfl
theorem instrsF_none {chans arrays:List ByteArray} {main:Bool} {sites:List ByteArray} {code:List InstrD} {line col:Int} (h:instrsF chans arrays main sites code line col=none):code.length<=1024/\∀ x ∈ code,x.args.length<=32:=by
 unfold instrsF codeF at h
 rw [Option.or_eq_none_iff] at h
 refine ⟨by simpa using need_none h.1,fun x hx=>?_⟩
 obtain ⟨a,b,rfl⟩:=List.append_of_mem hx
 have:=(firstF_none _ _ _).1 h.2 a x b rfl
 unfold instrF at this
 rw [Option.or_eq_none_iff] at this
 have:=need_none this.1
 simp at this
 exact formB_args this.1
theorem check_none {p:ProgD} (h:checkF p=none):(p.main.length<=1024/\∀ x ∈ p.main,x.args.length<=32)/\∀ f ∈ p.funcs,f.params.length<=32/\f.code.length<=1024/\∀ x ∈ f.code,x.args.length<=32:=by
 unfold checkF at h
 simp only [Option.or_eq_none_iff] at h
 obtain ⟨_,_,_,_,_,_,hf,hm,_⟩:=h
 refine ⟨instrsF_none hm,fun f hx=>?_⟩
 obtain ⟨a,b,e⟩:=List.append_of_mem hx
 have:=(firstF_none _ _ _).1 hf a f b e
 unfold funcF at this
 simp only [Option.or_eq_none_iff] at this
 exact ⟨by simpa using need_none this.2.1,instrsF_none this.2.2.2⟩
def addF (ps out:List ByteArray) (s:ByteArray):List ByteArray:=if s.toList.isEmpty || (inL s ps || inL s out) then out else out ++ [s]
def argsL (ps:List ByteArray) (args:List ArgD) (out:List ByteArray):List ByteArray:=args.foldl (fun o a=>addF ps o a.name) out
def localsL (ps:List ByteArray) (code:List InstrD) (out:List ByteArray):List ByteArray:=code.foldl (fun o x=>argsL ps x.args (addF ps o x.dst)) out
def bodyF (p:ProgD) (f:Int):List ByteArray × List InstrD:=if f<0 then ([],p.main) else match p.funcs[f.toNat]? with|some x=>(x.params,x.code)|none=>([],[])
noncomputable def localsF (p:ProgD) (f:Int):List ByteArray × Int:=
 match checkF p with
 | some F=>([],F.e)
 | none=>if f < -1 \/ (p.funcs.length:Int)<=f then ([],3) else (localsL (bodyF p f).1 (bodyF p f).2 [],0)
theorem addF_len (ps out:List ByteArray) (s:ByteArray):(addF ps out s).length<=out.length+1:=by
 unfold addF
 split <;> simp
theorem argsL_step (ps:List ByteArray) (l:List ArgD) (out:List ByteArray) (k:Nat) (y:ArgD) (h:l[k]?=some y):argsL ps (l.take (k+1)) out=addF ps (argsL ps (l.take k) out) y.name:=by
 unfold argsL
 rw [List.take_add_one,h,List.foldl_append];rfl
theorem localsL_step (ps:List ByteArray) (l:List InstrD) (out:List ByteArray) (k:Nat) (x:InstrD) (h:l[k]?=some x):localsL ps (l.take (k+1)) out=argsL ps x.args (addF ps (localsL ps (l.take k) out) x.dst):=by
 unfold localsL
 rw [List.take_add_one,h,List.foldl_append];rfl
theorem inL_snoc (s t:ByteArray) (l:List ByteArray):inL s (l ++ [t])=(inL s l || decide (s=t)):=by simp [inL]
theorem inL_put (s t:ByteArray) (l:List ByteArray):inL s (putL t l)=(inL s l || decide (s=t)):=by
 unfold putL
 cases h:inL t l
 ·simp [inL_snoc]
 ·rw [if_pos rfl]
  by_cases e:s=t
  ·subst e;simp [h]
  ·simp [e]
structure LocAt (base mc oc mb:Nat) (ps out:List ByteArray) (ov:Value) (w:World):Prop where
 set:∃ K,SetIs w mb K/\∀ s,inL s K=(inL s ps || inL s out)
 hm:w.heap[mc]?=some (.cells #[.map (some mb)] 103 (0,0))
 ho:w.heap[oc]?=some (.cells #[ov] 22 (0,0))
 own:w.ownsRow base 9 1 ov out.length (out.flatMap strCells)
 ok:∀ s ∈ out,s.size<=maxLen
 lm:base<=mc
 lo:base<=oc
 lb:base<=mb
theorem LocAt.turn {base mc oc mb:Nat} {ps out:List ByteArray} {ov:Value} {w w':World} (h:LocAt base mc oc mb ps out ov w) (k:Below w.heap.size w w'):LocAt base mc oc mb ps out ov w':=by
 obtain ⟨K,h1,h2⟩:=h.set
 exact ⟨⟨K,h1.keep k,h2⟩,(k.block _ (aE h.hm).1).trans h.hm,(k.block _ (aE h.ho).1).trans h.ho,own_below h.own k,h.ok,h.lm,h.lo,h.lb⟩
theorem setCell_heap {w:World} {b o:Nat} {cs:Array Value} {T:TypeId} {v:Value} (h:w.heap[b]?=some (.cells cs T (0,0))):(w.setCell ⟨b,o,none⟩ v).heap[b]?=some (.cells (cs.setIfInBounds o v) T (0,0)):=heap_setCell_same _ _ o _ _ v h
theorem locAdd (base mc oc mb:Nat) (ps out:List ByteArray) (ov:Value) (s:ByteArray) (w:World) (h:LocAt base mc oc mb ps out ov w) (hs:s.size<=maxLen) (hn:out.length<=40000) :
  Calls Tryz.prog 101 #[.string s,.pointer (some ⟨mc,0,none⟩),.pointer (some ⟨oc,0,none⟩)] w fun e w'=>e=.returned (.tuple #[])/\∃ ov',LocAt base mc oc mb ps (addF ps out s) ov' w'/\Turned (fun k=>k=mb \/ k=oc \/ ov.ownBlock=some k) w w':=by
 obtain ⟨⟨K,hset,hK⟩,hm,ho,hown,hok,lm,lo,lb⟩:=h
 obtain ⟨i0,hi,hz0,hz1,hz2⟩:=info_parts infoStr
 have hc1:=row_of hm 0 (.map (some mb)) rfl
 have hc2:=row_of ho 0 ov rfl
 have hfr:=frozen_of_row w oc 0 _ _ ho
 have hlook:=hset.lookup (P:=Tryz.prog) Tryz.underlying9 Tryz.underlying103 (names_zero w) s hs
 have HK:=Hd (hK s)
 rw [hK s] at hlook
 cases hemp:s.toList.isEmpty
 rotate_left
 ·have HV:Hid (addF ps out s=out):=by show _=_;unfold addF;rw [hemp];rfl
  have HL:Hid (LocAt base mc oc mb ps out ov w):=⟨⟨K,hset,hK⟩,hm,ho,hown,hok,lm,lo,lb⟩
  clear hset hK hm ho hown hok lm lo lb
  go_enter Tryz.func101,Tryz.ntmps101
  go_wp2_with fail
  exact bodyPost_end (results_none rfl _ _ _) rfl ⟨rfl,ov,by rw [HV.out];exact HL.out,Turned.refl _ _⟩
 cases hin:(inL s ps || inL s out)
 rotate_left
 ·have HV:Hid (addF ps out s=out):=by show _=_;unfold addF;rw [hemp,hin];rfl
  have HL:Hid (LocAt base mc oc mb ps out ov w):=⟨⟨K,hset,hK⟩,hm,ho,hown,hok,lm,lo,lb⟩
  rw [hin] at hlook
  clear hset hK hm ho hown hok lm lo lb
  go_enter Tryz.func101,Tryz.ntmps101
  go_wp2_with fail
  exact bodyPost_end (results_none rfl _ _ _) rfl ⟨rfl,ov,by rw [HV.out];exact HL.out,Turned.refl _ _⟩
 have HV:Hid (addF ps out s=out ++ [s]):=by show _=_;unfold addF;rw [hemp,hin];rfl
 rw [hin] at hlook HK
 have HL:Hid (LocAt base mc oc mb ps out ov w):=⟨⟨K,hset,hK⟩,hm,ho,hown,hok,lm,lo,lb⟩
 have HS:=Hd hset
 have HKK:=Hd hK
 have hput:Hid (putL s K=K ++ [s]):=by show _=_;unfold putL;rw [HK.out];rfl
 have nm:mb ≠ mc:=map_ne_cells hset hm
 have no:mb ≠ oc:=map_ne_cells hset ho
 have nb:=own_ne_map hown hset
 have nc:=own_ne_cells hown hm (by decide)
 have nd:=own_ne_cells hown ho (by decide)
 have hcm:mc ≠ oc:=fun e=>by subst e;rw [hm] at ho;simp at ho
 obtain ⟨a0,c0,rfl,_⟩:=own_read hown
 have HO:=Hd hown
 have HOK:=Hd hok
 have HM:=Hd hm
 have HOO:=Hd ho
 clear hset hK hm ho hown hok hin
 go_enter Tryz.func101,Tryz.ntmps101
 go_upto_region 1 with fail
 clear hlook
 go_upto_region 2 with (at_mapUpdate;refine wpList_set_store rfl _ _ _ _ rfl _ _ Tryz.underlying9 Tryz.underlying103 mb K rfl s rfl rfl hs HS.out ?_;intro w5 hs5 hg5 hz5;have HT5:=Hd (Turned.of_grown (S:=fun k=>k=mb) hg5 (fun b e=>by cases e;rfl));have HS5:=Hd hs5;have hz7:=Nat.le_of_eq hz5.symm;clear hs5 hg5 hz5)
 have d2:=HT5.out.cell hc2 (fun e=>no e.symm)
 have HM5:=Hd ((HT5.out.block mc (aE HM.out).1 (fun e=>nm e.symm)).trans HM.out)
 have HO5:=Hd ((HT5.out.block oc (aE HOO.out).1 (fun e=>no e.symm)).trans HOO.out)
 have HW5:=Hd (own_turn HO.out HT5.out (fun k hk e=>nb (by rw [hk,e])))
 have hfr5:=frozen_of_row w5 oc 0 _ _ HO5.out
 have hz9:base<=w5.heap.size:=Nat.le_trans lb (Nat.le_of_lt HS5.out.lt)
 clear hc1 hc2 hfr
 go_wp2_with (at_builtin;refine wpList_append_own_at _ rfl (.tmp 14) (.tmp 16) 22 rfl base 9 i0 (.string ⟨#[]⟩) 1 16 Tryz.underlying22 hi hz0 hz1 hz2 rfl (by decide) _ _ _ rfl (HW5.out.alloc _) ⟨w5.heap.size,0,none⟩ 1 1 (strCells s) rfl rfl (many_new _ _ _) ?c2 ?c3 ?c4 ?c5 ?_)
 case c2=>intro u hu;simp [strCells] at hu;subst hu;rfl
 case c3=>unfold maxLen;omega
 case c4=>omega
 case c5=>simp;omega
 intro v' w6 hown' hgrow _ hat
 have hal:Below w5.heap.size w5 (w5.alloc (.cells (strCells s).toArray 9)):=(bR _ _).alloc (nR _) _
 have e5:(w5.alloc (.cells (strCells s).toArray 9)).heap.size=w5.heap.size+1:=by
  show (w5.heap.push _).size=_
  simp
 have HT6:Hid (Turned (fun k=>(Value.slice a0 out.length c0).ownBlock=some k) w5 w6):=(Turned.of_below hal).trans (Turned.of_grown hgrow (fun b e=>e))
 have hoc5:oc<w5.heap.size:=(aE HO5.out).1
 have HO6:=Hd ((HT6.out.block oc hoc5 nd).trans HO5.out)
 have HM6:=Hd ((HT6.out.block mc (aE HM5.out).1 nc).trans HM5.out)
 have HS6:Hid (SetIs w6 mb (K ++ [s])):=by
  have h:=HS5.out
  rw [hput.out] at h
  exact h.turn HT6.out nb
 have nv:Hid (v'.ownBlock ≠ some oc):=by
  rcases hat with h|h
  ·rw [h];exact nd
  ·rw [h];refine fun e=>?_;simp at e;omega
 have HW6:Hid (w6.ownsRow base 9 1 v' (out ++ [s]).length ((out ++ [s]).flatMap strCells)):=by
  have:(out ++ [s]).flatMap strCells=out.flatMap strCells ++ strCells s:=by simp
  rw [this,List.length_append,List.length_singleton]
  exact hown'
 obtain ⟨a7,c7,rfl,_⟩:=own_read hown'
 have g2:=row_of HO6.out 0 _ rfl
 have hfr6:=frozen_of_row w6 oc 0 _ _ HO6.out
 clear hown' hgrow hat hal e5 d2 hfr5
 go_wp2_with fail
 have ts:=setCell_turned w6 ⟨oc,0,none⟩ (.slice a7 (out.length+1) c7)
 refine bodyPost_end (results_none rfl _ _ _) rfl ⟨rfl,.slice a7 (out.length+1) c7,?_,?_⟩
 ·rw [HV.out]
  refine ⟨⟨K ++ [s],HS6.out.turn ts no,fun t=>?_⟩,(ts.block mc (aE HM6.out).1 hcm).trans HM6.out,setCell_heap HO6.out,own_turn HW6.out ts (fun k hk e=>nv.out (by rw [hk,e])),?_,lm,lo,lb⟩
  ·rw [inL_snoc,inL_snoc,HKK.out,Bool.or_assoc]
  ·intro t ht
   rcases List.mem_append.1 ht with ht|ht
   ·exact HOK.out t ht
   ·rw [List.mem_singleton] at ht;subst ht;exact hs
 ·have t5:=HT5.out.mono (T:=fun k=>k=mb \/ k=oc \/ (Value.slice a0 out.length c0).ownBlock=some k) (fun i h=>.inl h)
  have t6:=HT6.out.mono (T:=fun k=>k=mb \/ k=oc \/ (Value.slice a0 out.length c0).ownBlock=some k) (fun i h=>.inr (.inr h))
  have t7:=ts.mono (T:=fun k=>k=mb \/ k=oc \/ (Value.slice a0 out.length c0).ownBlock=some k) (fun i h=>.inr (.inl h))
  exact (t5.trans t6).trans t7
theorem argsL_len (ps:List ByteArray):∀ (l:List ArgD) (out:List ByteArray),(argsL ps l out).length<=out.length+l.length
 | [],out=>by simp [argsL]
 | a :: r,out=>by
  have h1:=argsL_len ps r (addF ps out a.name)
  have h2:=addF_len ps out a.name
  show (argsL ps r (addF ps out a.name)).length<=_
  simp only [List.length_cons]
  omega
theorem localsL_len (ps:List ByteArray):∀ (l:List InstrD) (out:List ByteArray),(∀ x ∈ l,x.args.length<=32)->(localsL ps l out).length<=out.length+33 * l.length
 | [],out,_=>by simp [localsL]
 | x :: r,out,h=>by
  have h0:=h x (by simp)
  have h1:=localsL_len ps r (argsL ps x.args (addF ps out x.dst)) (fun y hy=>h y (by simp [hy]))
  have h2:=argsL_len ps x.args (addF ps out x.dst)
  have h3:=addF_len ps out x.dst
  show (localsL ps r (argsL ps x.args (addF ps out x.dst))).length<=_
  simp only [List.length_cons]
  omega
theorem rdStrs_nil (lo:Option (Nat->Prop)) (w:World):RdStrs lo w (.slice none 0 0) []:=⟨none,0,rfl,by simp,fun i s h=>by simp at h⟩
theorem locals_any (p:ProgD) (cv av fv mv:Value) (f:Int) (w:World) (h:RdProg none w p cv av fv mv) (hL:Laid w) (hf:InI64 f) :
  Calls Tryz.prog 70 #[progV p cv av fv mv,.int .i64 f] w fun e w'=>∃ v,e=.returned (.tuple #[v,.int .i64 (localsF p f).2])/\RdStrs (some (upFrom w.heap.size)) w' v (localsF p f).1/\Below w.heap.size w w':=by
 obtain ⟨hrc,hra,hrf,hrm,hrw⟩:=id h
 obtain ⟨ac,kc,rfl,-,-⟩:=id hrc
 obtain ⟨aa,ka,rfl,-,-⟩:=id hra
 obtain ⟨af,kf,rfl,-,hrfs⟩:=id hrf
 obtain ⟨am,km,rfl,-,-⟩:=id hrm
 have H:=Hd h
 have HL:=Hd hL
 have HRF:=Hd hrfs
 have HRM:=Hd hrm
 have hmm:=@run_makeMap Tryz.prog
 have hmf:∀ (fn:Fn) (first cap:Array Value) (w:World),(Instr.makeFunc fn first cap).run Tryz.prog w=.ok (.func fn first cap) w:=fun _ _ _ _=>rfl
 clear h hL hrc hra hrf hrm hrw hrfs
 go_enter Tryz.func70,Tryz.ntmps70
 go_upto_region 1 with fail
 have hb1:=(bR w.heap.size w).alloc (nR _) (.cells #[.int .i64 p.width,.slice ac p.chans.length kc,.slice aa p.arrays.length ka,.slice af p.funcs.length kf,.slice am p.main.length km] 27)
 have q0:=heap_alloc_new w (.cells #[.int .i64 p.width,.slice ac p.chans.length kc,.slice aa p.arrays.length ka,.slice af p.funcs.length kf,.slice am p.main.length km] 27)
 generalize w.alloc (.cells #[.int .i64 p.width,.slice ac p.chans.length kc,.slice aa p.arrays.length ka,.slice af p.funcs.length kf,.slice am p.main.length km] 27)=W at *
 have b0:=row_of q0 0 (.int .i64 p.width) rfl
 have b1:=row_of q0 1 (.slice ac p.chans.length kc) rfl
 have b2:=row_of q0 2 (.slice aa p.arrays.length ka) rfl
 have b3:=row_of q0 3 (.slice af p.funcs.length kf) rfl
 have b4:=row_of q0 4 (.slice am p.main.length km) rfl
 have HB1:=Hd hb1
 have HRD:=Hd (H.out.keep hb1)
 have HLD:=Hd (HL.out.keep hb1)
 clear hb1 q0
 have c1:=check_any p _ _ _ _ _ HRD.out HLD.out
 cases hc:checkF p with
 | some F=>
  rw [hc] at c1
  have hF:=check_fault hc
  have hne:(F.e != 0)=true:=by have:=hF.1;simp;omega
  have hne2:(F.e == 0)=false:=by have:=hF.1;simp;omega
  have HC:=Hd c1
  have HV:Hid (localsF p f=([],F.e)):=by show _=_;unfold localsF;rw [hc]
  clear c1 hc hF
  simp only [errOf,posL,posC] at HC
  go_upto_region 2 with (go_at_call 24;refine HC.out.mono ?_;rintro e w1 ⟨rfl,hb2⟩)
  clear b0 b1 b2 b3 b4
  go_wp2_with fail
  refine bodyPost_ret (v:=.tuple #[.slice none 0 0,.int .i64 F.e]) (by simp [results,Tryz.results70,go_sem]) rfl ⟨_,by rw [HV.out],by rw [HV.out];exact rdStrs_nil _ _,?_⟩
  exact (bcomp HB1.out hb2).alloc (by have:=HB1.out.size;have:=hb2.size;omega) _
 | none=>
  rw [hc] at c1
  have HN:=Hd (check_none hc)
  have HC:=Hd c1
  have HCF:=Hd hc
  clear c1 hc
  simp only [errOf,posL,posC] at HC
  go_upto_region 2 with (go_at_call 24;refine HC.out.mono ?_;rintro e w1 ⟨rfl,hb2⟩)
  go_upto_region 4 with fail
  have hb3:=hb2.alloc hb2.size (.cells #[.int .i64 0,.int .i64 0] 35)
  generalize w1.alloc (.cells #[.int .i64 0,.int .i64 0] 35)=W2 at *
  have HB3:=Hd (bcomp HB1.out hb3)
  have d3:=cell_keep hb3 b3
  have d4:=cell_keep hb3 b4
  clear b0 b1 b2 b3 b4 hb2 hb3
  have hrange:(f < -1) \/ (¬ f < -1/\(p.funcs.length:Int)<=f) \/ (¬ f < -1/\¬ (p.funcs.length:Int)<=f):=by omega
  rcases hrange with h1|⟨h1,h2⟩|⟨h1,h2⟩
  ·have HV:Hid (localsF p f=([],3)):=by show _=_;unfold localsF;rw [HCF.out];simp only;rw [if_pos (.inl h1)]
   go_wp2_with fail
   refine bodyPost_ret (v:=.tuple #[.slice none 0 0,.int .i64 3]) (by simp [results,Tryz.results70,go_sem]) rfl ⟨_,by rw [HV.out],by rw [HV.out];exact rdStrs_nil _ _,HB3.out⟩
  ·have HV:Hid (localsF p f=([],3)):=by show _=_;unfold localsF;rw [HCF.out];simp only;rw [if_pos (.inr h2)]
   go_wp2_with fail
   refine bodyPost_ret (v:=.tuple #[.slice none 0 0,.int .i64 3]) (by simp [results,Tryz.results70,go_sem]) rfl ⟨_,by rw [HV.out],by rw [HV.out];exact rdStrs_nil _ _,HB3.out⟩
  have HV:Hid (localsF p f=(localsL (bodyF p f).1 (bodyF p f).2 [],0)):=by show _=_;unfold localsF;rw [HCF.out];simp only;rw [if_neg (by omega)]
  have hge:Hid (w.heap.size<=W2.heap.size):=HB3.out.size
  go_upto_if 39 with fail
  have hb4:=((bR W2.heap.size W2).alloc (nR _) (.map #[] 0)).alloc (by simp) (.cells #[.map (some W2.heap.size)] 103)
  have g0:=heap_alloc2_old W2 (.map #[] 0) (.cells #[.map (some W2.heap.size)] 103)
  have g1:=heap_alloc2_new W2 (.map #[] 0) (.cells #[.map (some W2.heap.size)] 103)
  generalize ((W2.alloc (.map #[] 0)).alloc (.cells #[.map (some W2.heap.size)] 103))=W3 at *
  have HB4:=Hd (bcomp HB3.out hb4)
  have HM4:=Hd g1
  have HS4:Hid (SetIs W3 W2.heap.size []):=set_none g0
  have hlt4:W2.heap.size+1<W3.heap.size:=(aE g1).1
  have d3':=cell_keep hb4 d3
  have d4':=cell_keep hb4 d4
  have hm4:=row_of g1 0 _ rfl
  clear d3 d4 g0 g1 hb4
  go_cut [8] from 10 (fun cc wx=>∃ K,RdInstrs none w cc (bodyF p f).2/\SetIs wx W2.heap.size K/\(∀ s,inL s K=inL s (bodyF p f).1)/\wx.heap[W2.heap.size+1]?=some (.cells #[.map (some W2.heap.size)] 103 (0,0))/\Below w.heap.size w wx)
  case first=>
   by_cases hneg:f<0
   ·obtain rfl:f=-1:=by omega
    go_wp2_with fail
    go_meet
    exact ⟨[],HRM.out,HS4.out,fun _=>rfl,HM4.out,HB4.out⟩
   obtain ⟨k,rfl⟩:∃ k:Nat,f=k:=⟨f.toNat,by omega⟩
   have hk:k<p.funcs.length:=by omega
   obtain ⟨fd,hfd⟩:∃ fd,p.funcs[k]?=some fd:=⟨_,lG hk⟩
   have hbody:Hid (bodyF p k=(fd.params,fd.code)):=by show _=_;unfold bodyF;rw [if_neg (by omega)];simp [hfd]
   obtain ⟨bf,of,pv,fv,rfl,_,e0,e1,e2,e3,e4,hri⟩:=HRF.out k fd hfd
   have hp:=hri.1
   have HCO:=Hd hri.2.1
   obtain ⟨ap,kp,rfl,hpl,hpr⟩:=id hp
   obtain ⟨acd,kcd,rfl,_⟩:=id hri.2.1
   have r1:=cell_keepB HB4.out e1 (block_lt_of_cell e1)
   have r2:=cell_keepB HB4.out e2 (block_lt_of_cell e2)
   have HPR:=Hd hpr
   have hklt:(k:Int)<(p.funcs.length:Int):=by omega
   clear e0 e1 e2 e3 e4 hri hp hpr hfd
   go_wp2_with fail
   go_loopw [53] (fun i wr=>∃ (j:Nat) (K:List ByteArray),j<=fd.params.length/\i=.int .i64 j/\SetIs wr W2.heap.size K/\(∀ s,inL s K=inL s (fd.params.take j))/\wr.heap[W2.heap.size+1]?=some (.cells #[.map (some W2.heap.size)] 103 (0,0))/\Below w.heap.size w wr) (fun i _=>fd.params.length - (intOf i).toNat)
   case atStart=>exact ⟨0,[],Nat.zero_le _,rfl,HS4.out,fun _=>rfl,HM4.out,HB4.out⟩
   case round=>
    obtain ⟨j,K,hj,rfl,hset,hK,hmm4,hb⟩:=hrel
    have HS:=Hd hset
    have HK:=Hd hK
    have HM:=Hd hmm4
    have hm5:=row_of hmm4 0 _ rfl
    clear hset hK hmm4
    by_cases hlt:j<fd.params.length
    rotate_left
    ·obtain rfl:j=fd.params.length:=by omega
     go_wp2_with fail
     go_meet
     exact ⟨K,by rw [hbody.out];exact HCO.out,HS.out,by rw [hbody.out];have:=HK.out;rw [List.take_length] at this;exact this,HM.out,hb⟩
    obtain ⟨s,hs⟩:∃ s,fd.params[j]?=some s:=⟨_,lG hlt⟩
    obtain ⟨bp,op,rfl,_,n0,hsz⟩:=HPR.out j s hs
    have n1:=cell_keepB hb n0 (block_lt_of_cell n0)
    have HSS:=Hd hs
    have hjlt:(j:Int)<(fd.params.length:Int):=by omega
    clear n0 hs
    go_wp2_with (at_mapUpdate;refine wpList_set_store rfl _ _ _ _ rfl _ _ Tryz.underlying9 Tryz.underlying103 W2.heap.size K rfl s rfl rfl hsz HS.out ?_;intro w5 hs5 hg5 hz5;have HT5:=Hd (Turned.of_grown (S:=fun k=>k=W2.heap.size) hg5 (fun b e=>by cases e;rfl));have HS5:=Hd hs5;have hz7:=Nat.le_of_eq hz5.symm;clear hs5 hg5 hz5)
    have HB5:=Hd (below_then hb HT5.out (Nat.le_trans hge.out (Nat.le_of_lt HS.out.lt)) (fun i e=>by rw [e];exact hge.out))
    have HM5:=Hd ((HT5.out.block (W2.heap.size+1) (aE HM.out).1 (by omega)).trans HM.out)
    go_roundw
    case rel=>
     refine ⟨j+1,putL s K,by omega,by go_num,HS5.out,fun t=>?_,HM5.out,HB5.out⟩
     rw [inL_put,HK.out,List.take_add_one,HSS.out]
     exact (inL_snoc _ _ _).symm
    case measure=>simp [intOf];omega
  case rest=>
   obtain ⟨K,hrd,hset,hK,hmm4,hb⟩:=hcut
   obtain ⟨acd,kcd,rfl,hcl,hcr⟩:=id hrd
   have hlen:(bodyF p f).2.length<=1024/\∀ x ∈ (bodyF p f).2,x.args.length<=32:=by
    unfold bodyF
    split
    ·exact HN.out.1
    ·split
     ·rename_i x hx
      exact (HN.out.2 x (List.mem_of_getElem? hx)).2
     ·simp
   have HLEN:=Hd hlen
   generalize bodyF p f=B at *
   obtain ⟨ps,code⟩:=B
   simp only at hcl hcr hlen hK
   have HCR:=Hd hcr
   have HST:Hid (∃ K,SetIs wc W2.heap.size K/\∀ s,inL s K=(inL s ps || inL s [])):=⟨K,hset,fun s=>by rw [hK s];simp [inL]⟩
   have HMM:=Hd hmm4
   have hltc:W2.heap.size+1<wc.heap.size:=(aE hmm4).1
   have hb6:Below wc.heap.size wc (wc.alloc (.cells #[.slice none 0 0] 22)):=(bR _ _).alloc (nR _) _
   have g6:=heap_alloc_new wc (.cells #[.slice none 0 0] 22)
   have hlc:=hlen.1
   clear hrd hset hK hmm4 hcr d3' d4' hm4 hlen hmm
   go_upto_region 15 with fail
   generalize wc.alloc (.cells #[.slice none 0 0] 22)=W6 at *
   have hl6:wc.heap.size<W6.heap.size:=(aE g6).1
   have HB6:=Hd (bcomp hb hb6)
   have HG:=Hd (Nat.le_trans hge.out (Nat.le_of_lt (Nat.lt_of_succ_lt hltc)))
   have HLOC:Hid (LocAt w.heap.size (W2.heap.size+1) wc.heap.size W2.heap.size ps [] (.slice none 0 0) W6):=by
    obtain ⟨K,h1,h2⟩:=HST.out
    exact ⟨⟨K,h1.keep hb6,h2⟩,(hb6.block _ hltc).trans HMM.out,g6,World.ownsRow_nil _ _ _ _,(fun s h=>nomatch h),Nat.le_trans hge.out (Nat.le_succ _),HG.out,hge.out⟩
   clear hb6 g6 hb
   go_wp2_with fail
   go_loopw [63] (fun i wr=>∃ (j:Nat) (ov:Value),j<=code.length/\i=.int .i64 j/\LocAt w.heap.size (W2.heap.size+1) wc.heap.size W2.heap.size ps (localsL ps (code.take j) []) ov wr/\Below w.heap.size w wr) (fun i _=>code.length - (intOf i).toNat)
   case atStart=>exact ⟨0,_,Nat.zero_le _,rfl,HLOC.out,HB6.out⟩
   case round=>
    obtain ⟨wo,rfl⟩:∃ x:World,x=wr:=⟨_,rfl⟩
    obtain ⟨j,ov,hj,rfl,hloc,hb⟩:=hrel
    have HLO:=Hd hloc
    have HB:=Hd hb
    have hol:(localsL ps (code.take j) []).length<=33 * j:=by
     have:=localsL_len ps (code.take j) [] (fun x hx=>HLEN.out.2 x (List.mem_of_mem_take hx))
     simp only [List.length_nil,List.length_take,Nat.zero_add] at this
     omega
    by_cases hlt:j<code.length
    rotate_left
    ·obtain rfl:j=code.length:=by omega
     have g2:=row_of hloc.ho 0 ov rfl
     obtain ⟨a8,c8,rfl,_⟩:=own_read hloc.own
     clear hloc hb
     go_wp2_with fail
     have hown:=HLO.out.own
     have hok:=HLO.out.ok
     rw [List.take_length] at *
     refine bodyPost_ret (v:=.tuple #[.slice a8 (localsL ps code []).length c8,.int .i64 0]) (by simp [results,Tryz.results70,go_sem]) rfl ⟨_,by rw [HV.out],by rw [HV.out];exact own_strs hown (by simp only;omega) hok,HB.out⟩
    obtain ⟨x,hx⟩:∃ x,code[j]?=some x:=⟨_,lG hlt⟩
    obtain ⟨bx,ox,av2,rfl,_,i0,i1,i2,i3,i4,i5,i6,hri⟩:=HCR.out j x hx
    obtain ⟨aa2,ca2,rfl,hal,har⟩:=id hri.1
    have hxl:=HLEN.out.2 x (List.mem_of_getElem? hx)
    have k0:=cell_keepB hb i0 (block_lt_of_cell i0)
    have k1:=cell_keepB hb i1 (block_lt_of_cell i1)
    have k2:=cell_keepB hb i2 (block_lt_of_cell i2)
    have k3:=cell_keepB hb i3 (block_lt_of_cell i3)
    have k4:=cell_keepB hb i4 (block_lt_of_cell i4)
    have k5:=cell_keepB hb i5 (block_lt_of_cell i5)
    have k6:=cell_keepB hb i6 (block_lt_of_cell i6)
    have HX:=Hd hx
    have HAR:=Hd har
    have hdz:=hri.2.2.2.2.2.1
    have hjlt:(j:Int)<(code.length:Int):=by omega
    clear i0 i1 i2 i3 i4 i5 i6 hri hx har hloc
    go_upto_region 19 with fail
    have hb7:Below wo.heap.size wo (wo.alloc (.cells #[.int .u8 x.kind,.int .u8 x.op,.string x.dst,.string x.name,.slice aa2 x.args.length ca2,.int .i64 x.line,.int .i64 x.col] 50)):=(bR _ _).alloc (nR _) _
    have G7:=heap_alloc_new wo (.cells #[.int .u8 x.kind,.int .u8 x.op,.string x.dst,.string x.name,.slice aa2 x.args.length ca2,.int .i64 x.line,.int .i64 x.col] 50)
    generalize wo.alloc (.cells #[.int .u8 x.kind,.int .u8 x.op,.string x.dst,.string x.name,.slice aa2 x.args.length ca2,.int .i64 x.line,.int .i64 x.col] 50)=W7 at *
    have m2:=row_of G7 2 (.string x.dst) rfl
    have m4:=row_of G7 4 (.slice aa2 x.args.length ca2) rfl
    have HG7:=Hd G7
    have HB7:=Hd (bcomp hb hb7)
    have HL7:=Hd (HLO.out.turn hb7)
    have C1:=Hd (locAdd w.heap.size (W2.heap.size+1) wc.heap.size W2.heap.size ps _ ov x.dst W7 HL7.out hdz (by omega))
    clear k0 k1 k2 k3 k4 k5 k6 hb7 G7 hb
    go_upto_region 20 with (go_at_call 101;refine C1.out.mono ?_;rintro e w8 ⟨rfl,ov8,hl8,ht8⟩)
    have n4:=ht8.cell m4 (by
     rintro (e|e|e)
     ·obtain ⟨K,h1,_⟩:=HL7.out.set
      exact map_ne_cells h1 HG7.out e.symm
     ·have h1:=HL7.out.ho
      have h2:=HG7.out
      simp only at e
      rw [e] at h2
      rw [h2] at h1
      simp at h1
     ·exact own_ne_cells HL7.out.own HG7.out (by decide) e)
    have HL8:=Hd hl8
    have HB8:Hid (Below w.heap.size w w8):=below_then HB7.out ht8 HB7.out.size (fun i e=>by
     rcases e with e|e|e
     ·rw [e];exact hge.out
     ·rw [e];exact HG.out
     ·exact own_row_le HL7.out.own i e)
    have hol8:=addF_len ps (localsL ps (code.take j) []) x.dst
    clear hl8 ht8 m2 m4
    generalize hout8:addF ps (localsL ps (code.take j) []) x.dst=out8 at *
    have HO8:=Hd hout8
    clear hout8
    go_wp2_with fail
    go_loopw [74] (fun i wr=>∃ (m:Nat) (ov:Value),m<=x.args.length/\i=.int .i64 m/\LocAt w.heap.size (W2.heap.size+1) wc.heap.size W2.heap.size ps (argsL ps (x.args.take m) out8) ov wr/\Below w.heap.size w wr) (fun i _=>x.args.length - (intOf i).toNat)
    case atStart=>exact ⟨0,ov8,Nat.zero_le _,rfl,HL8.out,HB8.out⟩
    case round=>
     obtain ⟨wi,rfl⟩:∃ x:World,x=wr:=⟨_,rfl⟩
     obtain ⟨m,ovi,hm,rfl,hloc,hb⟩:=hrel
     have HLO:=Hd hloc
     have hai:=argsL_len ps (x.args.take m) out8
     rw [List.length_take,Nat.min_eq_left hm] at hai
     by_cases hmt:m<x.args.length
     rotate_left
     ·obtain rfl:m=x.args.length:=by omega
      clear hloc
      go_wp2_with fail
      go_roundw
      case rel=>
       refine ⟨j+1,ovi,by omega,by go_num,?_,hb⟩
       have:=HLO.out
       rw [List.take_length] at this
       rw [localsL_step ps code [] j x HX.out,HO8.out]
       exact this
      case measure=>simp [intOf];omega
     obtain ⟨y,hy⟩:∃ y,x.args[m]?=some y:=⟨_,lG hmt⟩
     obtain ⟨by',oy,rfl,_,z0,z1,_,hnz⟩:=HAR.out m y hy
     have y0:=cell_keepB hb z0 (block_lt_of_cell z0)
     have y1:=cell_keepB hb z1 (block_lt_of_cell z1)
     have HY:=Hd hy
     have hmlt:(m:Int)<(x.args.length:Int):=by omega
     clear z0 z1 hy hloc
     go_upto_region 23 with fail
     have hb9:Below wi.heap.size wi (wi.alloc (.cells #[.string y.name,.int .u64 y.num] 47)):=(bR _ _).alloc (nR _) _
     have G9:=heap_alloc_new wi (.cells #[.string y.name,.int .u64 y.num] 47)
     generalize wi.alloc (.cells #[.string y.name,.int .u64 y.num] 47)=W9 at *
     have p0:=row_of G9 0 (.string y.name) rfl
     have HB9:=Hd (bcomp hb hb9)
     have HL9:=Hd (HLO.out.turn hb9)
     have C1:=Hd (locAdd w.heap.size (W2.heap.size+1) wc.heap.size W2.heap.size ps _ ovi y.name W9 HL9.out hnz (by omega))
     clear y0 y1 hb9 G9 hb
     go_wp2_with (go_at_call 101;refine C1.out.mono ?_;rintro e w10 ⟨rfl,ov10,hl10,ht10⟩)
     have HB10:Hid (Below w.heap.size w w10):=below_then HB9.out ht10 HB9.out.size (fun i e=>by
      rcases e with e|e|e
      ·rw [e];exact hge.out
      ·rw [e];exact HG.out
      ·exact own_row_le HL9.out.own i e)
     go_roundw
     case rel=>exact ⟨m+1,ov10,by omega,by go_num,by rw [argsL_step ps x.args out8 m y HY.out];exact hl10,HB10.out⟩
     case measure=>simp [intOf];omega
end Go.Proofs.YtgllkgedjplpdaaGreatDoor
