/- The chapter's examples as data, their flat programs, and the contracts of the law's small functions: num, reg, makes. Conditions: the argument reads as a program, and the tables are laid. -/
import Derived.Test.YtgcfdbhpophnjaaDoorFlG
import Derived.Test.YtgcfdbhpophnjaaDoorAwa
import Derived.Test.YtgcfdbhpophnjaaDoorMixG
set_option linter.unusedVariables false
set_option linter.unusedSimpArgs false
set_option linter.unnecessarySimpa false
namespace Go.Proofs.YtgcfdbhpophnjaaDoor
open Go.WideShapes Go.ChangeAt Go.RowKit Go.ChangeShapes
def sx : ByteArray := ⟨#[120]⟩
def sy : ByteArray := ⟨#[121]⟩
def sp : ByteArray := ⟨#[112]⟩
def sL : ByteArray := ⟨#[76]⟩
def sf : ByteArray := ⟨#[102]⟩
def sc : ByteArray := ⟨#[99]⟩
def ss : ByteArray := ⟨#[115]⟩
def s0 : ByteArray := ⟨#[]⟩
def aX : ArgD := ⟨sx, 0⟩
def aY : ArgD := ⟨sy, 0⟩
def aP : ArgD := ⟨sp, 0⟩
def aN (n : Int) : ArgD := ⟨s0, n⟩
def loopI : List InstrD := [⟨10, 0, s0, sL, [], 0, 0⟩, ⟨1, 4, sx, s0, [aX, aN 5], 0, 0⟩, ⟨9, 0, s0, sL, [aX], 0, 0⟩]
def fnD : FuncD := ⟨sf, [sp], [⟨1, 2, sy, s0, [aP], 0, 0⟩, ⟨12, 0, s0, s0, [aY], 0, 0⟩], 0, 0⟩
def fn0 : FuncD := ⟨sf, [], [], 0, 0⟩
def callI : List InstrD := [⟨4, 0, sx, sf, [aN 3], 0, 0⟩]
def emptyI : List InstrD := [⟨4, 0, sx, sf, [], 0, 0⟩]
def ioI : List InstrD := [⟨5, 0, sx, sc, [], 0, 0⟩, ⟨6, 0, s0, sc, [aN 7], 0, 0⟩, ⟨7, 0, sy, ss, [aX], 0, 0⟩]
def haltC : CodeD := ⟨9, 0, 0, 0, ⟨0, 0⟩, ⟨0, 0⟩⟩
def pA : ProgD := ⟨2, [], [], [], []⟩
def pB : ProgD := ⟨2, [], [], [], loopI⟩
def pC : ProgD := ⟨2, [], [], [fn0], emptyI⟩
def pD : ProgD := ⟨2, [], [], [fnD], callI⟩
def pE : ProgD := ⟨2, [sc], [], [], ioI⟩
def pZ : ProgD := ⟨0, [], [], [], []⟩
def cB : List CodeD := [⟨1, 4, 0, 0, ⟨0, 0⟩, ⟨-1, 1⟩⟩, ⟨8, 0, 0, 0, ⟨0, 0⟩, ⟨0, 0⟩⟩, haltC]
def cC : List CodeD := [⟨0, 0, 0, 0, ⟨-1, 0⟩, ⟨0, 0⟩⟩, haltC]
def cD : List CodeD := [⟨0, 0, 1, 0, ⟨-1, 3⟩, ⟨0, 0⟩⟩, ⟨0, 0, 2, 0, ⟨-1, 0⟩, ⟨0, 0⟩⟩, ⟨1, 2, 2, 0, ⟨1, 0⟩, ⟨0, 0⟩⟩, ⟨0, 0, 0, 0, ⟨2, 0⟩, ⟨0, 0⟩⟩, ⟨7, 0, 0, 6, ⟨0, 0⟩, ⟨0, 0⟩⟩, ⟨0, 0, 0, 0, ⟨-1, 0⟩, ⟨0, 0⟩⟩, haltC]
def cE : List CodeD := [⟨4, 0, 0, 0, ⟨0, 0⟩, ⟨0, 0⟩⟩, ⟨5, 0, 0, 0, ⟨-1, 3⟩, ⟨0, 0⟩⟩, ⟨6, 0, 1, 0, ⟨0, 0⟩, ⟨0, 0⟩⟩, haltC]
theorem ckA : checkF pA = none := by rw [check_plain rfl]; kernel_rfl
theorem ckB : checkF pB = none := by rw [check_plain rfl]; kernel_rfl
theorem ckE : checkF pE = none := by rw [check_plain rfl]; kernel_rfl
theorem ckZ : checkF pZ = some ⟨0, 0, 3⟩ := by rw [check_plain rfl]; kernel_rfl
theorem loops_none {fs : List FuncD} (h : ∀ f ∈ fs, callsOf f.code = []) : loopsF fs = none := by
  unfold loopsF
  rw [firstF_none]
  intro p x r e
  unfold needF
  rw [if_pos]
  simp only [Bool.not_eq_true']
  unfold loopB
  rw [decide_eq_false_iff_not]
  have hn : ∀ b, ¬ Reach fs x.name b := by
    have h1 : ∀ a b, ¬ CallsN fs a b := by
      rintro a b ⟨f, hf, hb⟩
      rw [h f (List.mem_of_find?_eq_some hf)] at hb
      cases hb
    intro b hb
    cases hb with
    | one q => exact h1 _ _ q
    | more _ q => exact h1 _ _ q
  exact hn _
theorem ckC : checkF pC = none := by
  rw [check_split, loops_none (fs := pC.funcs) (by intro f hf; simp only [pC, List.mem_singleton] at hf; subst hf; rfl)]
  have : checkA pC = none := by kernel_rfl
  rw [this]; rfl
theorem ckD : checkF pD = none := by
  rw [check_split, loops_none (fs := pD.funcs) (by intro f hf; simp only [pD, List.mem_singleton] at hf; subst hf; rfl)]
  have : checkA pD = none := by kernel_rfl
  rw [this]; rfl
theorem flA : flatOf pA = (⟨2, 0, [], [], [], [haltC]⟩, 0) := by rw [flatOf_good ckA]; kernel_rfl
theorem flB : flatOf pB = (⟨2, 1, [], [], [], cB⟩, 0) := by rw [flatOf_good ckB]; kernel_rfl
theorem flC : flatOf pC = (⟨2, 1, [], [], [], cC⟩, 0) := by rw [flatOf_good ckC]; kernel_rfl
theorem flD : flatOf pD = (⟨2, 3, [], [], [], cD⟩, 0) := by rw [flatOf_good ckD]; kernel_rfl
theorem flE : flatOf pE = (⟨2, 2, [sc], [ss], [], cE⟩, 0) := by rw [flatOf_good ckE]; kernel_rfl
theorem flZ : flatOf pZ = (zeroFlat, 3) := flatOf_fault ckZ
theorem num25_any (n : Int) (w : World) : Calls Tryd.prog 48 #[.int .u64 n] w fun e w' => e = .returned (.agg #[.int .i64 (-1), .int .u64 n]) ∧ Below w.heap.size w w' := by
  have hn := Lib.hid (heap_alloc_new w (.cells #[.int .i64 0, .int .u64 0] 45))
  have hb := Lib.hid ((Below.refl w.heap.size w).alloc (Nat.le_refl _) (.cells #[.int .i64 0, .int .u64 0] 45))
  go_enter Tryd.func48, Tryd.ntmps48
  go_wp2_with (refine wpList_store_row rfl 45 (.tmp 2) (.tmp 4) rfl w.heap.size #[.int .i64 (-1), .int .u64 n] rfl rfl 45 #[.int .i64 0, .int .u64 0] ?hs (by as_aux_lemma => kernel_rfl) (by as_aux_lemma => kernel_rfl) (by as_aux_lemma => kernel_rfl) ?_; exact hn.out)
  refine bodyPost_ret (v := .agg #[.int .i64 (-1), .int .u64 n]) ?_ rfl ⟨rfl, below_row hb.out (Nat.le_refl _) _⟩
  exact results_cell_row (P := Tryd.prog) (fn := Tryd.f48) rfl _ _ w.heap.size 45 #[.int .i64 (-1), .int .u64 n] (0, 0) _ rfl (setRow_heap _ _ _ _ _ _ hn.out) Tryd.underlying45 rfl (by as_aux_lemma => kernel_rfl)
theorem reg25_any (n : Int) (w : World) : Calls Tryd.prog 47 #[.int .i64 n] w fun e w' => e = .returned (.agg #[.int .i64 n, .int .u64 0]) ∧ Below w.heap.size w w' := by
  have hn := Lib.hid (heap_alloc_new w (.cells #[.int .i64 0, .int .u64 0] 45))
  have hb := Lib.hid ((Below.refl w.heap.size w).alloc (Nat.le_refl _) (.cells #[.int .i64 0, .int .u64 0] 45))
  go_enter Tryd.func47, Tryd.ntmps47
  go_wp2_with (refine wpList_store_row rfl 45 (.tmp 2) (.tmp 4) rfl w.heap.size #[.int .i64 n, .int .u64 0] rfl rfl 45 #[.int .i64 0, .int .u64 0] ?hs (by as_aux_lemma => kernel_rfl) (by as_aux_lemma => kernel_rfl) (by as_aux_lemma => kernel_rfl) ?_; exact hn.out)
  refine bodyPost_ret (v := .agg #[.int .i64 n, .int .u64 0]) ?_ rfl ⟨rfl, below_row hb.out (Nat.le_refl _) _⟩
  exact results_cell_row (P := Tryd.prog) (fn := Tryd.f47) rfl _ _ w.heap.size 45 #[.int .i64 n, .int .u64 0] (0, 0) _ rfl (setRow_heap _ _ _ _ _ _ hn.out) Tryd.underlying45 rfl (by as_aux_lemma => kernel_rfl)
theorem eqL_selfF {α : Type} {f : α → α → Bool} (hf : ∀ x, f x x = true) : ∀ l : List α, eqL f l l = true
  | [] => rfl
  | x :: r => by rw [eqL, hf x, eqL_selfF hf r]; rfl
theorem eqCode_self : ∀ x : CodeD, eqCode x x = true := fun x => by unfold eqCode; simp
set_option maxRecDepth 100000 in
set_option maxHeartbeats 3200000 in
/-- **makes** is true where the program of the width 2 has that flat program. -/
theorem makes_any (p : ProgD) (cv av fv mv wv : Value) (F : FlatD) (w : World) (h : RdProg none w p cv av fv mv) (hL : Laid w) (hF : flatOf { p with width := 2 } = (F, 0)) (h2 : F.width = 2) (hr : RdRow kCode none w wv F.code) :
    Calls Tryd.prog 46 #[progV p cv av fv mv, .int .i64 F.regs, wv] w fun e w' => e = .returned (.bool true) ∧ Below w.heap.size w w' := by
  obtain ⟨ac, kc, rfl, -, -⟩ := id h.1
  obtain ⟨aa, ka, rfl, -, -⟩ := id h.2.1
  obtain ⟨af, kf, rfl, -, -⟩ := id h.2.2.1
  obtain ⟨am, km, rfl, -, -⟩ := id h.2.2.2.1
  have hb1 := (Below.refl w.heap.size w).alloc (Nat.le_refl _) (.cells #[.int .i64 2, .slice ac p.chans.length kc, .slice aa p.arrays.length ka, .slice af p.funcs.length kf, .slice am p.main.length km] 27)
  have hx1 := heap_alloc_new w (.cells #[.int .i64 2, .slice ac p.chans.length kc, .slice aa p.arrays.length ka, .slice af p.funcs.length kf, .slice am p.main.length km] 27)
  have HB := Lib.hid hb1
  have HX := Lib.hid hx1
  have H : Hid (RdProg none _ { p with width := 2 } _ _ _ _) := ⟨(h.keep hb1).1, (h.keep hb1).2.1, (h.keep hb1).2.2.1, (h.keep hb1).2.2.2.1, (by show InI64 2; exact ⟨by decide, by decide⟩)⟩
  have HL := Lib.hid (hL.keep hb1)
  have HR := Lib.hid (hr.keep hb1)
  have HF := Lib.hid hF
  have H2 := Lib.hid h2
  clear h hL hF h2 hr hb1 hx1
  go_enter Tryd.func46, Tryd.ntmps46
  go_upto_region 2 with fail
  generalize w.alloc (.cells #[.int .i64 2, .slice ac p.chans.length kc, .slice aa p.arrays.length ka, .slice af p.funcs.length kf, .slice am p.main.length km] 27) = W at *
  obtain ⟨pb, hpb⟩ : ∃ pb, w.heap.size = pb := ⟨_, rfl⟩
  rw [hpb] at HX
  rw [hpb]
  have c0 := row_of HX.out 0 (.int .i64 2) rfl
  have c1 := row_of HX.out 1 (.slice ac p.chans.length kc) rfl
  have c2 := row_of HX.out 2 (.slice aa p.arrays.length ka) rfl
  have c3 := row_of HX.out 3 (.slice af p.funcs.length kf) rfl
  have c4 := row_of HX.out 4 (.slice am p.main.length km) rfl
  have HOF : Hid (Calls Tryd.prog 11 #[.agg #[.int .i64 2, .slice ac p.chans.length kc, .slice aa p.arrays.length ka, .slice af p.funcs.length kf, .slice am p.main.length km]] W fun e w' => ∃ c1 k1 c2 k2 c3 k3 c4 k4, e = .returned (.tuple #[.agg #[.int .i64 2, .int .i64 F.regs, .slice c1 F.chans.length k1, .slice c2 F.sites.length k2, .slice c3 F.arrays.length k3, .slice c4 F.code.length k4], .int .i64 0]) ∧ RdRow kCode none w' (.slice c4 F.code.length k4) F.code ∧ Below W.heap.size W w') := by
    refine (flatOf_any _ _ _ _ _ W H.out HL.out).mono ?_
    rintro e w' ⟨c, s, a, k, rfl, hrd, hz⟩
    rw [HF.out] at hrd ⊢
    obtain ⟨c1, k1, rfl⟩ := hrd.1.is
    obtain ⟨c2, k2, rfl⟩ := hrd.2.1.is
    obtain ⟨c3, k3, rfl⟩ := hrd.2.2.1.is
    obtain ⟨c4, k4, rfl⟩ := hrd.2.2.2.1.is
    exact ⟨c1, k1, c2, k2, c3, k3, c4, k4, by rw [← H2.out], hrd.2.2.2.1.forget, hz⟩
  clear H HL HF H2 HX hpb
  obtain ⟨rg, hrg⟩ : ∃ rg, F.regs = rg := ⟨_, rfl⟩
  rw [hrg] at HOF
  rw [hrg]
  clear hrg
  go_upto_region 3 with (first | (go_at_call 11; refine HOF.out.mono ?_; rintro e z ⟨d1, k1, d2, k2, d3, k3, d4, k4, rfl, hrd, hz⟩; have HRD := Lib.hid hrd; have BZ := Lib.hid hz; have HN := Lib.hid (heap_alloc_new z (.cells #[.int .i64 0, .int .i64 0, .slice none 0 0, .slice none 0 0, .slice none 0 0, .slice none 0 0] 32)); clear hrd hz) | (refine wpList_store_row rfl 32 (.tmp 7) (.tmp 13) rfl z.heap.size #[.int .i64 2, .int .i64 rg, .slice d1 F.chans.length k1, .slice d2 F.sites.length k2, .slice d3 F.arrays.length k3, .slice d4 F.code.length k4] rfl rfl 32 #[.int .i64 0, .int .i64 0, .slice none 0 0, .slice none 0 0, .slice none 0 0, .slice none 0 0] ?hs0 (by as_aux_lemma => kernel_rfl) (by as_aux_lemma => kernel_rfl) (by as_aux_lemma => kernel_rfl) ?_; exact HN.out))
  have HG : Hid (_ = _) := setRow_heap (z.alloc (.cells #[.int .i64 0, .int .i64 0, .slice none 0 0, .slice none 0 0, .slice none 0 0, .slice none 0 0] 32)) z.heap.size _ #[.int .i64 2, .int .i64 rg, .slice d1 F.chans.length k1, .slice d2 F.sites.length k2, .slice d3 F.arrays.length k3, .slice d4 F.code.length k4] _ _ HN.out
  have hal : Below z.heap.size z ((z.alloc (.cells #[.int .i64 0, .int .i64 0, .slice none 0 0, .slice none 0 0, .slice none 0 0, .slice none 0 0] 32)).setRow z.heap.size #[.int .i64 2, .int .i64 rg, .slice d1 F.chans.length k1, .slice d2 F.sites.length k2, .slice d3 F.arrays.length k3, .slice d4 F.code.length k4]) := below_row ((Below.refl _ _).alloc (Nat.le_refl _) _) (Nat.le_refl _) _
  have HRD1 := Lib.hid (HRD.out.keep hal)
  have HR1 := Lib.hid ((HR.out.keep BZ.out).keep hal)
  have HB1 := Lib.hid (bcomp (bcomp HB.out BZ.out) hal)
  clear c0 c1 c2 c3 c4 HOF HRD HR HB BZ HN hal
  try simp only [Act.put]
  generalize (z.alloc (.cells #[.int .i64 0, .int .i64 0, .slice none 0 0, .slice none 0 0, .slice none 0 0, .slice none 0 0] 32)).setRow z.heap.size #[.int .i64 2, .int .i64 rg, .slice d1 F.chans.length k1, .slice d2 F.sites.length k2, .slice d3 F.arrays.length k3, .slice d4 F.code.length k4] = W3 at *
  generalize z.heap.size = xb at *
  have c0 := row_of HG.out 0 (.int .i64 2) rfl
  have c1 := row_of HG.out 1 (.int .i64 rg) rfl
  have c5 := row_of HG.out 5 (.slice d4 F.code.length k4) rfl
  have HEQ := Lib.hid (equalCode _ _ F.code F.code W3 HRD1.out HR1.out)
  rw [eqL_selfF eqCode_self] at HEQ
  have hrr : (rg == rg) = true := by simp
  clear HG HRD1 HR1
  go_wp2_with (go_at_call 42; refine HEQ.out.mono ?_; rintro e z9 ⟨rfl, hz⟩; have B9 := Lib.hid hz; clear hz)
  go_ret
  exact ⟨rfl, bcomp HB1.out B9.out⟩
end Go.Proofs.YtgcfdbhpophnjaaDoor
