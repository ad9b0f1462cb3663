/- The walk of ProgChecks. Condition: the program reads, the tables are laid. -/
import Derived.Test.YtjdbdoeopobciaaDoorRck
import Derived.Test.YtjdbdoeopobciaaDoorFeP
import Derived.Test.YtjdbdoeopobciaaDoorAwa
import Derived.Test.YtjdbdoeopobciaaDoorKitI
set_option linter.unnecessarySimpa false
set_option linter.unusedVariables false
set_option linter.unusedSimpArgs false
namespace Go.Proofs.YtjdbdoeopobciaaDoor
open Go.ChangeShapes Go.WideShapes Go.ChangeAt Go.RowKit
theorem eqL_refl {α : Type} {f : α → α → Bool} (hf : ∀ x, f x x = true) (l : List α) : eqL f l l = true :=
  eqL_all f l l rfl fun k x y h1 h2 => by rw [h1] at h2; cases h2; exact hf x
theorem eqS_refl (x : ByteArray) : eqS x x = true := by simp [eqS]
theorem eqArr_refl (x : ArrD) : eqArr x x = true := by simp [eqArr]
theorem eqArg_refl (x : ArgD) : eqArg x x = true := by simp [eqArg]
theorem eqInstr_refl (x : InstrD) : eqInstr x x = true := by simp [eqInstr, eqL_refl eqArg_refl]
theorem eqFunc_refl (x : FuncD) : eqFunc x x = true := by simp [eqFunc, eqL_refl eqS_refl, eqL_refl eqInstr_refl]
theorem eqProg_refl (x : ProgD) : eqProg x x = true := by simp [eqProg, eqL_refl eqS_refl, eqL_refl eqArr_refl, eqL_refl eqFunc_refl, eqL_refl eqInstr_refl]
theorem few_codes (l : List FuncD) (h : ∀ f ∈ l, f.code.length ≤ 30) : (codesOf l).length ≤ 30 * l.length := by
  induction l with
  | nil => simp [codesOf]
  | cons x l ih =>
    have h1 := ih fun f hf => h f (List.mem_cons_of_mem _ hf)
    have h2 := h x (List.mem_cons_self ..)
    have e : codesOf (x :: l) = x.code ++ codesOf l := by simp [codesOf]
    rw [e, List.length_append, List.length_cons]
    omega
theorem few_size (p : ProgD) : (codesOf (fewP p).funcs).length + (fewP p).main.length ≤ 100000 := by
  have h1 : (fewP p).funcs.length ≤ 5 := by simp [fewP]; omega
  have h2 := few_codes (fewP p).funcs fun f hf => by
    simp only [fewP, List.mem_map] at hf
    obtain ⟨g, _, rfl⟩ := hf
    simp [fewFn, fewL]; omega
  have h3 : (fewP p).main.length ≤ 30 := by simp [fewP, fewL]; omega
  omega
theorem refV_is (F : Option FaultD) : refV F = .tuple #[.agg #[.int .i64 (posL F), .int .i64 (posC F)], .int .i64 (errOf F)] := rfl
set_option maxRecDepth 100000 in
set_option maxHeartbeats 6400000 in
theorem checks_walk (p : ProgD) (cv av fv mv : Value) (W : World) (h : RdProg none W p cv av fv mv) (hL : Laid W) :
    Calls Tryd.prog 3 #[progV p cv av fv mv] W fun e w' => e = .returned (.bool true) ∧ Below W.heap.size W w' := by
  obtain ⟨hrc, hra, hrf, hrm, hrw⟩ := id h
  obtain ⟨ac0, kc0, rfl, -, -⟩ := id hrc
  obtain ⟨aa0, ka0, rfl, -, -⟩ := id hra
  obtain ⟨af0, kf0, rfl, -, -⟩ := id hrf
  obtain ⟨am0, km0, rfl, -, -⟩ := id hrm
  have H := Lib.hid h
  have HL := Lib.hid hL
  clear h hL hrc hra hrf hrm hrw
  go_enter Tryd.func3, Tryd.ntmps3
  go_upto_region 1 with fail
  have hb0 := (Below.refl W.heap.size W).alloc (Nat.le_refl _) (.cells #[.int .i64 p.width, .slice ac0 p.chans.length kc0, .slice aa0 p.arrays.length ka0, .slice af0 p.funcs.length kf0, .slice am0 p.main.length km0] 27)
  have g0 := heap_alloc_new W (.cells #[.int .i64 p.width, .slice ac0 p.chans.length kc0, .slice aa0 p.arrays.length ka0, .slice af0 p.funcs.length kf0, .slice am0 p.main.length km0] 27)
  generalize W.alloc (.cells #[.int .i64 p.width, .slice ac0 p.chans.length kc0, .slice aa0 p.arrays.length ka0, .slice af0 p.funcs.length kf0, .slice am0 p.main.length km0] 27) = W0 at *
  have G0 := Lib.hid g0
  have HB0 := Lib.hid hb0
  have hs0 : W.heap.size < W0.heap.size := (Array.getElem?_eq_some_iff.1 g0).1
  have l0 := row_of g0 0 _ rfl
  have l1 := row_of g0 1 _ rfl
  have l2 := row_of g0 2 _ rfl
  have l3 := row_of g0 3 _ rfl
  have l4 := row_of g0 4 _ rfl
  clear g0 hb0
  have C := few_prog p _ _ _ _ W0 (H.out.keep HB0.out)
  have HC := Lib.hid C
  clear C
  go_upto_region 2 with (first
    | (go_at_call 11; refine HC.out.mono ?_; rintro e w1 ⟨cv', av', fv', mv', rfl, hr, hb1⟩; obtain ⟨r1, r2, r3, r4, r5⟩ := id hr; obtain ⟨ac, kc, rfl, -⟩ := id r1; obtain ⟨aa, ka, rfl, -⟩ := id r2; obtain ⟨af, kf, rfl, -⟩ := id r3; obtain ⟨am, km, rfl, -⟩ := id r4; clear l0 l1 l2 l3 l4 r1 r2 r3 r4 r5; have hg := (hb1.block W.heap.size hs0).trans G0.out)
    | (refine wpList_store_row rfl 27 (.tmp 1) (.tmp 9) rfl W.heap.size #[.int .i64 (fewP p).width, .slice ac (fewP p).chans.length kc, .slice aa (fewP p).arrays.length ka, .slice af (fewP p).funcs.length kf, .slice am (fewP p).main.length km] rfl rfl 27 #[.int .i64 p.width, .slice ac0 p.chans.length kc0, .slice aa0 p.arrays.length ka0, .slice af0 p.funcs.length kf0, .slice am0 p.main.length km0] ?h2 ?s2 ?s3 ?s4 ?_; exact hg; kernel_rfl; kernel_rfl; kernel_rfl))
  simp only [Act.put]
  have hcl := few_size p
  generalize fewP p = P at *
  have hrow : ∀ b, b ≠ W.heap.size → (w1.setRow W.heap.size #[.int .i64 P.width, .slice ac P.chans.length kc, .slice aa P.arrays.length ka, .slice af P.funcs.length kf, .slice am P.main.length km]).heap[b]? = w1.heap[b]? := fun b hb => setRow_other _ _ _ _ hb
  have HR : Hid (RdProg none (w1.setRow W.heap.size #[.int .i64 P.width, .slice ac P.chans.length kc, .slice aa P.arrays.length ka, .slice af P.funcs.length kf, .slice am P.main.length km]) P (.slice ac P.chans.length kc) (.slice aa P.arrays.length ka) (.slice af P.funcs.length kf) (.slice am P.main.length km)) := (RdProg.same (g' := upFrom W0.heap.size) hr (fun b hb _ => hrow b (by have : W0.heap.size ≤ b := hb; omega)) (fun _ _ h => h)).forget
  have g2 : (w1.setRow W.heap.size #[.int .i64 P.width, .slice ac P.chans.length kc, .slice aa P.arrays.length ka, .slice af P.funcs.length kf, .slice am P.main.length km]).heap[W.heap.size]? = some (.cells #[.int .i64 P.width, .slice ac P.chans.length kc, .slice aa P.arrays.length ka, .slice af P.funcs.length kf, .slice am P.main.length km] 27 (0, 0)) := setRow_heap _ _ _ _ _ _ hg
  have hb2 : Below W.heap.size W (w1.setRow W.heap.size #[.int .i64 P.width, .slice ac P.chans.length kc, .slice aa P.arrays.length ka, .slice af P.funcs.length kf, .slice am P.main.length km]) := below_row (bcomp HB0.out hb1) (Nat.le_refl _) _
  have HB2 := Lib.hid hb2
  have HCL := Lib.hid hcl
  clear hcl hrow hr hg hb1 hb2 G0 HB0 HC H
  generalize w1.setRow W.heap.size #[.int .i64 P.width, .slice ac P.chans.length kc, .slice aa P.arrays.length ka, .slice af P.funcs.length kf, .slice am P.main.length km] = W2 at *
  have hs2 : W.heap.size < W2.heap.size := (Array.getElem?_eq_some_iff.1 g2).1
  have G2 := Lib.hid g2
  have l0 := row_of g2 0 _ rfl
  have l1 := row_of g2 1 _ rfl
  have l2 := row_of g2 2 _ rfl
  have l3 := row_of g2 3 _ rfl
  have l4 := row_of g2 4 _ rfl
  clear g2
  have HL2 := Lib.hid (HL.out.keep HB2.out)
  have HCP := Lib.hid (copyProg P _ _ _ _ W2 HR.out)
  have H5 := Lib.hid HR.out.2.2.2.2
  go_upto_region 3 with (go_at_call 12; refine HCP.out.mono ?_; rintro e w3 ⟨cv', av', fv', mv', m, rfl, q1, q2, q3, q4, hm, hb3⟩; obtain ⟨bc, jc, rfl, -⟩ := id q1; obtain ⟨ba, ja, rfl, -⟩ := id q2; obtain ⟨bf, jf, rfl, -⟩ := id q3; obtain ⟨bm, jm, rfl, -⟩ := id q4; have HQ : Hid (RdProg none w3 P (.slice bc P.chans.length jc) (.slice ba P.arrays.length ja) (.slice bf P.funcs.length jf) (.slice bm P.main.length jm)) := ⟨q1.forget, q2.forget, q3.forget, q4.forget, H5.out⟩; have HBB := Lib.hid hb3; clear q1 q2 q3 q4 hm hb3)
  clear HCP l0 l1 l2 l3 l4
  have g4 := heap_alloc_new w3 (.cells #[.int .i64 P.width, .slice bc P.chans.length jc, .slice ba P.arrays.length ja, .slice bf P.funcs.length jf, .slice bm P.main.length jm] 27)
  have ha4 : Below w3.heap.size w3 (w3.alloc (.cells #[.int .i64 P.width, .slice bc P.chans.length jc, .slice ba P.arrays.length ja, .slice bf P.funcs.length jf, .slice bm P.main.length jm] 27)) := (Below.refl _ _).alloc (Nat.le_refl _) _
  generalize (w3.alloc (.cells #[.int .i64 P.width, .slice bc P.chans.length jc, .slice ba P.arrays.length ja, .slice bf P.funcs.length jf, .slice bm P.main.length jm] 27)) = W4 at *
  have hb4 := bcomp HBB.out ha4
  have HB4 := Lib.hid hb4
  have HQ4 := Lib.hid (HQ.out.keep ha4)
  have HC4 := Lib.hid (check_any P _ _ _ _ W4 HQ4.out (HL2.out.keep hb4))
  have hs4 : w3.heap.size < W4.heap.size := (Array.getElem?_eq_some_iff.1 g4).1
  have hs24 := HB4.out.size
  have G4 := Lib.hid g4
  generalize w3.heap.size = cb at *
  have c0 := row_of g4 0 _ rfl
  have c1 := row_of g4 1 _ rfl
  have c2 := row_of g4 2 _ rfl
  have c3 := row_of g4 3 _ rfl
  have c4 := row_of g4 4 _ rfl
  clear g4 ha4 hb4 HBB HQ
  obtain ⟨E, hE⟩ : ∃ E, errOf (checkF P) = E := ⟨_, rfl⟩
  obtain ⟨pl, hpl⟩ : ∃ n, posL (checkF P) = n := ⟨_, rfl⟩
  obtain ⟨pc, hpc⟩ : ∃ n, posC (checkF P) = n := ⟨_, rfl⟩
  rw [hE, hpl, hpc] at HC4
  have HRC := Lib.hid (fun w (h : RdProg none w P _ _ _ _) => refCheck P (.slice ac P.chans.length kc) (.slice aa P.arrays.length ka) (.slice af P.funcs.length kf) (.slice am P.main.length km) w h HCL.out)
  rw [refV_is, hE, hpl, hpc] at HRC
  clear hE hpl hpc
  go_upto_region 4 with (go_at_call 13; refine HC4.out.mono ?_; rintro e w5 ⟨rfl, hb5⟩)
  clear HC4 c0 c1 c2 c3 c4
  have g6 := heap_alloc_new w5 (.cells #[.int .i64 pl, .int .i64 pc] 30)
  have ha6 : Below w5.heap.size w5 (w5.alloc (.cells #[.int .i64 pl, .int .i64 pc] 30)) := (Below.refl _ _).alloc (Nat.le_refl _) _
  have hs5 := hb5.size
  have hb6 := bcomp hb5 ha6
  generalize w5.alloc (.cells #[.int .i64 pl, .int .i64 pc] 30) = W6 at *
  have hs46 := hb6.size
  have hs6 : w5.heap.size < W6.heap.size := (Array.getElem?_eq_some_iff.1 g6).1
  have HB6 := Lib.hid (bcomp HB4.out hb6)
  have G26 := (HB6.out.block W.heap.size hs2).trans G2.out
  have l0 := row_of G26 0 _ rfl
  have l1 := row_of G26 1 _ rfl
  have l2 := row_of G26 2 _ rfl
  have l3 := row_of G26 3 _ rfl
  have l4 := row_of G26 4 _ rfl
  have HC6 := Lib.hid (HRC.out W6 (HR.out.keep HB6.out))
  have HQ6 := Lib.hid (HQ4.out.keep hb6)
  have G46 := Lib.hid ((hb6.block cb hs4).trans G4.out)
  have G6 := Lib.hid g6
  generalize w5.heap.size = pb at *
  clear g6 ha6 hb5 hb6 hs5 HRC HQ4 G4 HB4
  go_upto_region 5 with (go_at_call 14; refine HC6.out.mono ?_; rintro e w7 ⟨rfl, hb7⟩)
  clear HC6 l0 l1 l2 l3 l4 G26
  have g8 := heap_alloc_new w7 (.cells #[.int .i64 pl, .int .i64 pc] 30)
  have ha8 : Below w7.heap.size w7 (w7.alloc (.cells #[.int .i64 pl, .int .i64 pc] 30)) := (Below.refl _ _).alloc (Nat.le_refl _) _
  have hs7 := hb7.size
  have hb8 := bcomp hb7 ha8
  generalize w7.alloc (.cells #[.int .i64 pl, .int .i64 pc] 30) = W8 at *
  have HB8 := Lib.hid (bcomp HB6.out hb8)
  have G28 := (HB8.out.block W.heap.size hs2).trans G2.out
  have l0 := row_of G28 0 _ rfl
  have l1 := row_of G28 1 _ rfl
  have l2 := row_of G28 2 _ rfl
  have l3 := row_of G28 3 _ rfl
  have l4 := row_of G28 4 _ rfl
  have G48 := (hb8.block cb (by omega)).trans G46.out
  have c0 := row_of G48 0 _ rfl
  have c1 := row_of G48 1 _ rfl
  have c2 := row_of G48 2 _ rfl
  have c3 := row_of G48 3 _ rfl
  have c4 := row_of G48 4 _ rfl
  have G68 := (hb8.block pb hs6).trans G6.out
  have p0 := row_of G68 0 _ rfl
  have p1 := row_of G68 1 _ rfl
  have r0 := row_of g8 0 _ rfl
  have r1 := row_of g8 1 _ rfl
  have HEQ := equalProg P P _ _ _ _ _ _ _ _ W8 (HQ6.out.keep hb8) (HR.out.keep HB8.out)
  rw [eqProg_refl] at HEQ
  have HEQ := Lib.hid HEQ
  have HL8 := Lib.hid (HL2.out.keep HB8.out)
  have HBW := Lib.hid (HB2.out.trans (HB8.out.mono (Nat.le_of_lt hs2)))
  generalize w7.heap.size = rb at *
  clear G28 G48 G68 g8 ha8 hb7 hb8 HR HQ6 G2 G46 G6 HB6 HB8 HL2 HL HB2 HCL H5
  go_wp2_with (first
    | (go_at_call 15; refine HEQ.out.mono ?_; rintro e w9 ⟨rfl, hb9⟩)
    | (go_at_call 16; refine (awake_any _ (HL8.out.keep hb9)).mono ?_; rintro e wz ⟨rfl, hbz⟩))
  go_ret
  exact ⟨rfl, HBW.out.trans ((bcomp hb9 hbz).mono HBW.out.size)⟩
end Go.Proofs.YtjdbdoeopobciaaDoor
