/- The walk of ProgPlaces. Condition: the program reads, the tables are laid. -/
import Derived.Test.YtjdbdoeopobciaaDoorBar
import Derived.Test.YtjdbdoeopobciaaDoorFeP
import Derived.Test.YtjdbdoeopobciaaDoorAwa
set_option linter.unnecessarySimpa false
set_option linter.unusedVariables false
set_option linter.unusedSimpArgs false
namespace Go.Proofs.YtjdbdoeopobciaaDoor
open Go.ChangeShapes Go.WideShapes Go.ChangeAt Go.RowKit
theorem err_z (o : Option FaultD) : errOf (o.map zF) = errOf o := by cases o <;> rfl
theorem posL_z (o : Option FaultD) : posL (o.map zF) = 0 := by cases o <;> rfl
theorem posC_z (o : Option FaultD) : posC (o.map zF) = 0 := by cases o <;> rfl
theorem err_bare (p : ProgD) : errOf (checkF (bareP p)) = errOf (checkF p) := by rw [checkF_z, err_z]
def Num (n : Nat) (a b : Int) : Prop := 1 ≤ a ∧ a ≤ n ∧ b = 1
theorem Num.weak {n m : Nat} (h : n ≤ m) (a b : Int) (k : Num n a b) : Num m a b := ⟨k.1, by have := k.2.1; omega, k.2.2⟩
/-- The place of a fault of a program whose positions are numbered. -/
theorem fault_num {q : ProgD} {n : Nat} (hf : DF (Num n) q.funcs q.funcs.length) (hm : DC (Num n) q.main q.main.length) :
    (posL (checkF q) = 0 ∧ posC (checkF q) = 0) ∨ (Num n (posL (checkF q)) (posC (checkF q)) ∧ errOf (checkF q) ≠ 0) := by
  cases hF : checkF q with
  | none => exact .inl ⟨rfl, rfl⟩
  | some F =>
    obtain ⟨⟨e1, e2⟩, h | ⟨f, hf', e3, e4⟩ | ⟨f, hf', x, hx, e3, e4⟩ | ⟨x, hx, e3, e4⟩⟩ := check_fault hF
    · exact .inl h
    · obtain ⟨i, hi⟩ := List.mem_iff_getElem?.1 hf'
      have := (hf i f (List.getElem?_eq_some_iff.1 hi).1 hi).1
      refine .inr ⟨?_, by show F.e ≠ 0; omega⟩
      show Num n F.line F.col
      rw [e3, e4]; exact this
    · obtain ⟨i, hi⟩ := List.mem_iff_getElem?.1 hf'
      obtain ⟨j, hj⟩ := List.mem_iff_getElem?.1 hx
      have := (hf i f (List.getElem?_eq_some_iff.1 hi).1 hi).2 j x (List.getElem?_eq_some_iff.1 hj).1 hj
      refine .inr ⟨?_, by show F.e ≠ 0; omega⟩
      show Num n F.line F.col
      rw [e3, e4]; exact this
    · obtain ⟨j, hj⟩ := List.mem_iff_getElem?.1 hx
      have := hm j x (List.getElem?_eq_some_iff.1 hj).1 hj
      refine .inr ⟨?_, by show F.e ≠ 0; omega⟩
      show Num n F.line F.col
      rw [e3, e4]; exact this
theorem few_funcs_len (p : ProgD) : (fewP p).funcs.length ≤ 5 := by simp [fewP]; omega
theorem few_code_len (p : ProgD) {i : Nat} {f : FuncD} (h : (fewP p).funcs[i]? = some f) : f.code.length ≤ 30 := by
  simp only [fewP, List.getElem?_map] at h
  obtain ⟨g, _, rfl⟩ := Option.map_eq_some_iff.1 h
  simp [fewFn, fewL]; omega
theorem few_main_len (p : ProgD) : (fewP p).main.length ≤ 30 := by simp [fewP, fewL]; omega
theorem alike_code {q p : ProgD} (h : bareP q = bareP p) {i : Nat} {f : FuncD} (hf : q.funcs[i]? = some f) : ∃ f', p.funcs[i]? = some f' ∧ f'.code.length = f.code.length := by
  have e := congrArg (fun m : List FuncD => m[i]?) (bareP_eq h).2.2.2.1
  simp only [List.getElem?_map, hf, Option.map_some] at e
  obtain ⟨f', h1, h2⟩ := Option.map_eq_some_iff.1 e.symm
  refine ⟨f', h1, ?_⟩
  have := congrArg (fun x : FuncD => x.code.length) h2
  simpa [bareF] using this
theorem Al.keep {g : Nat → Prop} {w w' : World} {fv mv : Value} {n : Nat} {l : List FuncD} (h : Al w fv mv n) (hr : RdFuncs (some g) w fv l) (hn : l.length = n) (hb : Below w.heap.size w w') : Al w' fv mv n := by
  refine ⟨h.1, h.2.1, fun b s m c i v e hi hv => ?_⟩
  subst e
  obtain ⟨x, hx⟩ : ∃ x, l[i]? = some x := ⟨_, List.getElem?_eq_getElem (by omega)⟩
  obtain ⟨a', c', e, _, hr⟩ := hr
  simp only [Value.slice.injEq] at e
  obtain ⟨rfl, -, -⟩ := e
  obtain ⟨b', o', pv, cv, e, hf, _, _, c2, _⟩ := hr i x hx
  simp only [Option.some.injEq, Addr.mk.injEq] at e
  obtain ⟨rfl, rfl, -⟩ := e
  rw [Nat.zero_add] at c2
  rw [cell_keep hb c2] at hv
  cases hv
  exact h.2.2 _ _ _ _ _ _ rfl hi c2
theorem PS.keep {g : Nat → Prop} {w w' : World} {q p : ProgD} {cv av fv mv : Value} (h : PS g w q p cv av fv mv) (hb : Below w.heap.size w w') : PS g w' q p cv av fv mv :=
  ⟨h.1.keep hb, h.2.1.keep h.1.2.2.1 (bareP_funcs h.2.2) hb, h.2.2⟩
theorem in64 {n : Nat} (h : n ≤ 1000) : InI64 ((n : Int) + 1) := by unfold InI64; omega
theorem one64 : InI64 1 := by unfold InI64; omega
theorem num_next (n : Nat) : Num (n + 1) ((n : Int) + 1) 1 := ⟨by omega, by omega, rfl⟩
/-- The same, its slices written out. -/
theorem bare_row (p : ProgD) (cv av fv mv : Value) (w : World) (h : RdProg none w p cv av fv mv) :
    Calls Tryd.prog 21 #[progV p cv av fv mv] w fun e w' => ∃ ac kc aa ka af kf am km, e = .returned (.agg #[.int .i64 p.width, .slice ac p.chans.length kc, .slice aa p.arrays.length ka, .slice af p.funcs.length kf, .slice am p.main.length km]) ∧
      PS (upFrom w.heap.size) w' (bareP p) p (.slice ac p.chans.length kc) (.slice aa p.arrays.length ka) (.slice af p.funcs.length kf) (.slice am p.main.length km) ∧ Below w.heap.size w w' := by
  refine (bare_prog p cv av fv mv w h).mono ?_
  rintro e w' ⟨cv', av', fv', mv', rfl, hps, hb⟩
  obtain ⟨⟨r1, r2, r3, r4, r5⟩, -⟩ := id hps
  obtain ⟨ac, kc, rfl, -⟩ := id r1
  obtain ⟨aa, ka, rfl, -⟩ := id r2
  obtain ⟨af, kf, rfl, -⟩ := id r3
  obtain ⟨am, km, rfl, -⟩ := id r4
  have e1 : (bareP p).funcs.length = p.funcs.length := by simp [bareP]
  have e2 : (bareP p).main.length = p.main.length := by simp [bareP]
  rw [e1, e2] at hps
  refine ⟨ac, kc, aa, ka, af, kf, am, km, ?_, hps, hb⟩
  rw [e1, e2]
  rfl
set_option maxRecDepth 100000 in
set_option maxHeartbeats 6400000 in
theorem places_walk (p : ProgD) (cv av fv mv : Value) (W : World) (h : RdProg none W p cv av fv mv) (hL : Laid W) :
    Calls Tryd.prog 6 #[progV p cv av fv mv] W fun e w' => e = .returned (.bool true) ∧ Below W.heap.size W w' := by
  obtain ⟨hrc, hra, hrf, hrm, hrw⟩ := id h
  obtain ⟨ac0, kc0, rfl, -, -⟩ := id hrc
  obtain ⟨aa0, ka0, rfl, -, -⟩ := id hra
  obtain ⟨af0, kf0, rfl, -, -⟩ := id hrf
  obtain ⟨am0, km0, rfl, -, -⟩ := id hrm
  have H := Lib.hid h
  have HL := Lib.hid hL
  clear h hL hrc hra hrf hrm hrw
  go_enter Tryd.func6, Tryd.ntmps6
  go_upto_region 1 with fail
  have hb0 := (Below.refl W.heap.size W).alloc (Nat.le_refl _) (.cells #[.int .i64 p.width, .slice ac0 p.chans.length kc0, .slice aa0 p.arrays.length ka0, .slice af0 p.funcs.length kf0, .slice am0 p.main.length km0] 27)
  have g0 := heap_alloc_new W (.cells #[.int .i64 p.width, .slice ac0 p.chans.length kc0, .slice aa0 p.arrays.length ka0, .slice af0 p.funcs.length kf0, .slice am0 p.main.length km0] 27)
  generalize W.alloc (.cells #[.int .i64 p.width, .slice ac0 p.chans.length kc0, .slice aa0 p.arrays.length ka0, .slice af0 p.funcs.length kf0, .slice am0 p.main.length km0] 27) = W0 at *
  have G0 := Lib.hid g0
  have HB0 := Lib.hid hb0
  have hs0 : W.heap.size < W0.heap.size := (Array.getElem?_eq_some_iff.1 g0).1
  have l0 := row_of g0 0 _ rfl
  have l1 := row_of g0 1 _ rfl
  have l2 := row_of g0 2 _ rfl
  have l3 := row_of g0 3 _ rfl
  have l4 := row_of g0 4 _ rfl
  clear g0 hb0
  have C := few_prog p _ _ _ _ W0 (H.out.keep HB0.out)
  have HC := Lib.hid C
  clear C
  go_upto_region 2 with (first
    | (go_at_call 11; refine HC.out.mono ?_; rintro e w1 ⟨cv', av', fv', mv', rfl, hr, hb1⟩; obtain ⟨r1, r2, r3, r4, r5⟩ := id hr; obtain ⟨ac, kc, rfl, -⟩ := id r1; obtain ⟨aa, ka, rfl, -⟩ := id r2; obtain ⟨af, kf, rfl, -⟩ := id r3; obtain ⟨am, km, rfl, -⟩ := id r4; clear l0 l1 l2 l3 l4 r1 r2 r3 r4 r5; have hg := (hb1.block W.heap.size hs0).trans G0.out)
    | (refine wpList_store_row rfl 27 (.tmp 1) (.tmp 15) rfl W.heap.size #[.int .i64 (fewP p).width, .slice ac (fewP p).chans.length kc, .slice aa (fewP p).arrays.length ka, .slice af (fewP p).funcs.length kf, .slice am (fewP p).main.length km] rfl rfl 27 #[.int .i64 p.width, .slice ac0 p.chans.length kc0, .slice aa0 p.arrays.length ka0, .slice af0 p.funcs.length kf0, .slice am0 p.main.length km0] ?h2 ?s2 ?s3 ?s4 ?_; exact hg; kernel_rfl; kernel_rfl; kernel_rfl))
  simp only [Act.put]
  have hfl := few_funcs_len p
  have hcl : ∀ (i : Nat) (f : FuncD), (fewP p).funcs[i]? = some f → f.code.length ≤ 30 := fun i f => few_code_len p
  have hml := few_main_len p
  generalize fewP p = P at *
  have hrow : ∀ b, b ≠ W.heap.size → (w1.setRow W.heap.size #[.int .i64 P.width, .slice ac P.chans.length kc, .slice aa P.arrays.length ka, .slice af P.funcs.length kf, .slice am P.main.length km]).heap[b]? = w1.heap[b]? := fun b hb => setRow_other _ _ _ _ hb
  have HR : Hid (RdProg none (w1.setRow W.heap.size #[.int .i64 P.width, .slice ac P.chans.length kc, .slice aa P.arrays.length ka, .slice af P.funcs.length kf, .slice am P.main.length km]) P (.slice ac P.chans.length kc) (.slice aa P.arrays.length ka) (.slice af P.funcs.length kf) (.slice am P.main.length km)) := (RdProg.same (g' := upFrom W0.heap.size) hr (fun b hb _ => hrow b (by have : W0.heap.size ≤ b := hb; omega)) (fun _ _ h => h)).forget
  have g2 : (w1.setRow W.heap.size #[.int .i64 P.width, .slice ac P.chans.length kc, .slice aa P.arrays.length ka, .slice af P.funcs.length kf, .slice am P.main.length km]).heap[W.heap.size]? = some (.cells #[.int .i64 P.width, .slice ac P.chans.length kc, .slice aa P.arrays.length ka, .slice af P.funcs.length kf, .slice am P.main.length km] 27 (0, 0)) := setRow_heap _ _ _ _ _ _ hg
  have hb2 : Below W.heap.size W (w1.setRow W.heap.size #[.int .i64 P.width, .slice ac P.chans.length kc, .slice aa P.arrays.length ka, .slice af P.funcs.length kf, .slice am P.main.length km]) := below_row (bcomp HB0.out hb1) (Nat.le_refl _) _
  have HB2 := Lib.hid hb2
  have HCL := Lib.hid hcl
  clear hcl hrow hr hg hb1 hb2 G0 HB0 HC H
  generalize w1.setRow W.heap.size #[.int .i64 P.width, .slice ac P.chans.length kc, .slice aa P.arrays.length ka, .slice af P.funcs.length kf, .slice am P.main.length km] = W2 at *
  have hs2 : W.heap.size < W2.heap.size := (Array.getElem?_eq_some_iff.1 g2).1
  have G2 := Lib.hid g2
  have l0 := row_of g2 0 _ rfl
  have l1 := row_of g2 1 _ rfl
  have l2 := row_of g2 2 _ rfl
  have l3 := row_of g2 3 _ rfl
  have l4 := row_of g2 4 _ rfl
  clear g2
  have HL2 := Lib.hid (HL.out.keep HB2.out)
  have HC := Lib.hid (check_any P _ _ _ _ W2 HR.out HL2.out)
  obtain ⟨E, hE⟩ : ∃ E, errOf (checkF P) = E := ⟨_, rfl⟩
  obtain ⟨pl, hpl⟩ : ∃ n, posL (checkF P) = n := ⟨_, rfl⟩
  obtain ⟨pc, hpc⟩ : ∃ n, posC (checkF P) = n := ⟨_, rfl⟩
  have HE := Lib.hid hE
  go_upto_region 3 with (go_at_call 13; refine HC.out.mono ?_; rintro e w3 ⟨rfl, hb3⟩; rw [hE, hpl, hpc])
  clear hE hpl hpc HC l0 l1 l2 l3 l4
  have hb4 : Below w3.heap.size w3 (w3.alloc (.cells #[.int .i64 pl, .int .i64 pc] 30)) := (Below.refl _ _).alloc (Nat.le_refl _) _
  have hb4 := bcomp hb3 hb4
  generalize w3.alloc (.cells #[.int .i64 pl, .int .i64 pc] 30) = W4 at *
  have HB4 := Lib.hid (bcomp HB2.out hb4)
  have HR4 := Lib.hid (HR.out.keep hb4)
  have HL4 := Lib.hid (HL2.out.keep hb4)
  have G4 := Lib.hid ((hb4.block W.heap.size hs2).trans G2.out)
  have l0 := row_of G4.out 0 _ rfl
  have l1 := row_of G4.out 1 _ rfl
  have l2 := row_of G4.out 2 _ rfl
  have l3 := row_of G4.out 3 _ rfl
  have l4 := row_of G4.out 4 _ rfl
  clear hb3 hb4 HR HL2 HB2 G2 hs2
  have HCB := Lib.hid (bare_prog P _ _ _ _ W4 HR4.out)
  go_upto_region 4 with (first
    | (go_at_call 21; refine HCB.out.mono ?_; rintro e w5 ⟨cv', av', fv', mv', rfl, hps, hb5⟩; have C2 := check_any (bareP P) _ _ _ _ w5 hps.1.forget (HL4.out.keep hb5); rw [checkF_z, posL_z, posC_z, err_z, HE.out] at C2)
    | (go_at_call 13; refine C2.mono ?_; rintro e w6 ⟨rfl, hb6⟩))
  clear C2 l0 l1 l2 l3 l4 HCB
  have hbz : Below w6.heap.size w6 (w6.alloc (.cells #[.int .i64 0, .int .i64 0] 30)) := (Below.refl _ _).alloc (Nat.le_refl _) _
  have gz := heap_alloc_new w6 (.cells #[.int .i64 0, .int .i64 0] 30)
  have hb7 := bcomp (bcomp hb5 hb6) hbz
  generalize w6.alloc (.cells #[.int .i64 0, .int .i64 0] 30) = W7 at *
  generalize w6.heap.size = gzb at *
  have z0 := row_of gz 0 _ rfl
  have z1 := row_of gz 1 _ rfl
  have hW4 : W.heap.size < W4.heap.size := (Array.getElem?_eq_some_iff.1 G4.out).1
  have G7 := Lib.hid ((hb7.block W.heap.size hW4).trans G4.out)
  have HB7 := Lib.hid (HB4.out.trans (hb7.mono (Nat.le_of_lt hW4)))
  have HR7 := Lib.hid (HR4.out.keep hb7)
  have HL7 := Lib.hid (HL4.out.keep hb7)
  have hs7 : W.heap.size < W7.heap.size := (Array.getElem?_eq_some_iff.1 G7.out).1
  have l0 := row_of G7.out 0 _ rfl
  have l1 := row_of G7.out 1 _ rfl
  have l2 := row_of G7.out 2 _ rfl
  have l3 := row_of G7.out 3 _ rfl
  have l4 := row_of G7.out 4 _ rfl
  clear hb5 hb6 hbz hb7 hps HR4 HL4 G4 HB4 hW4 gz
  go_upto_region 6 with fail
  clear z0 z1
  have HCB := Lib.hid (bare_row P _ _ _ _ W7 HR7.out)
  go_upto_region 7 with (go_at_call 21; refine HCB.out.mono ?_; rintro e w8 ⟨ac', kc', aa', ka', af', kf', am', km', rfl, hps, hb8⟩)
  have hb9 : Below w8.heap.size w8 (w8.alloc (.cells #[.int .i64 P.width, .slice ac' P.chans.length kc', .slice aa' P.arrays.length ka', .slice af' P.funcs.length kf', .slice am' P.main.length km'] 27)) := (Below.refl _ _).alloc (Nat.le_refl _) _
  have g9 := heap_alloc_new w8 (.cells #[.int .i64 P.width, .slice ac' P.chans.length kc', .slice aa' P.arrays.length ka', .slice af' P.funcs.length kf', .slice am' P.main.length km'] 27)
  have hps9 : PS (upFrom W7.heap.size) (w8.alloc (.cells #[.int .i64 P.width, .slice ac' P.chans.length kc', .slice aa' P.arrays.length ka', .slice af' P.funcs.length kf', .slice am' P.main.length km'] 27)) (bareP P) P (.slice ac' P.chans.length kc') (.slice aa' P.arrays.length ka') (.slice af' P.funcs.length kf') (.slice am' P.main.length km') := hps.keep hb9
  have hb10 := bcomp hb8 hb9
  generalize w8.alloc (.cells #[.int .i64 P.width, .slice ac' P.chans.length kc', .slice aa' P.arrays.length ka', .slice af' P.funcs.length kf', .slice am' P.main.length km'] 27) = W9 at *
  generalize w8.heap.size = Bq at *
  have HPS := Lib.hid hps9
  have HG9 := Lib.hid g9
  have HB9 := Lib.hid (HB7.out.trans (hb10.mono (Nat.le_of_lt hs7)))
  clear hps9 g9 hps hb8 hb9 hb10 l0 l1 l2 l3 l4 HCB HR7 G7 HB7
  go_wp2_with fail
  go_loopw [8, 9, 10] (fun nn ii _ wr => ∃ (i n : Nat) (q : ProgD), i ≤ P.funcs.length ∧ nn = .int .i64 n ∧ ii = .int .i64 i ∧ n ≤ i * 31 ∧ PS (upFrom W7.heap.size) wr q P (.slice ac' P.chans.length kc') (.slice aa' P.arrays.length ka') (.slice af' P.funcs.length kf') (.slice am' P.main.length km') ∧ DF (Num n) q.funcs i ∧ wr.heap[Bq]? = some (.cells #[.int .i64 P.width, .slice ac' P.chans.length kc', .slice aa' P.arrays.length ka', .slice af' P.funcs.length kf', .slice am' P.main.length km'] 27 (0, 0)) ∧ Below W.heap.size W wr) (fun _ ii _ _ => P.funcs.length - (intOf ii).toNat)
  case atStart => exact ⟨0, 0, bareP P, Nat.zero_le _, rfl, rfl, by omega, HPS.out, fun j f hj => by omega, HG9.out, HB9.out⟩
  case round =>
    obtain ⟨i, n, q, hi, rfl, rfl, hn, hps, hdf, hr0, hb⟩ := hrel
    have e3 := row_of hr0 3 _ rfl
    have HP := Lib.hid hps
    have HS := Lib.hid (And.intro hdf (And.intro hr0 hb))
    clear hps hdf hr0 hb HPS HG9 HB9
    have hsW : W.heap.size ≤ W7.heap.size := Nat.le_of_lt hs7
    by_cases hlt : i < P.funcs.length
    · have hlt' : (i : Int) < (P.funcs.length : Int) := by omega
      have hql : q.funcs.length = P.funcs.length := bareP_funcs HP.out.2.2
      obtain ⟨f, hf⟩ : ∃ f, q.funcs[i]? = some f := ⟨_, List.getElem?_eq_getElem (by omega)⟩
      obtain ⟨fp, hfp1, hfp2⟩ := alike_code HP.out.2.2 hf
      have hfc := HCL.out i fp hfp1
      obtain ⟨a', c', e', -, hr⟩ := id HP.out.1.2.2.1
      simp only [Value.slice.injEq] at e'
      obtain ⟨rfl, -, rfl⟩ := e'
      obtain ⟨bf, o, pv, cv, rfl, hfr, -, -, c2, c3, c4, -, r2, -⟩ := hr i f hf
      obtain rfl : o = 0 := HP.out.2.1.1 _ _ _ _ _ rfl
      obtain ⟨ca, cc, rfl, -⟩ := id r2
      rw [Nat.zero_add] at c2 c3 c4
      have c4' : wr.cell? ⟨bf, i * 5 + 3 + 1, none⟩ = some (.int .i64 f.col) := c4
      have hbf : W7.heap.size ≤ bf := (hfr _ rfl).1
      have HFR := Lib.hid hfr
      have hneq : bf ≠ Bq := by
        intro e
        subst e
        obtain ⟨_, cs', h'⟩ := hfr _ rfl
        rw [HS.out.2.1] at h'
        simp at h'
      have HF := Lib.hid (And.intro hf (And.intro hql (And.intro hneq hfp2)))
      have HC3 := Lib.hid c3
      have HC4 := Lib.hid c4'
      have HC2 := Lib.hid c2
      have hm30 : f.code.length ≤ 30 := by omega
      have hn1000 : n ≤ 1000 := by omega
      clear hr r2 hf hql hneq hfr c2 c3 c4 c4' hfp1 hfp2 hfc
      go_upto_region 11 with fail
      refine wp_region_mix (.one [0, 1, 2, 3] 4 (tailOf [5, 6, 7])) (fun j => decide (5 ≤ j)) (by kernel_rfl) (by kernel_rfl) rfl (by kernel_rfl) (fun _ d _ _ _ h => by cases d <;> exact h) ?_
      have HBD : Hid (Below wr.heap.size wr wr.drew) := (Below.refl _ _).drew
      generalize wr.drew = wn at *
      have x3 := ext_cell e3
      refine mix_one (by simp only [opsOf, List.filterMap_cons, List.filterMap_nil, List.getElem?_toArray, List.getElem?_cons_succ, List.getElem?_cons_zero]; rfl) ⟨_, ext_of HBD.out⟩ ?_
      change wpQuiet _ _ _ _ [_, _, _, _] _
      (repeat (go_big_quiet_step (fail)))
      refine wpQuiet_nil ?_
      clear x3
      refine mix_step rfl ?_
      go_wp2_with (go_at_call 22; refine (at_any _ _ _).mono ?_; rintro e wn ⟨rfl, hbn⟩)
      have HBD := Lib.hid (bcomp HBD.out hbn)
      clear hbn
      refine ⟨fun _ => ⟨_, ext_of HBD.out⟩, ?_⟩
      have c3 := cell_keep HBD.out HC3.out
      have c4 := cell_keep HBD.out HC4.out
      have hfr := HFR.out.keep (block_lt_of_cell HC3.out) HBD.out
      have fz3 := hfr.frozen (i * 5 + 3)
      have fz4 := hfr.frozen (i * 5 + 3 + 1)
      refine mix_tail [5, 6, 7] [_, _, _] _ _ rfl rfl ?_
      go_upto_region 12 with fail
      try simp only [Act.put]
      obtain ⟨hf, hql, hneq, hfp2⟩ := HF.out
      obtain ⟨hdf, hr0, hb⟩ := HS.out
      have hpsn := HP.out.keep HBD.out
      have hps1 : PS (upFrom W7.heap.size) ((wn.setCell ⟨bf, i * 5 + 3, none⟩ (.int .i64 ((n : Int) + 1))).setCell ⟨bf, i * 5 + 3 + 1, none⟩ (.int .i64 1)) { q with funcs := q.funcs.modify i (setPF ((n : Int) + 1) 1) } P (.slice ac' P.chans.length kc') (.slice aa' P.arrays.length ka') (.slice (some ⟨bf, 0, none⟩) P.funcs.length kf') (.slice am' P.main.length km') := PS.putFun (z1 := (n : Int) + 1) (z2 := 1) hpsn (by omega) (in64 hn1000) one64
      have hk3 : ∀ b, b ≠ bf → b < wr.heap.size → ((wn.setCell ⟨bf, i * 5 + 3, none⟩ (.int .i64 ((n : Int) + 1))).setCell ⟨bf, i * 5 + 3 + 1, none⟩ (.int .i64 1)).heap[b]? = wr.heap[b]? := fun b hb hl => ((heap_setCell_other _ _ _ _ (by simp; omega)).trans (heap_setCell_other _ _ _ _ (by simp; omega))).trans (HBD.out.block b hl)
      have hc2 : ((wn.setCell ⟨bf, i * 5 + 3, none⟩ (.int .i64 ((n : Int) + 1))).setCell ⟨bf, i * 5 + 3 + 1, none⟩ (.int .i64 1)).cell? ⟨bf, i * 5 + 2, none⟩ = some (.slice ca f.code.length cc) := putPos_cell (.inr ⟨by omega, by omega⟩) (cell_keep HBD.out HC2.out)
      have hBql : Bq < wr.heap.size := (Array.getElem?_eq_some_iff.1 hr0).1
      have HI : Hid (PS (upFrom W7.heap.size) ((wn.setCell ⟨bf, i * 5 + 3, none⟩ (.int .i64 ((n : Int) + 1))).setCell ⟨bf, i * 5 + 3 + 1, none⟩ (.int .i64 1)) { q with funcs := q.funcs.modify i (setPF ((n : Int) + 1) 1) } P (.slice ac' P.chans.length kc') (.slice aa' P.arrays.length ka') (.slice (some ⟨bf, 0, none⟩) P.funcs.length kf') (.slice am' P.main.length km') ∧ DF (Num (n + 1)) (q.funcs.modify i (setPF ((n : Int) + 1) 1)) i ∧ (q.funcs.modify i (setPF ((n : Int) + 1) 1))[i]? = some (setPF ((n : Int) + 1) 1 f) ∧ ((wn.setCell ⟨bf, i * 5 + 3, none⟩ (.int .i64 ((n : Int) + 1))).setCell ⟨bf, i * 5 + 3 + 1, none⟩ (.int .i64 1)).cell? ⟨bf, i * 5 + 2, none⟩ = some (.slice ca f.code.length cc) ∧ ((wn.setCell ⟨bf, i * 5 + 3, none⟩ (.int .i64 ((n : Int) + 1))).setCell ⟨bf, i * 5 + 3 + 1, none⟩ (.int .i64 1)).heap[Bq]? = some (.cells #[.int .i64 P.width, .slice ac' P.chans.length kc', .slice aa' P.arrays.length ka', .slice (some ⟨bf, 0, none⟩) P.funcs.length kf', .slice am' P.main.length km'] 27 (0, 0)) ∧ Below W.heap.size W ((wn.setCell ⟨bf, i * 5 + 3, none⟩ (.int .i64 ((n : Int) + 1))).setCell ⟨bf, i * 5 + 3 + 1, none⟩ (.int .i64 1))) :=
        ⟨hps1, (hdf.weak (Num.weak (Nat.le_succ n))).pos (PosFs.modify _ _ _ _) (modify_bareF _ _ _ _) (num_next n), by rw [modify_get, if_pos rfl, hf]; rfl, hc2, (hk3 _ (Ne.symm hneq) hBql).trans hr0, (((hb.trans (HBD.out.mono hb.size))).setCell (by show W.heap.size ≤ bf; omega) _).setCell (by show W.heap.size ≤ bf; omega) _⟩
      clear hf hql hneq hfp2 hdf hr0 hb hpsn hps1 hk3 hc2 HP HS HF HFR HC2 HC3 HC4 c3 c4 fz3 fz4 e3 hfr HBD hBql
      generalize ((wn.setCell ⟨bf, i * 5 + 3, none⟩ (.int .i64 ((n : Int) + 1))).setCell ⟨bf, i * 5 + 3 + 1, none⟩ (.int .i64 1)) = W3 at *
      go_wp2_with fail
      go_loopw [8, 10] (fun nn kk wi => ∃ (j n' : Nat) (q' : ProgD) (f' : FuncD), j ≤ f.code.length ∧ nn = .int .i64 n' ∧ kk = .int .i64 j ∧ n' ≤ i * 31 + 1 + j ∧ PS (upFrom W7.heap.size) wi q' P (.slice ac' P.chans.length kc') (.slice aa' P.arrays.length ka') (.slice (some ⟨bf, 0, none⟩) P.funcs.length kf') (.slice am' P.main.length km') ∧ DF (Num n') q'.funcs i ∧ q'.funcs[i]? = some f' ∧ Num n' f'.line f'.col ∧ DC (Num n') f'.code j ∧ f'.code.length = f.code.length ∧ wi.cell? ⟨bf, i * 5 + 2, none⟩ = some (.slice ca f.code.length cc) ∧ wi.heap[Bq]? = some (.cells #[.int .i64 P.width, .slice ac' P.chans.length kc', .slice aa' P.arrays.length ka', .slice (some ⟨bf, 0, none⟩) P.funcs.length kf', .slice am' P.main.length km'] 27 (0, 0)) ∧ Below W.heap.size W wi) (fun _ kk _ => f.code.length - (intOf kk).toNat)
      case atStart =>
        obtain ⟨h1, h2, h3, h4, h5, h6⟩ := HI.out
        exact ⟨0, n + 1, _, _, Nat.zero_le _, by go_num, rfl, by omega, h1, h2, h3, num_next n, (fun j x hj => by omega), rfl, h4, h5, h6⟩
      case round =>
        obtain ⟨j, n', q', f', hj, rfl, rfl, hn', hps, hdf, hf', hz', hdc, hlen, hc2, hr0, hb⟩ := hrel
        obtain ⟨wi, rfl⟩ : ∃ x : World, x = wr := ⟨_, rfl⟩
        have e3 := row_of hr0 3 _ rfl
        have HP := Lib.hid hps
        have HS := Lib.hid (And.intro hdf (And.intro hf' (And.intro hz' (And.intro hdc (And.intro hlen (And.intro hr0 hb))))))
        have HC2 := Lib.hid hc2
        clear hps hdf hf' hz' hdc hlen hr0 hb HI
        have hn1000' : n' ≤ 1000 := by omega
        by_cases hjl : j < f.code.length
        · have hjl' : (j : Int) < (f.code.length : Int) := by omega
          obtain ⟨hdf, hf', hz', hdc, hlen, hr0, hb⟩ := HS.out
          obtain ⟨a', c', e', -, hr⟩ := id HP.out.1.2.2.1
          simp only [Value.slice.injEq] at e'
          obtain ⟨rfl, -, -⟩ := e'
          obtain ⟨b', o', pv', cv', e2, hfr, -, -, x2, -, -, -, r2, -⟩ := hr i f' hf'
          simp only [Option.some.injEq, Addr.mk.injEq, and_true] at e2
          obtain ⟨rfl, rfl⟩ := e2
          rw [Nat.zero_add, hc2] at x2
          cases x2
          have hzo := HP.out.2.1.2.2 bf none _ _ i _ rfl hlt hc2
          obtain ⟨a3, c3, e3', -, hr3⟩ := id r2
          simp only [Value.slice.injEq] at e3'
          obtain ⟨rfl, -, -⟩ := e3'
          obtain ⟨x, hx⟩ : ∃ x, f'.code[j]? = some x := ⟨_, List.getElem?_eq_getElem (by omega)⟩
          obtain ⟨bc, oc, av, rfl, hfc, -, -, -, -, -, d5, d6, -⟩ := hr3 j x hx
          obtain rfl : oc = 0 := hzo _ _ _ _ _ rfl
          rw [Nat.zero_add] at d5 d6
          have d6' : wi.cell? ⟨bc, j * 7 + 5 + 1, none⟩ = some (.int .i64 x.col) := d6
          obtain ⟨hbc, cs, hty⟩ := hfc _ rfl
          have hbc' : W7.heap.size ≤ bc := hbc
          have hne : bf ≠ bc := by
            intro e
            subst e
            obtain ⟨_, cs', h'⟩ := hfr _ rfl
            rw [hty] at h'
            simp at h'
          have hneq : bc ≠ Bq := by
            intro e
            subst e
            rw [hr0] at hty
            simp at hty
          have HFC := Lib.hid hfc
          have D5 := Lib.hid d5
          have D6 := Lib.hid d6'
          have HTY := Lib.hid (And.intro hty (And.intro hne hneq))
          clear hdf hf' hz' hdc hlen hr0 hb hr hr3 hfr hfc r2 hty hx hbc hne hneq hzo d5 d6 d6'
          go_upto_region 16 with fail
          refine wp_region_mix (.one [0, 1, 2, 3, 4, 5, 6, 7] 8 (tailOf [9, 10, 11])) (fun j => decide (9 ≤ j)) (by kernel_rfl) (by kernel_rfl) rfl (by kernel_rfl) (fun _ d _ _ _ h => by cases d <;> exact h) ?_
          have HBD : Hid (Below wi.heap.size wi wi.drew) := (Below.refl _ _).drew
          generalize wi.drew = wn at *
          have y3 := ext_cell e3
          have y2 := ext_cell hc2
          refine mix_one (by simp only [opsOf, List.filterMap_cons, List.filterMap_nil, List.getElem?_toArray, List.getElem?_cons_succ, List.getElem?_cons_zero]; rfl) ⟨_, ext_of HBD.out⟩ ?_
          change wpQuiet _ _ _ _ [_, _, _, _, _, _, _, _] _
          (repeat (go_big_quiet_step (fail)))
          refine wpQuiet_nil ?_
          clear y3 y2
          refine mix_step rfl ?_
          go_wp2_with (go_at_call 22; refine (at_any _ _ _).mono ?_; rintro e wn ⟨rfl, hbn⟩)
          have HBD := Lib.hid (bcomp HBD.out hbn)
          clear hbn
          refine ⟨fun _ => ⟨_, ext_of HBD.out⟩, ?_⟩
          have k5 := cell_keep HBD.out D5.out
          have k6 := cell_keep HBD.out D6.out
          have hfc := HFC.out.keep (block_lt_of_cell D5.out) HBD.out
          have z5 := hfc.frozen (j * 7 + 5)
          have z6 := hfc.frozen (j * 7 + 5 + 1)
          refine mix_tail [9, 10, 11] [_, _, _] _ _ rfl rfl ?_
          go_upto_region 14 with fail
          try simp only [Act.put]
          obtain ⟨hty, hne, hneq⟩ := HTY.out
          obtain ⟨hdf, hf', hz', hdc, hlen, hr0, hb⟩ := HS.out
          have hBql : Bq < wi.heap.size := (Array.getElem?_eq_some_iff.1 hr0).1
          have htyn := (HBD.out.block bc (Array.getElem?_eq_some_iff.1 hty).1).trans hty
          obtain ⟨q'', g1, g2, g3, g4, g5, g6⟩ := PS.putIns (k := j) (z1 := (n' : Int) + 1) (z2 := 1) (HP.out.keep HBD.out) htyn k5 k6 (in64 hn1000') one64
          have g7 := g5 i f' bf none none _ _ rfl hf' (cell_keep HBD.out hc2)
          have hk4 : ∀ b, b ≠ bc → b < wi.heap.size → ((wn.setCell ⟨bc, j * 7 + 5, none⟩ (.int .i64 ((n' : Int) + 1))).setCell ⟨bc, j * 7 + 5 + 1, none⟩ (.int .i64 1)).heap[b]? = wi.heap[b]? := fun b hb hl => ((heap_setCell_other _ _ _ _ (by simp; omega)).trans (heap_setCell_other _ _ _ _ (by simp; omega))).trans (HBD.out.block b hl)
          have HN : Hid (PS (upFrom W7.heap.size) ((wn.setCell ⟨bc, j * 7 + 5, none⟩ (.int .i64 ((n' : Int) + 1))).setCell ⟨bc, j * 7 + 5 + 1, none⟩ (.int .i64 1)) q'' P (.slice ac' P.chans.length kc') (.slice aa' P.arrays.length ka') (.slice (some ⟨bf, 0, none⟩) P.funcs.length kf') (.slice am' P.main.length km') ∧ DF (Num (n' + 1)) q''.funcs i ∧ q''.funcs[i]? = some { f' with code := f'.code.modify j (setP ((n' : Int) + 1) 1) } ∧ Num (n' + 1) f'.line f'.col ∧ DC (Num (n' + 1)) (f'.code.modify j (setP ((n' : Int) + 1) 1)) (j + 1) ∧ (f'.code.modify j (setP ((n' : Int) + 1) 1)).length = f.code.length ∧ ((wn.setCell ⟨bc, j * 7 + 5, none⟩ (.int .i64 ((n' : Int) + 1))).setCell ⟨bc, j * 7 + 5 + 1, none⟩ (.int .i64 1)).cell? ⟨bf, i * 5 + 2, none⟩ = some (.slice (some ⟨bc, 0, none⟩) f.code.length cc) ∧ ((wn.setCell ⟨bc, j * 7 + 5, none⟩ (.int .i64 ((n' : Int) + 1))).setCell ⟨bc, j * 7 + 5 + 1, none⟩ (.int .i64 1)).heap[Bq]? = some (.cells #[.int .i64 P.width, .slice ac' P.chans.length kc', .slice aa' P.arrays.length ka', .slice (some ⟨bf, 0, none⟩) P.funcs.length kf', .slice am' P.main.length km'] 27 (0, 0)) ∧ Below W.heap.size W ((wn.setCell ⟨bc, j * 7 + 5, none⟩ (.int .i64 ((n' : Int) + 1))).setCell ⟨bc, j * 7 + 5 + 1, none⟩ (.int .i64 1))) :=
            ⟨g1, (hdf.weak (Num.weak (Nat.le_succ n'))).pos g3 (bareP_eq g2).2.2.2.1 (num_next n'), g7, Num.weak (Nat.le_succ n') _ _ hz', (hdc.weak (Num.weak (Nat.le_succ n'))).step (num_next n'), by rw [List.length_modify]; exact hlen, putPos_cell (.inl hne) (cell_keep HBD.out hc2), (hk4 _ (Ne.symm hneq) hBql).trans hr0, ((hb.trans (HBD.out.mono hb.size)).setCell (by show W.heap.size ≤ bc; omega) _).setCell (by show W.heap.size ≤ bc; omega) _⟩
          clear hdf hf' hz' hdc hlen hr0 hb hfc hty htyn g1 g2 g3 g4 g5 g6 g7 hk4 HS HP hne hneq HTY HFC D5 D6 HBD HC2 hBql k5 k6 z5 z6 e3 hc2
          go_wp2_with fail
          go_roundw
          case rel =>
            obtain ⟨h1, h2, h3, h4, h5, h6, h7, h8, h9⟩ := HN.out
            exact ⟨j + 1, n' + 1, q'', _, by omega, by go_num, by go_num, by omega, h1, h2, h3, h4, h5, h6, h7, h8, h9⟩
          case measure => simp [intOf]; omega
        · obtain ⟨hdf, hf', hz', hdc, hlen, hr0, hb⟩ := HS.out
          obtain rfl : j = f.code.length := by omega
          have HN : Hid (DF (Num n') q'.funcs (i + 1)) := by
            intro j' f'' hj' h
            by_cases e : j' = i
            · subst e
              rw [hf'] at h
              cases h
              exact ⟨hz', by rw [hlen]; exact hdc⟩
            · exact hdf j' f'' (by omega) h
          have HT := Lib.hid (And.intro hr0 hb)
          clear hdf hf' hz' hdc hlen hr0 hb HS HC2
          go_wp2_with fail
          go_roundw
          case rel =>
            obtain ⟨h1, h2⟩ := HT.out
            exact ⟨i + 1, n', q', by omega, rfl, by go_num, by omega, HP.out, HN.out, h1, h2⟩
          case measure => simp [intOf]; omega
    · obtain ⟨hdf, hr0, hb⟩ := HS.out
      obtain rfl : i = P.funcs.length := by omega
      have HDF := Lib.hid hdf
      have HT := Lib.hid (And.intro hr0 hb)
      have hn155 : n ≤ 155 := by omega
      clear hdf hr0 hb HS
      obtain ⟨wo, rfl⟩ : ∃ x : World, x = wr := ⟨_, rfl⟩
      go_wp2_with fail
      clear e3
      go_loopw [8, 11] (fun nn kk wi => ∃ (j n' : Nat) (q' : ProgD), j ≤ P.main.length ∧ nn = .int .i64 n' ∧ kk = .int .i64 j ∧ n' ≤ 155 + j ∧ PS (upFrom W7.heap.size) wi q' P (.slice ac' P.chans.length kc') (.slice aa' P.arrays.length ka') (.slice af' P.funcs.length kf') (.slice am' P.main.length km') ∧ DF (Num n') q'.funcs P.funcs.length ∧ DC (Num n') q'.main j ∧ wi.heap[Bq]? = some (.cells #[.int .i64 P.width, .slice ac' P.chans.length kc', .slice aa' P.arrays.length ka', .slice af' P.funcs.length kf', .slice am' P.main.length km'] 27 (0, 0)) ∧ Below W.heap.size W wi) (fun _ kk _ => P.main.length - (intOf kk).toNat)
      case atStart =>
        obtain ⟨h1, h2⟩ := HT.out
        exact ⟨0, n, q, Nat.zero_le _, rfl, rfl, by omega, HP.out, HDF.out, (fun j x hj => by omega), h1, h2⟩
      case round =>
        obtain ⟨j, n', q', hj, rfl, rfl, hn', hps, hdf, hdc, hr0, hb⟩ := hrel
        obtain ⟨wi, rfl⟩ : ∃ x : World, x = wr := ⟨_, rfl⟩
        have e4 := row_of hr0 4 _ rfl
        have HQ := Lib.hid hps
        have HS := Lib.hid (And.intro hdf (And.intro hdc (And.intro hr0 hb)))
        clear hps hdf hdc hr0 hb HT HP HDF
        have hml' : q'.main.length = P.main.length := bareP_main HQ.out.2.2
        have hn1000' : n' ≤ 1000 := by omega
        by_cases hjl : j < P.main.length
        · have hjl' : (j : Int) < (P.main.length : Int) := by omega
          obtain ⟨hdf, hdc, hr0, hb⟩ := HS.out
          obtain ⟨a3, c3, e3', -, hr3⟩ := id HQ.out.1.2.2.2.1
          simp only [Value.slice.injEq] at e3'
          obtain ⟨rfl, -, -⟩ := e3'
          obtain ⟨x, hx⟩ : ∃ x, q'.main[j]? = some x := ⟨_, List.getElem?_eq_getElem (by omega)⟩
          obtain ⟨bc, oc, av, rfl, hfc, -, -, -, -, -, d5, d6, -⟩ := hr3 j x hx
          obtain rfl : oc = 0 := HQ.out.2.1.2.1 _ _ _ _ _ rfl
          rw [Nat.zero_add] at d5 d6
          have d6' : wi.cell? ⟨bc, j * 7 + 5 + 1, none⟩ = some (.int .i64 x.col) := d6
          obtain ⟨hbc, cs, hty⟩ := hfc _ rfl
          have hbc' : W7.heap.size ≤ bc := hbc
          have hneq : bc ≠ Bq := by
            intro e
            subst e
            rw [hr0] at hty
            simp at hty
          have HFC := Lib.hid hfc
          have D5 := Lib.hid d5
          have D6 := Lib.hid d6'
          have HTY := Lib.hid (And.intro hty hneq)
          clear hdf hdc hr0 hb hr3 hfc hty hx hbc hneq d5 d6 d6' hml'
          go_upto_region 21 with fail
          refine wp_region_mix (.one [0, 1, 2, 3] 4 (tailOf [5, 6, 7])) (fun j => decide (5 ≤ j)) (by kernel_rfl) (by kernel_rfl) rfl (by kernel_rfl) (fun _ d _ _ _ h => by cases d <;> exact h) ?_
          have HBD : Hid (Below wi.heap.size wi wi.drew) := (Below.refl _ _).drew
          generalize wi.drew = wn at *
          have y4 := ext_cell e4
          refine mix_one (by simp only [opsOf, List.filterMap_cons, List.filterMap_nil, List.getElem?_toArray, List.getElem?_cons_succ, List.getElem?_cons_zero]; rfl) ⟨_, ext_of HBD.out⟩ ?_
          change wpQuiet _ _ _ _ [_, _, _, _] _
          (repeat (go_big_quiet_step (fail)))
          refine wpQuiet_nil ?_
          clear y4
          refine mix_step rfl ?_
          go_wp2_with (go_at_call 22; refine (at_any _ _ _).mono ?_; rintro e wn ⟨rfl, hbn⟩)
          have HBD := Lib.hid (bcomp HBD.out hbn)
          clear hbn
          refine ⟨fun _ => ⟨_, ext_of HBD.out⟩, ?_⟩
          have k5 := cell_keep HBD.out D5.out
          have k6 := cell_keep HBD.out D6.out
          have hfc := HFC.out.keep (block_lt_of_cell D5.out) HBD.out
          have z5 := hfc.frozen (j * 7 + 5)
          have z6 := hfc.frozen (j * 7 + 5 + 1)
          refine mix_tail [5, 6, 7] [_, _, _] _ _ rfl rfl ?_
          go_upto_region 19 with fail
          try simp only [Act.put]
          obtain ⟨hty, hneq⟩ := HTY.out
          obtain ⟨hdf, hdc, hr0, hb⟩ := HS.out
          have hBql : Bq < wi.heap.size := (Array.getElem?_eq_some_iff.1 hr0).1
          have htyn := (HBD.out.block bc (Array.getElem?_eq_some_iff.1 hty).1).trans hty
          obtain ⟨q'', g1, g2, g3, g4, g5, g6⟩ := PS.putIns (k := j) (z1 := (n' : Int) + 1) (z2 := 1) (HQ.out.keep HBD.out) htyn k5 k6 (in64 hn1000') one64
          have g7 := g6 none _ _ rfl
          have hk4 : ∀ b, b ≠ bc → b < wi.heap.size → ((wn.setCell ⟨bc, j * 7 + 5, none⟩ (.int .i64 ((n' : Int) + 1))).setCell ⟨bc, j * 7 + 5 + 1, none⟩ (.int .i64 1)).heap[b]? = wi.heap[b]? := fun b hb hl => ((heap_setCell_other _ _ _ _ (by simp; omega)).trans (heap_setCell_other _ _ _ _ (by simp; omega))).trans (HBD.out.block b hl)
          have HN : Hid (PS (upFrom W7.heap.size) ((wn.setCell ⟨bc, j * 7 + 5, none⟩ (.int .i64 ((n' : Int) + 1))).setCell ⟨bc, j * 7 + 5 + 1, none⟩ (.int .i64 1)) q'' P (.slice ac' P.chans.length kc') (.slice aa' P.arrays.length ka') (.slice af' P.funcs.length kf') (.slice (some ⟨bc, 0, none⟩) P.main.length km') ∧ DF (Num (n' + 1)) q''.funcs P.funcs.length ∧ DC (Num (n' + 1)) q''.main (j + 1) ∧ ((wn.setCell ⟨bc, j * 7 + 5, none⟩ (.int .i64 ((n' : Int) + 1))).setCell ⟨bc, j * 7 + 5 + 1, none⟩ (.int .i64 1)).heap[Bq]? = some (.cells #[.int .i64 P.width, .slice ac' P.chans.length kc', .slice aa' P.arrays.length ka', .slice af' P.funcs.length kf', .slice (some ⟨bc, 0, none⟩) P.main.length km'] 27 (0, 0)) ∧ Below W.heap.size W ((wn.setCell ⟨bc, j * 7 + 5, none⟩ (.int .i64 ((n' : Int) + 1))).setCell ⟨bc, j * 7 + 5 + 1, none⟩ (.int .i64 1))) :=
            ⟨g1, (hdf.weak (Num.weak (Nat.le_succ n'))).pos g3 (bareP_eq g2).2.2.2.1 (num_next n'), by rw [g7]; exact (hdc.weak (Num.weak (Nat.le_succ n'))).step (num_next n'), (hk4 _ (Ne.symm hneq) hBql).trans hr0, ((hb.trans (HBD.out.mono hb.size)).setCell (by show W.heap.size ≤ bc; omega) _).setCell (by show W.heap.size ≤ bc; omega) _⟩
          clear hdf hdc hr0 hb hfc hty htyn g1 g2 g3 g4 g5 g6 g7 hk4 HS HQ hneq HTY HFC D5 D6 HBD hBql k5 k6 z5 z6 e4
          go_wp2_with fail
          go_roundw
          case rel =>
            obtain ⟨h1, h2, h3, h4, h5⟩ := HN.out
            exact ⟨j + 1, n' + 1, q'', by omega, by go_num, by go_num, by omega, h1, h2, h3, h4, h5⟩
          case measure => simp [intOf]; omega
        · obtain ⟨hdf, hdc, hr0, hb⟩ := HS.out
          obtain rfl : j = P.main.length := by omega
          have hfn := fault_num (q := q') (n := n') (by rw [bareP_funcs HQ.out.2.2]; exact hdf) (by rw [hml']; exact hdc)
          have hE3 : errOf (checkF q') = E := by rw [← err_bare q', HQ.out.2.2, err_bare]; exact HE.out
          have C3 := check_any q' _ _ _ _ wi HQ.out.1.forget (HL.out.keep hb)
          rw [hE3] at hfn C3
          have hw : q'.width = P.width := (bareP_eq HQ.out.2.2).1
          have l0 := row_of hr0 0 _ rfl
          have l1 := row_of hr0 1 _ rfl
          have l2 := row_of hr0 2 _ rfl
          have l3 := row_of hr0 3 _ rfl
          generalize posL (checkF q') = l at *
          generalize posC (checkF q') = c at *
          have C3 : Calls Tryd.prog 13 #[.agg #[.int .i64 P.width, .slice ac' P.chans.length kc', .slice aa' P.arrays.length ka', .slice af' P.funcs.length kf', .slice am' P.main.length km']] wi fun e w' => e = .returned (.tuple #[.agg #[.int .i64 l, .int .i64 c], .int .i64 E]) ∧ Below wi.heap.size wi w' := by
            rw [← hw]; exact C3
          have HFN := Lib.hid hfn
          have HBW := Lib.hid hb
          have HC3 := Lib.hid C3
          clear C3 hfn hb hdf hdc hr0 HS hE3 hml' hw
          go_upto_region 23 with (go_at_call 13; refine HC3.out.mono ?_; rintro e wq ⟨rfl, hbq⟩)
          have hbp : Below wq.heap.size wq (wq.alloc (.cells #[.int .i64 l, .int .i64 c] 30)) := (Below.refl _ _).alloc (Nat.le_refl _) _
          have GP := Lib.hid (heap_alloc_new wq (.cells #[.int .i64 l, .int .i64 c] 30))
          have hbx := bcomp hbq hbp
          have HBX := Lib.hid (HBW.out.trans (hbx.mono HBW.out.size))
          have HLX := Lib.hid (HL.out.keep HBX.out)
          clear hbq hbp hbx HC3 HBW l0 l1 l2 l3 e4 HQ HL7
          generalize wq.alloc (.cells #[.int .i64 l, .int .i64 c] 30) = wx at *
          generalize wq.heap.size = gp at *
          try simp only [Act.put]
          rcases HFN.out with ⟨h1, h2⟩ | ⟨⟨h1, h2, h3⟩, h4⟩
          · subst h1 h2
            clear HFN
            have a0 := row_of GP.out 0 _ rfl
            have a1 := row_of GP.out 1 _ rfl
            clear HE
            by_cases hE0 : E = 0
            · subst hE0
              go_wp2_with (go_at_call 16; refine (awake_any _ HLX.out).mono ?_; rintro e wz ⟨rfl, hbz⟩)
              go_ret
              exact ⟨rfl, HBX.out.trans (hbz.mono HBX.out.size)⟩
            · go_wp2_with (go_at_call 16; refine (awake_any _ HLX.out).mono ?_; rintro e wz ⟨rfl, hbz⟩)
              go_ret
              exact ⟨rfl, HBX.out.trans (hbz.mono HBX.out.size)⟩
          · subst h3
            have h5 : ¬ l = 0 := by omega
            have h6 : ¬ E = 0 := h4
            clear HFN h4
            have a0 := row_of GP.out 0 _ rfl
            have a1 := row_of GP.out 1 _ rfl
            go_wp2_with (go_at_call 16; refine (awake_any _ HLX.out).mono ?_; rintro e wz ⟨rfl, hbz⟩)
            go_ret
            exact ⟨rfl, HBX.out.trans (hbz.mono HBX.out.size)⟩
end Go.Proofs.YtjdbdoeopobciaaDoor
