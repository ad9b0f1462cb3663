/- Contract of script.Policy for any program. Conditions: the program reads as one; the tables of names and forms are as laid. -/
import Derived.Test.YtfdinncgncbmfaaGreatDoorScT
import Derived.Test.YtfdinncgncbmfaaGreatDoorLoc
set_option linter.unusedVariables false
set_option linter.unusedSimpArgs false
set_option linter.unnecessarySimpa false
namespace Go.Proofs.YtfdinncgncbmfaaGreatDoor
open Go.ChangeShapes Go.WideShapes Go.ChangeAt Go.RowKit
theorem check_lens {p : ProgD} (h : checkF p = none) : p.chans.length ≤ 32 ∧ (allCode p).length ≤ 100000 := by
  have hn := check_none h
  unfold checkF at h
  simp only [Option.or_eq_none_iff] at h
  obtain ⟨_, h1, _, _, _, h2, _⟩ := h
  have h1 := need_none h1
  have h2 := need_none h2
  simp only [decide_eq_true_eq] at h1 h2
  refine ⟨h1, ?_⟩
  have h3 : ∀ l : List FuncD, (∀ f ∈ l, f.code.length ≤ 1024) → (l.flatMap (·.code)).length ≤ l.length * 1024 := by
    intro l
    induction l with
    | nil => intro _; simp
    | cons f r ih =>
      intro hf
      have h4 := ih fun g hg => hf g (List.mem_cons_of_mem _ hg)
      have h5 := hf f (List.mem_cons_self)
      simp only [List.flatMap_cons, List.length_append, List.length_cons]
      omega
  have h4 := h3 p.funcs fun f hf => (hn.2 f hf).2.1
  have h5 := hn.1.1
  unfold allCode
  rw [List.length_append]
  omega
theorem rdPolZ_zero (w : World) : RdPolZ w zeroPol (.slice none 0 0) (.slice none 0 0) (.slice none 0 0) (.slice none 0 0) :=
  ⟨⟨none, 0, rfl, ⟨by simp [zeroPol], by simp [zeroPol]⟩, fun i s hi => by simp [zeroPol] at hi⟩, ⟨none, 0, rfl, ⟨by simp [zeroPol], by simp [zeroPol]⟩, fun i s hi => by simp [zeroPol] at hi⟩, ⟨none, 0, rfl, ⟨by simp [zeroPol], by simp [zeroPol]⟩, fun i s hi => by simp [zeroPol] at hi⟩, ⟨none, 0, rfl, ⟨by simp [zeroPol], by simp [zeroPol]⟩, fun i s hi => by simp [zeroPol] at hi⟩⟩
set_option maxRecDepth 100000 in
set_option maxHeartbeats 6400000 in
theorem policy_bad (l : List UInt8) (p : ProgD) (cv av fv mv : Value) (w : World) (h : RdProg none w p cv av fv mv) (L C E : Int) (hE : 3 ≤ E ∧ E ≤ 9)
    (hck : ∀ z, Below w.heap.size w z → Calls Tryz.prog 20 #[progV p cv av fv mv] z fun e w' => e = .returned (.tuple #[.agg #[.int .i64 L, .int .i64 C], .int .i64 E]) ∧ Below z.heap.size z w') :
    Calls Tryz.prog 8 #[.string ⟨l.toArray⟩, progV p cv av fv mv] w fun e w' => e = .returned (polZV zeroPol (.slice none 0 0) (.slice none 0 0) (.slice none 0 0) (.slice none 0 0)) ∧ Below w.heap.size w w' := by
  obtain ⟨hrc, hra, hrf, hrm, hrw⟩ := id h
  obtain ⟨ac, kc, rfl, -, -⟩ := id hrc
  obtain ⟨aa, ka, rfl, -, -⟩ := id hra
  obtain ⟨af, kf, rfl, -, -⟩ := id hrf
  obtain ⟨am, km, rfl, -, -⟩ := id hrm
  have HCK := Lib.hid hck
  have k1 := (Below.refl w.heap.size w).alloc (Nat.le_refl _) (.cells #[.int .i64 p.width, .slice ac p.chans.length kc, .slice aa p.arrays.length ka, .slice af p.funcs.length kf, .slice am p.main.length km] 28)
  have k2 := k1.alloc (by simp) (.cells #[.slice none 0 0, .slice none 0 0, .slice none 0 0, .slice none 0 0, .bool false, .int .i64 0, .int .i64 0, .int .i64 0, .int .i64 0] 34)
  have g2 := heap2_of (w := w) (A := .cells #[.int .i64 p.width, .slice ac p.chans.length kc, .slice aa p.arrays.length ka, .slice af p.funcs.length kf, .slice am p.main.length km] 28 (0, 0)) (B := .cells #[.slice none 0 0, .slice none 0 0, .slice none 0 0, .slice none 0 0, .bool false, .int .i64 0, .int .i64 0, .int .i64 0, .int .i64 0] 34 (0, 0)) (Below.refl _ _)
  have HB2 := Lib.hid k2
  have HP2 := Lib.hid g2.1
  have HR2 := Lib.hid g2.2.1
  clear h hrc hra hrf hrm hrw k1 k2 g2 hck
  go_enter Tryz.func8, Tryz.ntmps8
  go_upto_region 1 with fail
  generalize (w.alloc (.cells #[.int .i64 p.width, .slice ac p.chans.length kc, .slice aa p.arrays.length ka, .slice af p.funcs.length kf, .slice am p.main.length km] 28)).alloc (.cells #[.slice none 0 0, .slice none 0 0, .slice none 0 0, .slice none 0 0, .bool false, .int .i64 0, .int .i64 0, .int .i64 0, .int .i64 0] 34) = W at *
  obtain ⟨r, hr⟩ : ∃ r, w.heap.size = r := ⟨_, rfl⟩
  rw [hr] at HP2 HR2
  try rw [hr]
  have HRR := Lib.hid hr
  clear hr
  have HC1 := Lib.hid (HCK.out W HB2.out)
  have p0 := row_of HP2.out 0 _ rfl
  have p1 := row_of HP2.out 1 _ rfl
  have p2 := row_of HP2.out 2 _ rfl
  have p3 := row_of HP2.out 3 _ rfl
  have p4 := row_of HP2.out 4 _ rfl
  have hE0 : ¬ E = 0 := by omega
  go_upto_region 3 with (go_at_call 20; refine HC1.out.mono ?_; rintro e z ⟨rfl, hz⟩; have HBZ := Lib.hid hz; clear hz)
  clear p0 p1 p2 p3 p4 HC1
  have j0 := (Below.refl z.heap.size z).alloc (Nat.le_refl _) (.cells #[.int .i64 L, .int .i64 C] 42)
  have HB3 := Lib.hid (bcomp HBZ.out j0)
  clear j0 HBZ
  generalize z.alloc (.cells #[.int .i64 L, .int .i64 C] 42) = w3 at *
  have HR3 := Lib.hid ((HB3.out.block (r + 1) (Array.getElem?_eq_some_iff.1 HR2.out).1).trans HR2.out)
  go_wp2_with (refine wpList_store_row rfl 34 (.tmp 4) (.tmp 22) rfl (r + 1) #[.slice none 0 0, .slice none 0 0, .slice none 0 0, .slice none 0 0, .bool false, .int .i64 0, .int .i64 0, .int .i64 0, .int .i64 0] rfl rfl 34 #[.slice none 0 0, .slice none 0 0, .slice none 0 0, .slice none 0 0, .bool false, .int .i64 0, .int .i64 0, .int .i64 0, .int .i64 0] HR3.out (by as_aux_lemma => kernel_rfl) (by as_aux_lemma => kernel_rfl) (by as_aux_lemma => kernel_rfl) ?_)
  have hrt := setRow_trn (cs := #[.slice none 0 0, .slice none 0 0, .slice none 0 0, .slice none 0 0, .bool false, .int .i64 0, .int .i64 0, .int .i64 0, .int .i64 0]) HR3.out
  try simp only [Act.put]
  refine bodyPost_ret (v := .agg #[.slice none 0 0, .slice none 0 0, .slice none 0 0, .slice none 0 0, .bool false, .int .i64 0, .int .i64 0, .int .i64 0, .int .i64 0]) (results_cell_row (P := Tryz.prog) (fn := Tryz.f8) rfl _ _ (r + 1) 34 _ (0,0) _ rfl (setRow_heap _ _ _ _ _ _ HR3.out) Tryz.underlying34 rfl (by kernel_rfl)) rfl ⟨rfl, ((HB2.out.trans (HB3.out.mono HB2.out.size)).trans (hrt.below w.heap.size (Nat.le_trans HB2.out.size HB3.out.size) (fun i hi e => by have e' : i = r + 1 := e; have := HRR.out; omega)))⟩
/-- **script.Policy**, for any program. -/
theorem policy_any (l : List UInt8) (p : ProgD) (cv av fv mv : Value) (w : World) (h : RdProg none w p cv av fv mv) (hL : Laid w) :
    Calls Tryz.prog 8 #[.string ⟨l.toArray⟩, progV p cv av fv mv] w fun e w' => ∃ lv ov cu su, e = .returned (polZV (policyS l p) lv ov cu su) ∧ RdPolZ w' (policyS l p) lv ov cu su ∧ Below w.heap.size w w' := by
  cases hc : checkF p with
  | none =>
    have hb := check_lens hc
    have hp : policyS l p = (polS p.chans (sitesAll p) l).1 := by unfold policyS; rw [hc]
    rw [hp]
    refine policy_good l p cv av fv mv w h (by omega) (by omega) fun z hz => ?_
    have h1 := check_any p cv av fv mv z (h.keep hz) (hL.keep hz)
    rw [hc] at h1
    exact h1
  | some F =>
    have hp : policyS l p = zeroPol := by unfold policyS; rw [hc]
    rw [hp]
    refine (policy_bad l p cv av fv mv w h F.line F.col F.e (check_fault hc).1 fun z hz => ?_).mono fun e w' ⟨he, hb⟩ => ⟨_, _, _, _, he, rdPolZ_zero w', hb⟩
    have h1 := check_any p cv av fv mv z (h.keep hz) (hL.keep hz)
    rw [hc] at h1
    exact h1
end Go.Proofs.YtfdinncgncbmfaaGreatDoor
