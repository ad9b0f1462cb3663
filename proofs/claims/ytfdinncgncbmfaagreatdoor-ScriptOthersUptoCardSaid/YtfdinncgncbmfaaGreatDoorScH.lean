/- Contract of the reference's Policy for any program. Conditions: the program reads as one; it has not too many instructions; the string is not too long. -/
import Derived.Test.YtfdinncgncbmfaaGreatDoorScR
import Derived.Test.YtfdinncgncbmfaaGreatDoorRck
set_option linter.unusedVariables false
set_option linter.unusedSimpArgs false
set_option linter.unnecessarySimpa false
namespace Go.Proofs.YtfdinncgncbmfaaGreatDoor
open Go.ChangeShapes Go.WideShapes Go.ChangeAt Go.RowKit
set_option maxRecDepth 100000 in
set_option maxHeartbeats 6400000 in
theorem policyR_bad (s : ByteArray) (p : ProgD) (cv av fv mv : Value) (w : World) (h : RdProg none w p cv av fv mv) (L C E : Int) (hE : 3 ≤ E ∧ E ≤ 9)
    (hck : ∀ z, Below w.heap.size w z → Calls Tryz.prog 24 #[progV p cv av fv mv] z fun e w' => e = .returned (.tuple #[.agg #[.int .i64 L, .int .i64 C], .int .i64 E]) ∧ Below z.heap.size z w') :
    Calls Tryz.prog 9 #[.string s, progV p cv av fv mv] w fun e w' => e = .returned (polZV zeroPol (.slice none 0 0) (.slice none 0 0) (.slice none 0 0) (.slice none 0 0)) ∧ Below w.heap.size w w' := by
  obtain ⟨hrc, hra, hrf, hrm, hrw⟩ := id h
  obtain ⟨ac, kc, rfl, -, -⟩ := id hrc
  obtain ⟨aa, ka, rfl, -, -⟩ := id hra
  obtain ⟨af, kf, rfl, -, -⟩ := id hrf
  obtain ⟨am, km, rfl, -, -⟩ := id hrm
  have HCK := Lib.hid hck
  have k1 := (Below.refl w.heap.size w).alloc (Nat.le_refl _) (.cells #[.int .i64 p.width, .slice ac p.chans.length kc, .slice aa p.arrays.length ka, .slice af p.funcs.length kf, .slice am p.main.length km] 28)
  have k2 := k1.alloc (by simp) (.cells #[.slice none 0 0, .slice none 0 0, .slice none 0 0, .slice none 0 0, .bool false, .int .i64 0, .int .i64 0, .int .i64 0, .int .i64 0] 34)
  have g2 := heap2_of (w := w) (A := .cells #[.int .i64 p.width, .slice ac p.chans.length kc, .slice aa p.arrays.length ka, .slice af p.funcs.length kf, .slice am p.main.length km] 28 (0, 0)) (B := .cells #[.slice none 0 0, .slice none 0 0, .slice none 0 0, .slice none 0 0, .bool false, .int .i64 0, .int .i64 0, .int .i64 0, .int .i64 0] 34 (0, 0)) (Below.refl _ _)
  have HB2 := Lib.hid k2
  have HP2 := Lib.hid g2.1
  have HR2 := Lib.hid g2.2.1
  clear h hrc hra hrf hrm hrw k1 k2 g2 hck
  go_enter Tryz.func9, Tryz.ntmps9
  go_upto_region 1 with fail
  generalize (w.alloc (.cells #[.int .i64 p.width, .slice ac p.chans.length kc, .slice aa p.arrays.length ka, .slice af p.funcs.length kf, .slice am p.main.length km] 28)).alloc (.cells #[.slice none 0 0, .slice none 0 0, .slice none 0 0, .slice none 0 0, .bool false, .int .i64 0, .int .i64 0, .int .i64 0, .int .i64 0] 34) = W at *
  obtain ⟨r, hr⟩ : ∃ r, w.heap.size = r := ⟨_, rfl⟩
  rw [hr] at HP2 HR2
  try rw [hr]
  have HRR := Lib.hid hr
  clear hr
  have HC1 := Lib.hid (HCK.out W HB2.out)
  have p0 := row_of HP2.out 0 _ rfl
  have p1 := row_of HP2.out 1 _ rfl
  have p2 := row_of HP2.out 2 _ rfl
  have p3 := row_of HP2.out 3 _ rfl
  have p4 := row_of HP2.out 4 _ rfl
  have hE0 : ¬ E = 0 := by omega
  go_upto_region 3 with (go_at_call 24; refine HC1.out.mono ?_; rintro e z ⟨rfl, hz⟩; have HBZ := Lib.hid hz; clear hz)
  clear p0 p1 p2 p3 p4 HC1
  have j0 := (Below.refl z.heap.size z).alloc (Nat.le_refl _) (.cells #[.int .i64 L, .int .i64 C] 42)
  have HB3 := Lib.hid (bcomp HBZ.out j0)
  clear j0 HBZ
  generalize z.alloc (.cells #[.int .i64 L, .int .i64 C] 42) = w3 at *
  have HR3 := Lib.hid ((HB3.out.block (r + 1) (Array.getElem?_eq_some_iff.1 HR2.out).1).trans HR2.out)
  go_wp2_with (refine wpList_store_row rfl 34 (.tmp 4) (.tmp 21) rfl (r + 1) #[.slice none 0 0, .slice none 0 0, .slice none 0 0, .slice none 0 0, .bool false, .int .i64 0, .int .i64 0, .int .i64 0, .int .i64 0] rfl rfl 34 #[.slice none 0 0, .slice none 0 0, .slice none 0 0, .slice none 0 0, .bool false, .int .i64 0, .int .i64 0, .int .i64 0, .int .i64 0] HR3.out (by as_aux_lemma => kernel_rfl) (by as_aux_lemma => kernel_rfl) (by as_aux_lemma => kernel_rfl) ?_)
  have hrt := setRow_trn (cs := #[.slice none 0 0, .slice none 0 0, .slice none 0 0, .slice none 0 0, .bool false, .int .i64 0, .int .i64 0, .int .i64 0, .int .i64 0]) HR3.out
  try simp only [Act.put]
  refine bodyPost_ret (v := .agg #[.slice none 0 0, .slice none 0 0, .slice none 0 0, .slice none 0 0, .bool false, .int .i64 0, .int .i64 0, .int .i64 0, .int .i64 0]) (results_cell_row (P := Tryz.prog) (fn := Tryz.f9) rfl _ _ (r + 1) 34 _ (0,0) _ rfl (setRow_heap _ _ _ _ _ _ HR3.out) Tryz.underlying34 rfl (by kernel_rfl)) rfl ⟨rfl, ((HB2.out.trans (HB3.out.mono HB2.out.size)).trans (hrt.below w.heap.size (Nat.le_trans HB2.out.size HB3.out.size) (fun i hi e => by have e' : i = r + 1 := e; have := HRR.out; omega)))⟩
/-- **The reference's Policy**, for any program that has not too many instructions. -/
theorem policyR_any (s : ByteArray) (p : ProgD) (cv av fv mv : Value) (w : World) (h : RdProg none w p cv av fv mv) (hsz : s.size ≤ 5000) (hN : (codesOf p.funcs).length + p.main.length ≤ 1759218604440) :
    Calls Tryz.prog 9 #[.string s, progV p cv av fv mv] w fun e w' => ∃ lv ov cu su, e = .returned (polZV (policyS s.data.toList p) lv ov cu su) ∧ RdPolZ w' (policyS s.data.toList p) lv ov cu su ∧ Below w.heap.size w w' := by
  cases hc : checkF p with
  | none =>
    have hb := check_lens hc
    have hp : policyS s.data.toList p = (polS p.chans (sitesAll p) s.data.toList).1 := by unfold policyS; rw [hc]
    rw [hp]
    refine policyR_good s p cv av fv mv w h hsz (by omega) (by omega) fun z hz => ?_
    have h1 := refCheck p cv av fv mv z (h.keep hz) hN
    rw [hc, refV_none] at h1
    exact h1
  | some F =>
    have hp : policyS s.data.toList p = zeroPol := by unfold policyS; rw [hc]
    rw [hp]
    refine (policyR_bad s p cv av fv mv w h F.line F.col F.e (check_fault hc).1 fun z hz => ?_).mono fun e w' ⟨he, hb⟩ => ⟨_, _, _, _, he, rdPolZ_zero w', hb⟩
    have h1 := refCheck p cv av fv mv z (h.keep hz) hN
    rw [hc, refV_some] at h1
    exact h1
end Go.Proofs.YtfdinncgncbmfaaGreatDoor
