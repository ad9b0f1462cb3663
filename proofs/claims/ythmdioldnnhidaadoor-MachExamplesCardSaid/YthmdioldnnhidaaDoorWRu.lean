/- The walk of MachRuns: called in whatever memory it returns true. Condition: what comes in reads as the arguments; the tables hold what they are laid with. -/
import Derived.Test.YthmdioldnnhidaaDoorWLb
import Derived.Test.YthmdioldnnhidaaDoorRNd
set_option linter.unnecessarySimpa false
set_option linter.unusedVariables false
set_option linter.unusedSimpArgs false
namespace Go.Proofs.YthmdioldnnhidaaDoor
open Go.ChangeShapes Go.WideShapes Go.ChangeAt Go.RowKit
set_option maxRecDepth 100000 in
set_option maxHeartbeats 3200000 in
theorem runs_walk (f : FlatD) (cv sv av kv : Value) (steps : Int) (iv : Value) (L : List (List Int)) (w : World) (hF : RdFlat none w f cv sv av kv) (hst : InI64 steps) (hI : RdLists none w iv L) (hL : Laid w) :
    Calls Tryd.prog 4 #[flatV f cv sv av kv, .int .i64 steps, iv] w fun e w' => e = .returned (.bool true) ∧ Below w.heap.size w w' := by
  obtain ⟨ca, cc, rfl⟩ := hF.1.is
  obtain ⟨sa, sc, rfl⟩ := hF.2.1.is
  obtain ⟨aa, ac, rfl⟩ := hF.2.2.1.is
  obtain ⟨ka, kc, rfl⟩ := hF.2.2.2.1.is
  obtain ⟨ia, ic, rfl⟩ := hI.is
  have hal := (Below.refl w.heap.size w).alloc (Nat.le_refl _) (.cells #[.int .i64 f.width, .int .i64 f.regs, .slice ca f.chans.length cc, .slice sa f.sites.length sc, .slice aa f.arrays.length ac, .slice ka f.code.length kc] 26)
  have hg := Lib.hid (heap_alloc_new w (.cells #[.int .i64 f.width, .int .i64 f.regs, .slice ca f.chans.length cc, .slice sa f.sites.length sc, .slice aa f.arrays.length ac, .slice ka f.code.length kc] 26))
  have HF := Lib.hid (hF.keep hal)
  have HI := Lib.hid (hI.keep hal)
  have HL := Lib.hid (hL.keep hal)
  have HLw := Lib.hid hL
  have HB := Lib.hid hal
  have HST := Lib.hid hst
  clear hF hI hL hal hst
  go_enter Tryd.func4, Tryd.ntmps4
  go_upto_region 1 with fail
  generalize w.alloc (.cells #[.int .i64 f.width, .int .i64 f.regs, .slice ca f.chans.length cc, .slice sa f.sites.length sc, .slice aa f.arrays.length ac, .slice ka f.code.length kc] 26) = W at *
  have hsW : w.heap.size < W.heap.size := (Array.getElem?_eq_some_iff.1 hg.out).1
  have y0 := row_of hg.out 0 (.int .i64 f.width) rfl
  have y1 := row_of hg.out 1 (.int .i64 f.regs) rfl
  have y2 := row_of hg.out 2 (.slice ca f.chans.length cc) rfl
  have y3 := row_of hg.out 3 (.slice sa f.sites.length sc) rfl
  have y4 := row_of hg.out 4 (.slice aa f.arrays.length ac) rfl
  have y5 := row_of hg.out 5 (.slice ka f.code.length kc) rfl
  have HS := Lib.hid ((short25 f _ _ _ _ W HF.out).mono fun _ _ h => flatIs h)
  have HW := Lib.hid (fun w' (hb : Below W.heap.size W w') => few26 _ L w' (HI.out.keep hb))
  have hM : (fewI L).length ≤ 34 := by simp [fewI]; omega
  generalize shortF f = S at *
  generalize fewI L = M at *
  go_upto_region 2 with (first | (go_at_call 9; refine HS.out.mono ?_; rintro e w1 ⟨caS, ccS, saS, scS, aaS, acS, kaS, kcS, rfl, hr1, hb1⟩; have HR1 := Lib.hid hr1; have HB1 := Lib.hid hb1; clear hr1 hb1 y0 y1 y2 y3 y4 y5) | (go_at_call 10; refine (HW.out _ HB1.out).mono ?_; rintro e w2 ⟨v, rfl, hr2, hb2⟩; obtain ⟨ma, mc, rfl⟩ := hr2.is; have HR2 := Lib.hid hr2; have HB2 := Lib.hid (bcomp HB1.out hb2); have HS2 := Lib.hid (HR1.out.keep hb2); have hg2 := Lib.hid ((HB2.out.block _ hsW).trans hg.out); clear hr2 hb2) | (refine wpList_store_row rfl 26 (.tmp 3) (.tmp 12) rfl w.heap.size #[.int .i64 S.width, .int .i64 S.regs, .slice caS S.chans.length ccS, .slice saS S.sites.length scS, .slice aaS S.arrays.length acS, .slice kaS S.code.length kcS] rfl rfl 26 #[.int .i64 f.width, .int .i64 f.regs, .slice ca f.chans.length cc, .slice sa f.sites.length sc, .slice aa f.arrays.length ac, .slice ka f.code.length kc] ?hs1 (by as_aux_lemma => kernel_rfl) (by as_aux_lemma => kernel_rfl) (by as_aux_lemma => kernel_rfl) ?_; exact hg2.out))
  try simp only [Act.put]
  have hs1 : w.heap.size < w1.heap.size := by have := HB1.out.size; omega
  have HR3 := Lib.hid (HS2.out.setRow (m := 0) hsW (Nat.zero_le _) #[.int .i64 S.width, .int .i64 S.regs, .slice caS S.chans.length ccS, .slice saS S.sites.length scS, .slice aaS S.arrays.length acS, .slice kaS S.code.length kcS]).forget
  have HI3 := Lib.hid (HR2.out.setRow (m := 0) hs1 (Nat.zero_le _) #[.int .i64 S.width, .int .i64 S.regs, .slice caS S.chans.length ccS, .slice saS S.sites.length scS, .slice aaS S.arrays.length acS, .slice kaS S.code.length kcS]).forget
  have HB3 : Hid (Below w.heap.size w (w2.setRow w.heap.size #[.int .i64 S.width, .int .i64 S.regs, .slice caS S.chans.length ccS, .slice saS S.sites.length scS, .slice aaS S.arrays.length acS, .slice kaS S.code.length kcS])) := below_row (bcomp HB.out HB2.out) (Nat.le_refl _) _
  have hg3 : Hid ((w2.setRow w.heap.size #[.int .i64 S.width, .int .i64 S.regs, .slice caS S.chans.length ccS, .slice saS S.sites.length scS, .slice aaS S.arrays.length acS, .slice kaS S.code.length kcS]).heap[w.heap.size]? = some (.cells #[.int .i64 S.width, .int .i64 S.regs, .slice caS S.chans.length ccS, .slice saS S.sites.length scS, .slice aaS S.arrays.length acS, .slice kaS S.code.length kcS] 26 (0, 0))) := setRow_heap _ _ _ _ _ _ hg2.out
  have HL0 : Hid (Laid (w2.setRow w.heap.size #[.int .i64 S.width, .int .i64 S.regs, .slice caS S.chans.length ccS, .slice saS S.sites.length scS, .slice aaS S.arrays.length acS, .slice kaS S.code.length kcS])) := HLw.out.keep HB3.out
  clear HB1 HB2 HR1 HR2 HS2 hg2 HS HW HF HI HL hg HB hs1 hsW
  generalize (w2.setRow w.heap.size #[.int .i64 S.width, .int .i64 S.regs, .slice caS S.chans.length ccS, .slice saS S.sites.length scS, .slice aaS S.arrays.length acS, .slice kaS S.code.length kcS]) = W3 at *
  by_cases hs : 1 ≤ steps ∧ steps ≤ 65536
  · have hs1 : 1 ≤ steps := hs.1
    have hs2 : steps ≤ 65536 := hs.2
    go_upto_region 4 with fail
    have HS4 : Hid (InI64 (1 + steps % 399)) := ⟨by omega, by omega⟩
    clear hs hs1 hs2
    generalize 1 + steps % 399 = st at *
    have hM2 : M.length ≤ 1000000 := by omega
    have HRUN := Lib.hid (fun (a b c d v : Value) (w' : World) (hb : Below W3.heap.size W3 w') (h1 : RdFlat none w' S a b c d) (h2 : RdLists none w' v M) => (machRun S a b c d v M st w' h1 h2 (HL0.out.keep hb) HS4.out hM2).mono fun _ _ h => runIs h)
    have HRUR := Lib.hid (fun (w' : World) (hb : Below W3.heap.size W3 w') => (refRun S _ _ _ _ _ M st w' (HR3.out.keep hb) (HI3.out.keep hb) HS4.out hM2).mono fun _ _ h => runIs h)
    have HCF := Lib.hid (copyFlat S _ _ _ _ W3 HR3.out)
    have HCI := Lib.hid (fun (w' : World) (hb : Below W3.heap.size W3 w') => copyLists _ M w' (HI3.out.keep hb))
    generalize runT S M st = x at *
    generalize errRun S M.length st = er at *
    have y0 := row_of hg3.out 0 (.int .i64 S.width) rfl
    have y1 := row_of hg3.out 1 (.int .i64 S.regs) rfl
    have y2 := row_of hg3.out 2 (.slice caS S.chans.length ccS) rfl
    have y3 := row_of hg3.out 3 (.slice saS S.sites.length scS) rfl
    have y4 := row_of hg3.out 4 (.slice aaS S.arrays.length acS) rfl
    have y5 := row_of hg3.out 5 (.slice kaS S.code.length kcS) rfl
    go_upto_region 5 with (first | (go_at_call 11; refine HCF.out.mono ?_; rintro e w4 ⟨c2, c3, c4, c5, rfl, hc4, hb4⟩; have HC4 := Lib.hid hc4.forget; have HB4 := Lib.hid hb4; clear hc4 hb4 y0 y1 y2 y3 y4 y5) | (go_at_call 12; refine (HCI.out _ HB4.out).mono ?_; rintro e w5 ⟨v5, rfl, hi5, hb5⟩; have HI5 := Lib.hid hi5.forget; have HC5 := Lib.hid (HC4.out.keep hb5); have HB5 := Lib.hid (bcomp HB4.out hb5); have HRU5 := Lib.hid (HRUN.out _ _ _ _ _ w5 HB5.out HC5.out HI5.out); clear hi5 hb5) | (go_at_call 25; refine HRU5.out.mono ?_; rintro e z1 ⟨a1, a2, a3, a4, a5, a6, a7, a8, rfl, hrz, hz⟩; have HRZ := Lib.hid hrz; have HZ := Lib.hid (bcomp HB5.out hz); have HN := Lib.hid (heap_alloc_new z1 (.cells #[.int .u8 0, .int .i64 0, .slice none 0 0, .slice none 0 0, .slice none 0 0, .slice none 0 0] 49)); clear hrz hz) | (refine wpList_store_row rfl 49 (.tmp 7) (.tmp 31) rfl z1.heap.size #[.int .u8 x.status, .int .i64 x.steps, .slice a1 x.outs.length a2, .slice a3 x.rels.length a4, .slice a5 x.brs.length a6, .slice a7 x.reads.length a8] rfl rfl 49 #[.int .u8 0, .int .i64 0, .slice none 0 0, .slice none 0 0, .slice none 0 0, .slice none 0 0] ?hra1 (by as_aux_lemma => kernel_rfl) (by as_aux_lemma => kernel_rfl) (by as_aux_lemma => kernel_rfl) ?_; exact HN.out))
    try simp only [Act.put]
    have hbn : Below z1.heap.size z1 ((z1.alloc (.cells #[.int .u8 0, .int .i64 0, .slice none 0 0, .slice none 0 0, .slice none 0 0, .slice none 0 0] 49)).setRow z1.heap.size #[.int .u8 x.status, .int .i64 x.steps, .slice a1 x.outs.length a2, .slice a3 x.rels.length a4, .slice a5 x.brs.length a6, .slice a7 x.reads.length a8]) := below_row ((Below.refl z1.heap.size z1).alloc (Nat.le_refl _) _) (Nat.le_refl _) _
    have HG1 : Hid (((z1.alloc (.cells #[.int .u8 0, .int .i64 0, .slice none 0 0, .slice none 0 0, .slice none 0 0, .slice none 0 0] 49)).setRow z1.heap.size #[.int .u8 x.status, .int .i64 x.steps, .slice a1 x.outs.length a2, .slice a3 x.rels.length a4, .slice a5 x.brs.length a6, .slice a7 x.reads.length a8]).heap[z1.heap.size]? = some (.cells #[.int .u8 x.status, .int .i64 x.steps, .slice a1 x.outs.length a2, .slice a3 x.rels.length a4, .slice a5 x.brs.length a6, .slice a7 x.reads.length a8] 49 (0, 0))) := setRow_heap _ _ _ _ _ _ HN.out
    have HT1 := Lib.hid (HRZ.out.keep hbn)
    have HB6 := Lib.hid (bcomp HZ.out hbn)
    clear hbn HN HRZ HZ HC4 HI5 HC5 HB4 HB5 HCF HCI HRUN HRU5
    generalize ((z1.alloc (.cells #[.int .u8 0, .int .i64 0, .slice none 0 0, .slice none 0 0, .slice none 0 0, .slice none 0 0] 49)).setRow z1.heap.size #[.int .u8 x.status, .int .i64 x.steps, .slice a1 x.outs.length a2, .slice a3 x.rels.length a4, .slice a5 x.brs.length a6, .slice a7 x.reads.length a8]) = W6 at *
    have hg6 := Lib.hid ((HB6.out.block _ (Array.getElem?_eq_some_iff.1 hg3.out).1).trans hg3.out)
    have HRU := Lib.hid (HRUR.out W6 HB6.out)
    clear HRUR
    have y0 := row_of hg6.out 0 (.int .i64 S.width) rfl
    have y1 := row_of hg6.out 1 (.int .i64 S.regs) rfl
    have y2 := row_of hg6.out 2 (.slice caS S.chans.length ccS) rfl
    have y3 := row_of hg6.out 3 (.slice saS S.sites.length scS) rfl
    have y4 := row_of hg6.out 4 (.slice aaS S.arrays.length acS) rfl
    have y5 := row_of hg6.out 5 (.slice kaS S.code.length kcS) rfl
    go_upto_region 6 with (first | (go_at_call 26; refine HRU.out.mono ?_; rintro e z2 ⟨b1, b2, b3, b4, b5, b6, b7, b8, rfl, hrz, hz⟩; have HRZ := Lib.hid hrz; have HZ := Lib.hid hz; have HN := Lib.hid (heap_alloc_new z2 (.cells #[.int .u8 0, .int .i64 0, .slice none 0 0, .slice none 0 0, .slice none 0 0, .slice none 0 0] 49)); clear hrz hz y0 y1 y2 y3 y4 y5) | (refine wpList_store_row rfl 49 (.tmp 9) (.tmp 38) rfl z2.heap.size #[.int .u8 x.status, .int .i64 x.steps, .slice b1 x.outs.length b2, .slice b3 x.rels.length b4, .slice b5 x.brs.length b6, .slice b7 x.reads.length b8] rfl rfl 49 #[.int .u8 0, .int .i64 0, .slice none 0 0, .slice none 0 0, .slice none 0 0, .slice none 0 0] ?hrb1 (by as_aux_lemma => kernel_rfl) (by as_aux_lemma => kernel_rfl) (by as_aux_lemma => kernel_rfl) ?_; exact HN.out))
    try simp only [Act.put]
    have hbn : Below z2.heap.size z2 ((z2.alloc (.cells #[.int .u8 0, .int .i64 0, .slice none 0 0, .slice none 0 0, .slice none 0 0, .slice none 0 0] 49)).setRow z2.heap.size #[.int .u8 x.status, .int .i64 x.steps, .slice b1 x.outs.length b2, .slice b3 x.rels.length b4, .slice b5 x.brs.length b6, .slice b7 x.reads.length b8]) := below_row ((Below.refl z2.heap.size z2).alloc (Nat.le_refl _) _) (Nat.le_refl _) _
    have HG2 : Hid (((z2.alloc (.cells #[.int .u8 0, .int .i64 0, .slice none 0 0, .slice none 0 0, .slice none 0 0, .slice none 0 0] 49)).setRow z2.heap.size #[.int .u8 x.status, .int .i64 x.steps, .slice b1 x.outs.length b2, .slice b3 x.rels.length b4, .slice b5 x.brs.length b6, .slice b7 x.reads.length b8]).heap[z2.heap.size]? = some (.cells #[.int .u8 x.status, .int .i64 x.steps, .slice b1 x.outs.length b2, .slice b3 x.rels.length b4, .slice b5 x.brs.length b6, .slice b7 x.reads.length b8] 49 (0, 0))) := setRow_heap _ _ _ _ _ _ HN.out
    have HT2 := Lib.hid (HRZ.out.keep hbn)
    have HB7 := Lib.hid (bcomp HZ.out hbn)
    clear hbn HN HRZ HZ
    generalize ((z2.alloc (.cells #[.int .u8 0, .int .i64 0, .slice none 0 0, .slice none 0 0, .slice none 0 0, .slice none 0 0] 49)).setRow z2.heap.size #[.int .u8 x.status, .int .i64 x.steps, .slice b1 x.outs.length b2, .slice b3 x.rels.length b4, .slice b5 x.brs.length b6, .slice b7 x.reads.length b8]) = W7 at *
    have HG1' := Lib.hid ((HB7.out.block _ (Array.getElem?_eq_some_iff.1 HG1.out).1).trans HG1.out)
    have HT1' := Lib.hid (HT1.out.keep HB7.out)
    have HL7 := Lib.hid (HL0.out.keep (bcomp HB6.out HB7.out))
    have HBE := Lib.hid (bcomp HB3.out (bcomp HB6.out HB7.out))
    clear HRU hg6 hg3 HG1 HT1 HR3 HI3 HL0 HB3 HB6 HB7
    have HAW := Lib.hid (fun (w' : World) (hb : Below W7.heap.size W7 w') => awake_any w' (HL7.out.keep hb))
    have HEQ := Lib.hid (fun (w' : World) (hb : Below W7.heap.size W7 w') => equalTrace x x _ _ _ _ _ _ _ _ w' (HT1'.out.keep hb) (HT2.out.keep hb))
    rw [eqT_refl] at HEQ
    have her1 : (er == er) = true := by simp
    have x0 := row_of HG1'.out 0 (.int .u8 x.status) rfl
    have x1 := row_of HG1'.out 1 (.int .i64 x.steps) rfl
    have x2 := row_of HG1'.out 2 (.slice a1 x.outs.length a2) rfl
    have x3 := row_of HG1'.out 3 (.slice a3 x.rels.length a4) rfl
    have x4 := row_of HG1'.out 4 (.slice a5 x.brs.length a6) rfl
    have x5 := row_of HG1'.out 5 (.slice a7 x.reads.length a8) rfl
    have y0 := row_of HG2.out 0 (.int .u8 x.status) rfl
    have y1 := row_of HG2.out 1 (.int .i64 x.steps) rfl
    have y2 := row_of HG2.out 2 (.slice b1 x.outs.length b2) rfl
    have y3 := row_of HG2.out 3 (.slice b3 x.rels.length b4) rfl
    have y4 := row_of HG2.out 4 (.slice b5 x.brs.length b6) rfl
    have y5 := row_of HG2.out 5 (.slice b7 x.reads.length b8) rfl
    go_wp2_with (first | (go_at_call 19; refine (HEQ.out _ (by first | assumption | exact Below.refl _ _)).mono ?_; rintro e z ⟨rfl, hz⟩; have hzz : Below W7.heap.size W7 z := bcomp (by first | assumption | exact Below.refl _ _) hz; clear hz; clear x0 x1 x2 x3 x4 x5 y0 y1 y2 y3 y4 y5) | (go_at_call 17; refine (HAW.out _ (by first | assumption | exact Below.refl _ _)).mono ?_; rintro e z ⟨rfl, hz⟩; have hzz : Below W7.heap.size W7 z := bcomp (by first | assumption | exact Below.refl _ _) hz; clear hz))
    go_ret
    exact ⟨rfl, bcomp HBE.out (by first | assumption | exact Below.refl _ _)⟩
  · have hd : (decide (1 ≤ steps) && decide (steps ≤ 65536)) = false := by
      simp only [Bool.and_eq_false_iff, decide_eq_false_iff_not]
      omega
    have HS4 := HST
    have hst := HST.out
    rcases Decidable.em (1 ≤ steps) with hs1 | hs1
    · have hs2 : ¬ steps ≤ 65536 := fun h => hs ⟨hs1, h⟩
      go_upto_region 4 with fail
      clear hs hd hs1 hs2 hst
      generalize steps = st at *
      have hM2 : M.length ≤ 1000000 := by omega
      have HRUN := Lib.hid (fun (a b c d v : Value) (w' : World) (hb : Below W3.heap.size W3 w') (h1 : RdFlat none w' S a b c d) (h2 : RdLists none w' v M) => (machRun S a b c d v M st w' h1 h2 (HL0.out.keep hb) HS4.out hM2).mono fun _ _ h => runIs h)
      have HRUR := Lib.hid (fun (w' : World) (hb : Below W3.heap.size W3 w') => (refRun S _ _ _ _ _ M st w' (HR3.out.keep hb) (HI3.out.keep hb) HS4.out hM2).mono fun _ _ h => runIs h)
      have HCF := Lib.hid (copyFlat S _ _ _ _ W3 HR3.out)
      have HCI := Lib.hid (fun (w' : World) (hb : Below W3.heap.size W3 w') => copyLists _ M w' (HI3.out.keep hb))
      generalize runT S M st = x at *
      generalize errRun S M.length st = er at *
      have y0 := row_of hg3.out 0 (.int .i64 S.width) rfl
      have y1 := row_of hg3.out 1 (.int .i64 S.regs) rfl
      have y2 := row_of hg3.out 2 (.slice caS S.chans.length ccS) rfl
      have y3 := row_of hg3.out 3 (.slice saS S.sites.length scS) rfl
      have y4 := row_of hg3.out 4 (.slice aaS S.arrays.length acS) rfl
      have y5 := row_of hg3.out 5 (.slice kaS S.code.length kcS) rfl
      go_upto_region 5 with (first | (go_at_call 11; refine HCF.out.mono ?_; rintro e w4 ⟨c2, c3, c4, c5, rfl, hc4, hb4⟩; have HC4 := Lib.hid hc4.forget; have HB4 := Lib.hid hb4; clear hc4 hb4 y0 y1 y2 y3 y4 y5) | (go_at_call 12; refine (HCI.out _ HB4.out).mono ?_; rintro e w5 ⟨v5, rfl, hi5, hb5⟩; have HI5 := Lib.hid hi5.forget; have HC5 := Lib.hid (HC4.out.keep hb5); have HB5 := Lib.hid (bcomp HB4.out hb5); have HRU5 := Lib.hid (HRUN.out _ _ _ _ _ w5 HB5.out HC5.out HI5.out); clear hi5 hb5) | (go_at_call 25; refine HRU5.out.mono ?_; rintro e z1 ⟨a1, a2, a3, a4, a5, a6, a7, a8, rfl, hrz, hz⟩; have HRZ := Lib.hid hrz; have HZ := Lib.hid (bcomp HB5.out hz); have HN := Lib.hid (heap_alloc_new z1 (.cells #[.int .u8 0, .int .i64 0, .slice none 0 0, .slice none 0 0, .slice none 0 0, .slice none 0 0] 49)); clear hrz hz) | (refine wpList_store_row rfl 49 (.tmp 7) (.tmp 31) rfl z1.heap.size #[.int .u8 x.status, .int .i64 x.steps, .slice a1 x.outs.length a2, .slice a3 x.rels.length a4, .slice a5 x.brs.length a6, .slice a7 x.reads.length a8] rfl rfl 49 #[.int .u8 0, .int .i64 0, .slice none 0 0, .slice none 0 0, .slice none 0 0, .slice none 0 0] ?hra2 (by as_aux_lemma => kernel_rfl) (by as_aux_lemma => kernel_rfl) (by as_aux_lemma => kernel_rfl) ?_; exact HN.out))
      try simp only [Act.put]
      have hbn : Below z1.heap.size z1 ((z1.alloc (.cells #[.int .u8 0, .int .i64 0, .slice none 0 0, .slice none 0 0, .slice none 0 0, .slice none 0 0] 49)).setRow z1.heap.size #[.int .u8 x.status, .int .i64 x.steps, .slice a1 x.outs.length a2, .slice a3 x.rels.length a4, .slice a5 x.brs.length a6, .slice a7 x.reads.length a8]) := below_row ((Below.refl z1.heap.size z1).alloc (Nat.le_refl _) _) (Nat.le_refl _) _
      have HG1 : Hid (((z1.alloc (.cells #[.int .u8 0, .int .i64 0, .slice none 0 0, .slice none 0 0, .slice none 0 0, .slice none 0 0] 49)).setRow z1.heap.size #[.int .u8 x.status, .int .i64 x.steps, .slice a1 x.outs.length a2, .slice a3 x.rels.length a4, .slice a5 x.brs.length a6, .slice a7 x.reads.length a8]).heap[z1.heap.size]? = some (.cells #[.int .u8 x.status, .int .i64 x.steps, .slice a1 x.outs.length a2, .slice a3 x.rels.length a4, .slice a5 x.brs.length a6, .slice a7 x.reads.length a8] 49 (0, 0))) := setRow_heap _ _ _ _ _ _ HN.out
      have HT1 := Lib.hid (HRZ.out.keep hbn)
      have HB6 := Lib.hid (bcomp HZ.out hbn)
      clear hbn HN HRZ HZ HC4 HI5 HC5 HB4 HB5 HCF HCI HRUN HRU5
      generalize ((z1.alloc (.cells #[.int .u8 0, .int .i64 0, .slice none 0 0, .slice none 0 0, .slice none 0 0, .slice none 0 0] 49)).setRow z1.heap.size #[.int .u8 x.status, .int .i64 x.steps, .slice a1 x.outs.length a2, .slice a3 x.rels.length a4, .slice a5 x.brs.length a6, .slice a7 x.reads.length a8]) = W6 at *
      have hg6 := Lib.hid ((HB6.out.block _ (Array.getElem?_eq_some_iff.1 hg3.out).1).trans hg3.out)
      have HRU := Lib.hid (HRUR.out W6 HB6.out)
      clear HRUR
      have y0 := row_of hg6.out 0 (.int .i64 S.width) rfl
      have y1 := row_of hg6.out 1 (.int .i64 S.regs) rfl
      have y2 := row_of hg6.out 2 (.slice caS S.chans.length ccS) rfl
      have y3 := row_of hg6.out 3 (.slice saS S.sites.length scS) rfl
      have y4 := row_of hg6.out 4 (.slice aaS S.arrays.length acS) rfl
      have y5 := row_of hg6.out 5 (.slice kaS S.code.length kcS) rfl
      go_upto_region 6 with (first | (go_at_call 26; refine HRU.out.mono ?_; rintro e z2 ⟨b1, b2, b3, b4, b5, b6, b7, b8, rfl, hrz, hz⟩; have HRZ := Lib.hid hrz; have HZ := Lib.hid hz; have HN := Lib.hid (heap_alloc_new z2 (.cells #[.int .u8 0, .int .i64 0, .slice none 0 0, .slice none 0 0, .slice none 0 0, .slice none 0 0] 49)); clear hrz hz y0 y1 y2 y3 y4 y5) | (refine wpList_store_row rfl 49 (.tmp 9) (.tmp 38) rfl z2.heap.size #[.int .u8 x.status, .int .i64 x.steps, .slice b1 x.outs.length b2, .slice b3 x.rels.length b4, .slice b5 x.brs.length b6, .slice b7 x.reads.length b8] rfl rfl 49 #[.int .u8 0, .int .i64 0, .slice none 0 0, .slice none 0 0, .slice none 0 0, .slice none 0 0] ?hrb2 (by as_aux_lemma => kernel_rfl) (by as_aux_lemma => kernel_rfl) (by as_aux_lemma => kernel_rfl) ?_; exact HN.out))
      try simp only [Act.put]
      have hbn : Below z2.heap.size z2 ((z2.alloc (.cells #[.int .u8 0, .int .i64 0, .slice none 0 0, .slice none 0 0, .slice none 0 0, .slice none 0 0] 49)).setRow z2.heap.size #[.int .u8 x.status, .int .i64 x.steps, .slice b1 x.outs.length b2, .slice b3 x.rels.length b4, .slice b5 x.brs.length b6, .slice b7 x.reads.length b8]) := below_row ((Below.refl z2.heap.size z2).alloc (Nat.le_refl _) _) (Nat.le_refl _) _
      have HG2 : Hid (((z2.alloc (.cells #[.int .u8 0, .int .i64 0, .slice none 0 0, .slice none 0 0, .slice none 0 0, .slice none 0 0] 49)).setRow z2.heap.size #[.int .u8 x.status, .int .i64 x.steps, .slice b1 x.outs.length b2, .slice b3 x.rels.length b4, .slice b5 x.brs.length b6, .slice b7 x.reads.length b8]).heap[z2.heap.size]? = some (.cells #[.int .u8 x.status, .int .i64 x.steps, .slice b1 x.outs.length b2, .slice b3 x.rels.length b4, .slice b5 x.brs.length b6, .slice b7 x.reads.length b8] 49 (0, 0))) := setRow_heap _ _ _ _ _ _ HN.out
      have HT2 := Lib.hid (HRZ.out.keep hbn)
      have HB7 := Lib.hid (bcomp HZ.out hbn)
      clear hbn HN HRZ HZ
      generalize ((z2.alloc (.cells #[.int .u8 0, .int .i64 0, .slice none 0 0, .slice none 0 0, .slice none 0 0, .slice none 0 0] 49)).setRow z2.heap.size #[.int .u8 x.status, .int .i64 x.steps, .slice b1 x.outs.length b2, .slice b3 x.rels.length b4, .slice b5 x.brs.length b6, .slice b7 x.reads.length b8]) = W7 at *
      have HG1' := Lib.hid ((HB7.out.block _ (Array.getElem?_eq_some_iff.1 HG1.out).1).trans HG1.out)
      have HT1' := Lib.hid (HT1.out.keep HB7.out)
      have HL7 := Lib.hid (HL0.out.keep (bcomp HB6.out HB7.out))
      have HBE := Lib.hid (bcomp HB3.out (bcomp HB6.out HB7.out))
      clear HRU hg6 hg3 HG1 HT1 HR3 HI3 HL0 HB3 HB6 HB7
      have HAW := Lib.hid (fun (w' : World) (hb : Below W7.heap.size W7 w') => awake_any w' (HL7.out.keep hb))
      have HEQ := Lib.hid (fun (w' : World) (hb : Below W7.heap.size W7 w') => equalTrace x x _ _ _ _ _ _ _ _ w' (HT1'.out.keep hb) (HT2.out.keep hb))
      rw [eqT_refl] at HEQ
      have her1 : (er == er) = true := by simp
      have x0 := row_of HG1'.out 0 (.int .u8 x.status) rfl
      have x1 := row_of HG1'.out 1 (.int .i64 x.steps) rfl
      have x2 := row_of HG1'.out 2 (.slice a1 x.outs.length a2) rfl
      have x3 := row_of HG1'.out 3 (.slice a3 x.rels.length a4) rfl
      have x4 := row_of HG1'.out 4 (.slice a5 x.brs.length a6) rfl
      have x5 := row_of HG1'.out 5 (.slice a7 x.reads.length a8) rfl
      have y0 := row_of HG2.out 0 (.int .u8 x.status) rfl
      have y1 := row_of HG2.out 1 (.int .i64 x.steps) rfl
      have y2 := row_of HG2.out 2 (.slice b1 x.outs.length b2) rfl
      have y3 := row_of HG2.out 3 (.slice b3 x.rels.length b4) rfl
      have y4 := row_of HG2.out 4 (.slice b5 x.brs.length b6) rfl
      have y5 := row_of HG2.out 5 (.slice b7 x.reads.length b8) rfl
      go_wp2_with (first | (go_at_call 19; refine (HEQ.out _ (by first | assumption | exact Below.refl _ _)).mono ?_; rintro e z ⟨rfl, hz⟩; have hzz : Below W7.heap.size W7 z := bcomp (by first | assumption | exact Below.refl _ _) hz; clear hz; clear x0 x1 x2 x3 x4 x5 y0 y1 y2 y3 y4 y5) | (go_at_call 17; refine (HAW.out _ (by first | assumption | exact Below.refl _ _)).mono ?_; rintro e z ⟨rfl, hz⟩; have hzz : Below W7.heap.size W7 z := bcomp (by first | assumption | exact Below.refl _ _) hz; clear hz))
      go_ret
      exact ⟨rfl, bcomp HBE.out (by first | assumption | exact Below.refl _ _)⟩
    · go_upto_region 4 with fail
      clear hs hd hs1 hst
      generalize steps = st at *
      have hM2 : M.length ≤ 1000000 := by omega
      have HRUN := Lib.hid (fun (a b c d v : Value) (w' : World) (hb : Below W3.heap.size W3 w') (h1 : RdFlat none w' S a b c d) (h2 : RdLists none w' v M) => (machRun S a b c d v M st w' h1 h2 (HL0.out.keep hb) HS4.out hM2).mono fun _ _ h => runIs h)
      have HRUR := Lib.hid (fun (w' : World) (hb : Below W3.heap.size W3 w') => (refRun S _ _ _ _ _ M st w' (HR3.out.keep hb) (HI3.out.keep hb) HS4.out hM2).mono fun _ _ h => runIs h)
      have HCF := Lib.hid (copyFlat S _ _ _ _ W3 HR3.out)
      have HCI := Lib.hid (fun (w' : World) (hb : Below W3.heap.size W3 w') => copyLists _ M w' (HI3.out.keep hb))
      generalize runT S M st = x at *
      generalize errRun S M.length st = er at *
      have y0 := row_of hg3.out 0 (.int .i64 S.width) rfl
      have y1 := row_of hg3.out 1 (.int .i64 S.regs) rfl
      have y2 := row_of hg3.out 2 (.slice caS S.chans.length ccS) rfl
      have y3 := row_of hg3.out 3 (.slice saS S.sites.length scS) rfl
      have y4 := row_of hg3.out 4 (.slice aaS S.arrays.length acS) rfl
      have y5 := row_of hg3.out 5 (.slice kaS S.code.length kcS) rfl
      go_upto_region 5 with (first | (go_at_call 11; refine HCF.out.mono ?_; rintro e w4 ⟨c2, c3, c4, c5, rfl, hc4, hb4⟩; have HC4 := Lib.hid hc4.forget; have HB4 := Lib.hid hb4; clear hc4 hb4 y0 y1 y2 y3 y4 y5) | (go_at_call 12; refine (HCI.out _ HB4.out).mono ?_; rintro e w5 ⟨v5, rfl, hi5, hb5⟩; have HI5 := Lib.hid hi5.forget; have HC5 := Lib.hid (HC4.out.keep hb5); have HB5 := Lib.hid (bcomp HB4.out hb5); have HRU5 := Lib.hid (HRUN.out _ _ _ _ _ w5 HB5.out HC5.out HI5.out); clear hi5 hb5) | (go_at_call 25; refine HRU5.out.mono ?_; rintro e z1 ⟨a1, a2, a3, a4, a5, a6, a7, a8, rfl, hrz, hz⟩; have HRZ := Lib.hid hrz; have HZ := Lib.hid (bcomp HB5.out hz); have HN := Lib.hid (heap_alloc_new z1 (.cells #[.int .u8 0, .int .i64 0, .slice none 0 0, .slice none 0 0, .slice none 0 0, .slice none 0 0] 49)); clear hrz hz) | (refine wpList_store_row rfl 49 (.tmp 7) (.tmp 31) rfl z1.heap.size #[.int .u8 x.status, .int .i64 x.steps, .slice a1 x.outs.length a2, .slice a3 x.rels.length a4, .slice a5 x.brs.length a6, .slice a7 x.reads.length a8] rfl rfl 49 #[.int .u8 0, .int .i64 0, .slice none 0 0, .slice none 0 0, .slice none 0 0, .slice none 0 0] ?hra3 (by as_aux_lemma => kernel_rfl) (by as_aux_lemma => kernel_rfl) (by as_aux_lemma => kernel_rfl) ?_; exact HN.out))
      try simp only [Act.put]
      have hbn : Below z1.heap.size z1 ((z1.alloc (.cells #[.int .u8 0, .int .i64 0, .slice none 0 0, .slice none 0 0, .slice none 0 0, .slice none 0 0] 49)).setRow z1.heap.size #[.int .u8 x.status, .int .i64 x.steps, .slice a1 x.outs.length a2, .slice a3 x.rels.length a4, .slice a5 x.brs.length a6, .slice a7 x.reads.length a8]) := below_row ((Below.refl z1.heap.size z1).alloc (Nat.le_refl _) _) (Nat.le_refl _) _
      have HG1 : Hid (((z1.alloc (.cells #[.int .u8 0, .int .i64 0, .slice none 0 0, .slice none 0 0, .slice none 0 0, .slice none 0 0] 49)).setRow z1.heap.size #[.int .u8 x.status, .int .i64 x.steps, .slice a1 x.outs.length a2, .slice a3 x.rels.length a4, .slice a5 x.brs.length a6, .slice a7 x.reads.length a8]).heap[z1.heap.size]? = some (.cells #[.int .u8 x.status, .int .i64 x.steps, .slice a1 x.outs.length a2, .slice a3 x.rels.length a4, .slice a5 x.brs.length a6, .slice a7 x.reads.length a8] 49 (0, 0))) := setRow_heap _ _ _ _ _ _ HN.out
      have HT1 := Lib.hid (HRZ.out.keep hbn)
      have HB6 := Lib.hid (bcomp HZ.out hbn)
      clear hbn HN HRZ HZ HC4 HI5 HC5 HB4 HB5 HCF HCI HRUN HRU5
      generalize ((z1.alloc (.cells #[.int .u8 0, .int .i64 0, .slice none 0 0, .slice none 0 0, .slice none 0 0, .slice none 0 0] 49)).setRow z1.heap.size #[.int .u8 x.status, .int .i64 x.steps, .slice a1 x.outs.length a2, .slice a3 x.rels.length a4, .slice a5 x.brs.length a6, .slice a7 x.reads.length a8]) = W6 at *
      have hg6 := Lib.hid ((HB6.out.block _ (Array.getElem?_eq_some_iff.1 hg3.out).1).trans hg3.out)
      have HRU := Lib.hid (HRUR.out W6 HB6.out)
      clear HRUR
      have y0 := row_of hg6.out 0 (.int .i64 S.width) rfl
      have y1 := row_of hg6.out 1 (.int .i64 S.regs) rfl
      have y2 := row_of hg6.out 2 (.slice caS S.chans.length ccS) rfl
      have y3 := row_of hg6.out 3 (.slice saS S.sites.length scS) rfl
      have y4 := row_of hg6.out 4 (.slice aaS S.arrays.length acS) rfl
      have y5 := row_of hg6.out 5 (.slice kaS S.code.length kcS) rfl
      go_upto_region 6 with (first | (go_at_call 26; refine HRU.out.mono ?_; rintro e z2 ⟨b1, b2, b3, b4, b5, b6, b7, b8, rfl, hrz, hz⟩; have HRZ := Lib.hid hrz; have HZ := Lib.hid hz; have HN := Lib.hid (heap_alloc_new z2 (.cells #[.int .u8 0, .int .i64 0, .slice none 0 0, .slice none 0 0, .slice none 0 0, .slice none 0 0] 49)); clear hrz hz y0 y1 y2 y3 y4 y5) | (refine wpList_store_row rfl 49 (.tmp 9) (.tmp 38) rfl z2.heap.size #[.int .u8 x.status, .int .i64 x.steps, .slice b1 x.outs.length b2, .slice b3 x.rels.length b4, .slice b5 x.brs.length b6, .slice b7 x.reads.length b8] rfl rfl 49 #[.int .u8 0, .int .i64 0, .slice none 0 0, .slice none 0 0, .slice none 0 0, .slice none 0 0] ?hrb3 (by as_aux_lemma => kernel_rfl) (by as_aux_lemma => kernel_rfl) (by as_aux_lemma => kernel_rfl) ?_; exact HN.out))
      try simp only [Act.put]
      have hbn : Below z2.heap.size z2 ((z2.alloc (.cells #[.int .u8 0, .int .i64 0, .slice none 0 0, .slice none 0 0, .slice none 0 0, .slice none 0 0] 49)).setRow z2.heap.size #[.int .u8 x.status, .int .i64 x.steps, .slice b1 x.outs.length b2, .slice b3 x.rels.length b4, .slice b5 x.brs.length b6, .slice b7 x.reads.length b8]) := below_row ((Below.refl z2.heap.size z2).alloc (Nat.le_refl _) _) (Nat.le_refl _) _
      have HG2 : Hid (((z2.alloc (.cells #[.int .u8 0, .int .i64 0, .slice none 0 0, .slice none 0 0, .slice none 0 0, .slice none 0 0] 49)).setRow z2.heap.size #[.int .u8 x.status, .int .i64 x.steps, .slice b1 x.outs.length b2, .slice b3 x.rels.length b4, .slice b5 x.brs.length b6, .slice b7 x.reads.length b8]).heap[z2.heap.size]? = some (.cells #[.int .u8 x.status, .int .i64 x.steps, .slice b1 x.outs.length b2, .slice b3 x.rels.length b4, .slice b5 x.brs.length b6, .slice b7 x.reads.length b8] 49 (0, 0))) := setRow_heap _ _ _ _ _ _ HN.out
      have HT2 := Lib.hid (HRZ.out.keep hbn)
      have HB7 := Lib.hid (bcomp HZ.out hbn)
      clear hbn HN HRZ HZ
      generalize ((z2.alloc (.cells #[.int .u8 0, .int .i64 0, .slice none 0 0, .slice none 0 0, .slice none 0 0, .slice none 0 0] 49)).setRow z2.heap.size #[.int .u8 x.status, .int .i64 x.steps, .slice b1 x.outs.length b2, .slice b3 x.rels.length b4, .slice b5 x.brs.length b6, .slice b7 x.reads.length b8]) = W7 at *
      have HG1' := Lib.hid ((HB7.out.block _ (Array.getElem?_eq_some_iff.1 HG1.out).1).trans HG1.out)
      have HT1' := Lib.hid (HT1.out.keep HB7.out)
      have HL7 := Lib.hid (HL0.out.keep (bcomp HB6.out HB7.out))
      have HBE := Lib.hid (bcomp HB3.out (bcomp HB6.out HB7.out))
      clear HRU hg6 hg3 HG1 HT1 HR3 HI3 HL0 HB3 HB6 HB7
      have HAW := Lib.hid (fun (w' : World) (hb : Below W7.heap.size W7 w') => awake_any w' (HL7.out.keep hb))
      have HEQ := Lib.hid (fun (w' : World) (hb : Below W7.heap.size W7 w') => equalTrace x x _ _ _ _ _ _ _ _ w' (HT1'.out.keep hb) (HT2.out.keep hb))
      rw [eqT_refl] at HEQ
      have her1 : (er == er) = true := by simp
      have x0 := row_of HG1'.out 0 (.int .u8 x.status) rfl
      have x1 := row_of HG1'.out 1 (.int .i64 x.steps) rfl
      have x2 := row_of HG1'.out 2 (.slice a1 x.outs.length a2) rfl
      have x3 := row_of HG1'.out 3 (.slice a3 x.rels.length a4) rfl
      have x4 := row_of HG1'.out 4 (.slice a5 x.brs.length a6) rfl
      have x5 := row_of HG1'.out 5 (.slice a7 x.reads.length a8) rfl
      have y0 := row_of HG2.out 0 (.int .u8 x.status) rfl
      have y1 := row_of HG2.out 1 (.int .i64 x.steps) rfl
      have y2 := row_of HG2.out 2 (.slice b1 x.outs.length b2) rfl
      have y3 := row_of HG2.out 3 (.slice b3 x.rels.length b4) rfl
      have y4 := row_of HG2.out 4 (.slice b5 x.brs.length b6) rfl
      have y5 := row_of HG2.out 5 (.slice b7 x.reads.length b8) rfl
      go_wp2_with (first | (go_at_call 19; refine (HEQ.out _ (by first | assumption | exact Below.refl _ _)).mono ?_; rintro e z ⟨rfl, hz⟩; have hzz : Below W7.heap.size W7 z := bcomp (by first | assumption | exact Below.refl _ _) hz; clear hz; clear x0 x1 x2 x3 x4 x5 y0 y1 y2 y3 y4 y5) | (go_at_call 17; refine (HAW.out _ (by first | assumption | exact Below.refl _ _)).mono ?_; rintro e z ⟨rfl, hz⟩; have hzz : Below W7.heap.size W7 z := bcomp (by first | assumption | exact Below.refl _ _) hz; clear hz))
      go_ret
      exact ⟨rfl, bcomp HBE.out (by first | assumption | exact Below.refl _ _)⟩
end Go.Proofs.YthmdioldnnhidaaDoor
