/- The walk of MachMore. Condition: what comes in reads as the arguments; the tables hold what they are laid with. -/
import Derived.Test.YthmdioldnnhidaaDoorLMa
set_option linter.unnecessarySimpa false
set_option linter.unusedVariables false
set_option linter.unusedSimpArgs false
namespace Go.Proofs.YthmdioldnnhidaaDoor
open Go.ChangeShapes Go.WideShapes Go.ChangeAt Go.RowKit
/-- Run's contract, its results' slices in the open. -/
def RunIs (t : TraceD) (er : Int) (w : World) (e : Ending) (w' : World) : Prop :=
  ∃ a1 a2 a3 a4 a5 a6 a7 a8, e = .returned (.tuple #[.agg #[.int .u8 t.status, .int .i64 t.steps, .slice a1 t.outs.length a2, .slice a3 t.rels.length a4, .slice a5 t.brs.length a6, .slice a7 t.reads.length a8], .int .i64 er]) ∧ RdTrace none w' t (.slice a1 t.outs.length a2) (.slice a3 t.rels.length a4) (.slice a5 t.brs.length a6) (.slice a7 t.reads.length a8) ∧ Below w.heap.size w w'
theorem runIs {t : TraceD} {er : Int} {w w' : World} {e : Ending} (h : RunSaid t er w e w') : RunIs t er w e w' := by
  obtain ⟨v1, v2, v3, v4, rfl, hr, hb⟩ := h
  obtain ⟨a1, a2, rfl⟩ := hr.1.is; obtain ⟨a3, a4, rfl⟩ := hr.2.1.is; obtain ⟨a5, a6, rfl⟩ := hr.2.2.1.is; obtain ⟨a7, a8, rfl⟩ := hr.2.2.2.1.is
  exact ⟨a1, a2, a3, a4, a5, a6, a7, a8, rfl, hr.forget, hb⟩
/-- A flat program in a block, its slices in the open. -/
def FlatIs (f : FlatD) (w : World) (e : Ending) (w' : World) : Prop :=
  ∃ caS ccS saS scS aaS acS kaS kcS, e = .returned (.agg #[.int .i64 f.width, .int .i64 f.regs, .slice caS f.chans.length ccS, .slice saS f.sites.length scS, .slice aaS f.arrays.length acS, .slice kaS f.code.length kcS]) ∧ RdFlat (some (upFrom w.heap.size)) w' f (.slice caS f.chans.length ccS) (.slice saS f.sites.length scS) (.slice aaS f.arrays.length acS) (.slice kaS f.code.length kcS) ∧ Below w.heap.size w w'
theorem flatIs {f : FlatD} {w w' : World} {e : Ending} (h : FlatNew f w e w') : FlatIs f w e w' := by
  obtain ⟨v1, v2, v3, v4, rfl, hr, hb⟩ := h
  obtain ⟨ca, cc, rfl⟩ := hr.1.is
  obtain ⟨sa, sc, rfl⟩ := hr.2.1.is
  obtain ⟨aa, ac, rfl⟩ := hr.2.2.1.is
  obtain ⟨ka, kc, rfl⟩ := hr.2.2.2.1.is
  exact ⟨_, _, _, _, _, _, _, _, rfl, hr, hb⟩
theorem RdLists.setRow {n m : Nat} {w : World} {v : Value} {l : List (List Int)} (h : RdLists (some (upFrom n)) w v l) {x : Nat} (hx : x < n) (hm : m ≤ n) (cs : Array Value) : RdLists (some (upFrom m)) (w.setRow x cs) v l :=
  h.same (fun b hb _ => setRow_other w x b cs (by have : n ≤ b := hb; omega)) (fun b _ hb => Nat.le_trans hm hb)
theorem errRun_in (f : FlatD) (n : Nat) (s : Int) (h1 : 1 ≤ s) (h2 : s ≤ 65536) : errRun f n s = errNew f n := by rw [errRun, if_neg (by omega)]
set_option maxRecDepth 100000 in
set_option maxHeartbeats 3200000 in
theorem more_walk (f : FlatD) (cv sv av kv iv : Value) (L : List (List Int)) (n more : Int) (w : World) (hF : RdFlat none w f cv sv av kv) (hI : RdLists none w iv L) (hn : InI64 n) (hm : InI64 more) (hL : Laid w) :
    Calls Tryd.prog 6 #[flatV f cv sv av kv, iv, .int .i64 n, .int .i64 more] w fun e w' => e = .returned (.bool true) ∧ Below w.heap.size w w' := by
  obtain ⟨ca, cc, rfl⟩ := hF.1.is
  obtain ⟨sa, sc, rfl⟩ := hF.2.1.is
  obtain ⟨aa, ac, rfl⟩ := hF.2.2.1.is
  obtain ⟨ka, kc, rfl⟩ := hF.2.2.2.1.is
  obtain ⟨ia, ic, rfl⟩ := hI.is
  have hal := (Below.refl w.heap.size w).alloc (Nat.le_refl _) (.cells #[.int .i64 f.width, .int .i64 f.regs, .slice ca f.chans.length cc, .slice sa f.sites.length sc, .slice aa f.arrays.length ac, .slice ka f.code.length kc] 26)
  have hg := Lib.hid (heap_alloc_new w (.cells #[.int .i64 f.width, .int .i64 f.regs, .slice ca f.chans.length cc, .slice sa f.sites.length sc, .slice aa f.arrays.length ac, .slice ka f.code.length kc] 26))
  have HF := Lib.hid (hF.keep hal)
  have HI := Lib.hid (hI.keep hal)
  have HL := Lib.hid (hL.keep hal)
  have HLw := Lib.hid hL
  have HB := Lib.hid hal
  have HN := Lib.hid hn
  have HM := Lib.hid hm
  clear hF hI hL hal hn hm
  go_enter Tryd.func6, Tryd.ntmps6
  go_upto_region 1 with fail
  generalize w.alloc (.cells #[.int .i64 f.width, .int .i64 f.regs, .slice ca f.chans.length cc, .slice sa f.sites.length sc, .slice aa f.arrays.length ac, .slice ka f.code.length kc] 26) = W at *
  have hsW : w.heap.size < W.heap.size := (Array.getElem?_eq_some_iff.1 hg.out).1
  have y0 := row_of hg.out 0 (.int .i64 f.width) rfl
  have y1 := row_of hg.out 1 (.int .i64 f.regs) rfl
  have y2 := row_of hg.out 2 (.slice ca f.chans.length cc) rfl
  have y3 := row_of hg.out 3 (.slice sa f.sites.length sc) rfl
  have y4 := row_of hg.out 4 (.slice aa f.arrays.length ac) rfl
  have y5 := row_of hg.out 5 (.slice ka f.code.length kc) rfl
  have HS := Lib.hid ((short25 f _ _ _ _ W HF.out).mono fun _ _ h => flatIs h)
  have HW := Lib.hid (fun w' (hb : Below W.heap.size W w') => few26 _ L w' (HI.out.keep hb))
  have hM : (fewI L).length ≤ 34 := by simp [fewI]; omega
  generalize shortF f = S at *
  generalize fewI L = M at *
  go_upto_region 2 with (first | (go_at_call 9; refine HS.out.mono ?_; rintro e w1 ⟨caS, ccS, saS, scS, aaS, acS, kaS, kcS, rfl, hr1, hb1⟩; have HR1 := Lib.hid hr1; have HB1 := Lib.hid hb1; clear hr1 hb1 y0 y1 y2 y3 y4 y5) | (go_at_call 10; refine (HW.out _ HB1.out).mono ?_; rintro e w2 ⟨v, rfl, hr2, hb2⟩; obtain ⟨ma, mc, rfl⟩ := hr2.is; have HR2 := Lib.hid hr2; have HB2 := Lib.hid (bcomp HB1.out hb2); have HS2 := Lib.hid (HR1.out.keep hb2); have hg2 := Lib.hid ((HB2.out.block _ hsW).trans hg.out); clear hr2 hb2) | (refine wpList_store_row rfl 26 (.tmp 4) (.tmp 14) rfl w.heap.size #[.int .i64 S.width, .int .i64 S.regs, .slice caS S.chans.length ccS, .slice saS S.sites.length scS, .slice aaS S.arrays.length acS, .slice kaS S.code.length kcS] rfl rfl 26 #[.int .i64 f.width, .int .i64 f.regs, .slice ca f.chans.length cc, .slice sa f.sites.length sc, .slice aa f.arrays.length ac, .slice ka f.code.length kc] ?hs1 (by as_aux_lemma => kernel_rfl) (by as_aux_lemma => kernel_rfl) (by as_aux_lemma => kernel_rfl) ?_; exact hg2.out))
  try simp only [Act.put]
  have hs1 : w.heap.size < w1.heap.size := by have := HB1.out.size; omega
  have HR3 := Lib.hid (HS2.out.setRow (m := 0) hsW (Nat.zero_le _) #[.int .i64 S.width, .int .i64 S.regs, .slice caS S.chans.length ccS, .slice saS S.sites.length scS, .slice aaS S.arrays.length acS, .slice kaS S.code.length kcS]).forget
  have HI3 := Lib.hid (HR2.out.setRow (m := 0) hs1 (Nat.zero_le _) #[.int .i64 S.width, .int .i64 S.regs, .slice caS S.chans.length ccS, .slice saS S.sites.length scS, .slice aaS S.arrays.length acS, .slice kaS S.code.length kcS]).forget
  have HB3 : Hid (Below w.heap.size w (w2.setRow w.heap.size #[.int .i64 S.width, .int .i64 S.regs, .slice caS S.chans.length ccS, .slice saS S.sites.length scS, .slice aaS S.arrays.length acS, .slice kaS S.code.length kcS])) := below_row (bcomp HB.out HB2.out) (Nat.le_refl _) _
  have hg3 : Hid ((w2.setRow w.heap.size #[.int .i64 S.width, .int .i64 S.regs, .slice caS S.chans.length ccS, .slice saS S.sites.length scS, .slice aaS S.arrays.length acS, .slice kaS S.code.length kcS]).heap[w.heap.size]? = some (.cells #[.int .i64 S.width, .int .i64 S.regs, .slice caS S.chans.length ccS, .slice saS S.sites.length scS, .slice aaS S.arrays.length acS, .slice kaS S.code.length kcS] 26 (0, 0))) := setRow_heap _ _ _ _ _ _ hg2.out
  have HL0 : Hid (Laid (w2.setRow w.heap.size #[.int .i64 S.width, .int .i64 S.regs, .slice caS S.chans.length ccS, .slice saS S.sites.length scS, .slice aaS S.arrays.length acS, .slice kaS S.code.length kcS])) := HLw.out.keep HB3.out
  clear HB1 HB2 HR1 HR2 HS2 hg2 HS HW HF HI HL hg HB hs1 hsW
  generalize (w2.setRow w.heap.size #[.int .i64 S.width, .int .i64 S.regs, .slice caS S.chans.length ccS, .slice saS S.sites.length scS, .slice aaS S.arrays.length acS, .slice kaS S.code.length kcS]) = W3 at *
  have HMD := Lib.hid (fun w' => mod_any n 100 HN.out ⟨by decide, by decide⟩ w')
  have HMD2 := Lib.hid (fun w' => mod_any more 100 HM.out ⟨by decide, by decide⟩ w')
  go_upto_region 3 with (first | (go_at_call 27; with_reducible refine (HMD.out _).mono ?_; rintro e w4 ⟨r, rfl, hr0, hr1, hb4⟩; have HB4 := Lib.hid hb4; clear hb4) | (go_at_call 27; with_reducible refine (HMD2.out _).mono ?_; rintro e w5 ⟨r2, rfl, hr2, hr3, hb5⟩; have HB5 := Lib.hid (bcomp HB4.out hb5); clear hb5))
  obtain ⟨p, rfl⟩ : ∃ p : Nat, r = p := ⟨r.toNat, by omega⟩
  obtain ⟨q, rfl⟩ : ∃ q : Nat, r2 = q := ⟨r2.toNat, by omega⟩
  have HR5 := Lib.hid (HR3.out.keep HB5.out)
  have HI5 := Lib.hid (HI3.out.keep HB5.out)
  have HL5 := Lib.hid (HL0.out.keep HB5.out)
  have hg5 := Lib.hid ((HB5.out.block _ (Array.getElem?_eq_some_iff.1 hg3.out).1).trans hg3.out)
  have HBB := Lib.hid (bcomp HB3.out HB5.out)
  clear HR3 HI3 HL0 hg3 HB3 HB4 HB5 HMD HMD2
  generalize w5 = W5 at *
  have hci : ∀ c ∈ S.code, CodeIn c := HR5.out.2.2.2.1.ok
  have hp99 : p ≤ 99 := by omega
  have hq99 : q ≤ 99 := by omega
  have HPL := Lib.hid (more_plain S M p q hp99 hq99 hci)
  have hrun := fun (s : Int) (h1 : 1 ≤ s) (h2 : s ≤ 65536) (w' : World) (hb : Below W5.heap.size W5 w') => (machRun S _ _ _ _ _ M s w' (HR5.out.keep hb) (HI5.out.keep hb) (HL5.out.keep hb) ⟨by omega, by omega⟩ (by omega)).mono fun _ _ h => runIs h
  have HRUN1 := Lib.hid (hrun (1 + p) (by omega) (by omega) W5 (Below.refl _ _))
  have HRUNx := Lib.hid (hrun (1 + p + q) (by omega) (by omega))
  rw [errRun_in _ _ _ (by omega) (by omega)] at HRUN1 HRUNx
  clear hci hrun
  generalize runT S M (1 + p) = x at *
  generalize runT S M (1 + p + q) = y at *
  obtain ⟨er, her⟩ : ∃ er, errNew S M.length = er := ⟨_, rfl⟩
  have HER := Lib.hid her
  rw [her] at HRUN1 HRUNx HPL
  clear her
  have y0 := row_of hg5.out 0 (.int .i64 S.width) rfl
  have y1 := row_of hg5.out 1 (.int .i64 S.regs) rfl
  have y2 := row_of hg5.out 2 (.slice caS S.chans.length ccS) rfl
  have y3 := row_of hg5.out 3 (.slice saS S.sites.length scS) rfl
  have y4 := row_of hg5.out 4 (.slice aaS S.arrays.length acS) rfl
  have y5 := row_of hg5.out 5 (.slice kaS S.code.length kcS) rfl
  go_upto_region 4 with (first | (go_at_call 25; refine HRUN1.out.mono ?_; rintro e z1 ⟨a1, a2, a3, a4, a5, a6, a7, a8, rfl, hrz, hz⟩; have HRZ := Lib.hid hrz; have HZ := Lib.hid hz; have HN := Lib.hid (heap_alloc_new z1 (.cells #[.int .u8 0, .int .i64 0, .slice none 0 0, .slice none 0 0, .slice none 0 0, .slice none 0 0] 49)); clear hrz hz y0 y1 y2 y3 y4 y5) | (refine wpList_store_row rfl 49 (.tmp 9) (.tmp 27) rfl z1.heap.size #[.int .u8 x.status, .int .i64 x.steps, .slice a1 x.outs.length a2, .slice a3 x.rels.length a4, .slice a5 x.brs.length a6, .slice a7 x.reads.length a8] rfl rfl 49 #[.int .u8 0, .int .i64 0, .slice none 0 0, .slice none 0 0, .slice none 0 0, .slice none 0 0] ?hr1 (by as_aux_lemma => kernel_rfl) (by as_aux_lemma => kernel_rfl) (by as_aux_lemma => kernel_rfl) ?_; exact HN.out))
  try simp only [Act.put]
  have hbn : Below z1.heap.size z1 ((z1.alloc (.cells #[.int .u8 0, .int .i64 0, .slice none 0 0, .slice none 0 0, .slice none 0 0, .slice none 0 0] 49)).setRow z1.heap.size #[.int .u8 x.status, .int .i64 x.steps, .slice a1 x.outs.length a2, .slice a3 x.rels.length a4, .slice a5 x.brs.length a6, .slice a7 x.reads.length a8]) := below_row ((Below.refl z1.heap.size z1).alloc (Nat.le_refl _) _) (Nat.le_refl _) _
  have HG1 : Hid (((z1.alloc (.cells #[.int .u8 0, .int .i64 0, .slice none 0 0, .slice none 0 0, .slice none 0 0, .slice none 0 0] 49)).setRow z1.heap.size #[.int .u8 x.status, .int .i64 x.steps, .slice a1 x.outs.length a2, .slice a3 x.rels.length a4, .slice a5 x.brs.length a6, .slice a7 x.reads.length a8]).heap[z1.heap.size]? = some (.cells #[.int .u8 x.status, .int .i64 x.steps, .slice a1 x.outs.length a2, .slice a3 x.rels.length a4, .slice a5 x.brs.length a6, .slice a7 x.reads.length a8] 49 (0, 0))) := setRow_heap _ _ _ _ _ _ HN.out
  have HT1 := Lib.hid (HRZ.out.keep hbn)
  have HBn := Lib.hid (bcomp HZ.out hbn)
  clear hbn HN HRZ HZ
  generalize ((z1.alloc (.cells #[.int .u8 0, .int .i64 0, .slice none 0 0, .slice none 0 0, .slice none 0 0, .slice none 0 0] 49)).setRow z1.heap.size #[.int .u8 x.status, .int .i64 x.steps, .slice a1 x.outs.length a2, .slice a3 x.rels.length a4, .slice a5 x.brs.length a6, .slice a7 x.reads.length a8]) = W6 at *
  have HB6 := HBn
  have hg6 := Lib.hid ((HB6.out.block _ (Array.getElem?_eq_some_iff.1 hg5.out).1).trans hg5.out)
  have HRUN2 := Lib.hid (HRUNx.out W6 HB6.out)
  clear HRUNx HRUN1 HBn
  have y0 := row_of hg6.out 0 (.int .i64 S.width) rfl
  have y1 := row_of hg6.out 1 (.int .i64 S.regs) rfl
  have y2 := row_of hg6.out 2 (.slice caS S.chans.length ccS) rfl
  have y3 := row_of hg6.out 3 (.slice saS S.sites.length scS) rfl
  have y4 := row_of hg6.out 4 (.slice aaS S.arrays.length acS) rfl
  have y5 := row_of hg6.out 5 (.slice kaS S.code.length kcS) rfl
  go_upto_region 5 with (first | (go_at_call 25; refine HRUN2.out.mono ?_; rintro e z2 ⟨b1, b2, b3, b4, b5, b6, b7, b8, rfl, hrz, hz⟩; have HRZ := Lib.hid hrz; have HZ := Lib.hid hz; have HN := Lib.hid (heap_alloc_new z2 (.cells #[.int .u8 0, .int .i64 0, .slice none 0 0, .slice none 0 0, .slice none 0 0, .slice none 0 0] 49)); clear hrz hz y0 y1 y2 y3 y4 y5) | (refine wpList_store_row rfl 49 (.tmp 11) (.tmp 36) rfl z2.heap.size #[.int .u8 y.status, .int .i64 y.steps, .slice b1 y.outs.length b2, .slice b3 y.rels.length b4, .slice b5 y.brs.length b6, .slice b7 y.reads.length b8] rfl rfl 49 #[.int .u8 0, .int .i64 0, .slice none 0 0, .slice none 0 0, .slice none 0 0, .slice none 0 0] ?hr2 (by as_aux_lemma => kernel_rfl) (by as_aux_lemma => kernel_rfl) (by as_aux_lemma => kernel_rfl) ?_; exact HN.out))
  try simp only [Act.put]
  have hbn : Below z2.heap.size z2 ((z2.alloc (.cells #[.int .u8 0, .int .i64 0, .slice none 0 0, .slice none 0 0, .slice none 0 0, .slice none 0 0] 49)).setRow z2.heap.size #[.int .u8 y.status, .int .i64 y.steps, .slice b1 y.outs.length b2, .slice b3 y.rels.length b4, .slice b5 y.brs.length b6, .slice b7 y.reads.length b8]) := below_row ((Below.refl z2.heap.size z2).alloc (Nat.le_refl _) _) (Nat.le_refl _) _
  have HG2 : Hid (((z2.alloc (.cells #[.int .u8 0, .int .i64 0, .slice none 0 0, .slice none 0 0, .slice none 0 0, .slice none 0 0] 49)).setRow z2.heap.size #[.int .u8 y.status, .int .i64 y.steps, .slice b1 y.outs.length b2, .slice b3 y.rels.length b4, .slice b5 y.brs.length b6, .slice b7 y.reads.length b8]).heap[z2.heap.size]? = some (.cells #[.int .u8 y.status, .int .i64 y.steps, .slice b1 y.outs.length b2, .slice b3 y.rels.length b4, .slice b5 y.brs.length b6, .slice b7 y.reads.length b8] 49 (0, 0))) := setRow_heap _ _ _ _ _ _ HN.out
  have HT2 := Lib.hid (HRZ.out.keep hbn)
  have HBn := Lib.hid (bcomp HZ.out hbn)
  clear hbn HN HRZ HZ
  generalize ((z2.alloc (.cells #[.int .u8 0, .int .i64 0, .slice none 0 0, .slice none 0 0, .slice none 0 0, .slice none 0 0] 49)).setRow z2.heap.size #[.int .u8 y.status, .int .i64 y.steps, .slice b1 y.outs.length b2, .slice b3 y.rels.length b4, .slice b5 y.brs.length b6, .slice b7 y.reads.length b8]) = W7 at *
  have HB7 := Lib.hid (bcomp HB6.out HBn.out)
  have hg7 := Lib.hid ((HBn.out.block _ (Array.getElem?_eq_some_iff.1 hg6.out).1).trans hg6.out)
  have HG1' := Lib.hid ((HBn.out.block _ (Array.getElem?_eq_some_iff.1 HG1.out).1).trans HG1.out)
  have HT1' := Lib.hid (HT1.out.keep HBn.out)
  have HR7 := Lib.hid (HR5.out.keep HB7.out)
  have HL7 := Lib.hid (HL5.out.keep HB7.out)
  have HBE := Lib.hid (bcomp HBB.out HB7.out)
  clear HRUN2 hg6 hg5 HG1 HT1 HR5 HI5 HL5 HBB HB6 HB7 HBn
  have HCK := Lib.hid (fun (w' : World) (hb : Below W7.heap.size W7 w') => flatCheck S _ _ _ _ w' (HR7.out.keep hb) (HL7.out.keep hb))
  have HAW := Lib.hid (fun (w' : World) (hb : Below W7.heap.size W7 w') => awake_any w' (HL7.out.keep hb))
  have HEQ := Lib.hid (fun (w' : World) (hb : Below W7.heap.size W7 w') => equalTrace x y _ _ _ _ _ _ _ _ w' (HT1'.out.keep hb) (HT2.out.keep hb))
  have HST := Lib.hid (fun (w' : World) (hb : Below W7.heap.size W7 w') => starts_any x y _ _ _ _ _ _ _ _ w' (HT1'.out.keep hb) (HT2.out.keep hb))
  have HK : Hid (∀ w' : World, Below W7.heap.size W7 w' → w'.cell? ⟨z1.heap.size, 0, none⟩ = some (.int .u8 x.status) ∧ w'.cell? ⟨z1.heap.size, 1, none⟩ = some (.int .i64 x.steps) ∧ w'.cell? ⟨z1.heap.size, 2, none⟩ = some (.slice a1 x.outs.length a2) ∧ w'.cell? ⟨z1.heap.size, 3, none⟩ = some (.slice a3 x.rels.length a4) ∧ w'.cell? ⟨z1.heap.size, 4, none⟩ = some (.slice a5 x.brs.length a6) ∧ w'.cell? ⟨z1.heap.size, 5, none⟩ = some (.slice a7 x.reads.length a8) ∧ w'.cell? ⟨z2.heap.size, 0, none⟩ = some (.int .u8 y.status) ∧ w'.cell? ⟨z2.heap.size, 1, none⟩ = some (.int .i64 y.steps) ∧ w'.cell? ⟨z2.heap.size, 2, none⟩ = some (.slice b1 y.outs.length b2) ∧ w'.cell? ⟨z2.heap.size, 3, none⟩ = some (.slice b3 y.rels.length b4) ∧ w'.cell? ⟨z2.heap.size, 4, none⟩ = some (.slice b5 y.brs.length b6) ∧ w'.cell? ⟨z2.heap.size, 5, none⟩ = some (.slice b7 y.reads.length b8) ∧ w'.cell? ⟨w.heap.size, 0, none⟩ = some (.int .i64 S.width) ∧ w'.cell? ⟨w.heap.size, 1, none⟩ = some (.int .i64 S.regs) ∧ w'.cell? ⟨w.heap.size, 2, none⟩ = some (.slice caS S.chans.length ccS) ∧ w'.cell? ⟨w.heap.size, 3, none⟩ = some (.slice saS S.sites.length scS) ∧ w'.cell? ⟨w.heap.size, 4, none⟩ = some (.slice aaS S.arrays.length acS) ∧ w'.cell? ⟨w.heap.size, 5, none⟩ = some (.slice kaS S.code.length kcS)) := fun w' hb => by
    have h1 := (hb.block _ (Array.getElem?_eq_some_iff.1 HG1'.out).1).trans HG1'.out
    have h2 := (hb.block _ (Array.getElem?_eq_some_iff.1 HG2.out).1).trans HG2.out
    have h3 := (hb.block _ (Array.getElem?_eq_some_iff.1 hg7.out).1).trans hg7.out
    exact ⟨row_of h1 0 _ rfl, row_of h1 1 _ rfl, row_of h1 2 _ rfl, row_of h1 3 _ rfl, row_of h1 4 _ rfl, row_of h1 5 _ rfl, row_of h2 0 _ rfl, row_of h2 1 _ rfl, row_of h2 2 _ rfl, row_of h2 3 _ rfl, row_of h2 4 _ rfl, row_of h2 5 _ rfl, row_of h3 0 _ rfl, row_of h3 1 _ rfl, row_of h3 2 _ rfl, row_of h3 3 _ rfl, row_of h3 4 _ rfl, row_of h3 5 _ rfl⟩
  clear hg7 HG1' HG2
  have her1 : (er != er) = false := by simp
  obtain ⟨x0, x1, x2, x3, x4, x5, y0, y1, y2, y3, y4, y5, f0, f1, f2, f3, f4, f5⟩ := HK.out _ (Below.refl _ _)
  by_cases h0 : er = 0
  rotate_left
  · obtain rfl : x = zeroT := HPL.out.1 h0
    have her2 : (er != 0) = true := by simpa using h0
    have HEQ0 : Hid (∀ w' : World, Below W7.heap.size W7 w' → Calls Tryd.prog 19 #[.agg #[.int .u8 zeroT.status, .int .i64 zeroT.steps, .slice a1 zeroT.outs.length a2, .slice a3 zeroT.rels.length a4, .slice a5 zeroT.brs.length a6, .slice a7 zeroT.reads.length a8], .agg #[.int .u8 0, .int .i64 0, .slice none 0 0, .slice none 0 0, .slice none 0 0, .slice none 0 0]] w' fun e w'' => e = .returned (.bool true) ∧ Below w'.heap.size w' w'') := fun w' hb => equalTrace zeroT zeroT _ _ _ _ _ _ _ _ w' (HT1'.out.keep hb) (zeroT_rd none w')
    cases hok : flatOk S
    · have he : flatE S = 2 := by rw [flatE, hok]; rfl
      rw [he] at HCK
      clear hok he h0 HEQ HST HPL HER
      go_wp2_with (first | (go_at_call 28; refine (HCK.out _ (by first | assumption | exact Below.refl _ _)).mono ?_; rintro e z ⟨rfl, hz⟩; have hzz : Below W7.heap.size W7 z := bcomp (by first | assumption | exact Below.refl _ _) hz; clear hz; clear x0 x1 x2 x3 x4 x5 y0 y1 y2 y3 y4 y5 f0 f1 f2 f3 f4 f5; obtain ⟨x0, x1, x2, x3, x4, x5, y0, y1, y2, y3, y4, y5, f0, f1, f2, f3, f4, f5⟩ := HK.out z hzz) | (go_at_call 19; refine (HEQ0.out _ (by first | assumption | exact Below.refl _ _)).mono ?_; rintro e z ⟨rfl, hz⟩; have hzz : Below W7.heap.size W7 z := bcomp (by first | assumption | exact Below.refl _ _) hz; clear hz; clear x0 x1 x2 x3 x4 x5 y0 y1 y2 y3 y4 y5 f0 f1 f2 f3 f4 f5; obtain ⟨x0, x1, x2, x3, x4, x5, y0, y1, y2, y3, y4, y5, f0, f1, f2, f3, f4, f5⟩ := HK.out z hzz) | (go_at_call 17; refine (HAW.out _ (by first | assumption | exact Below.refl _ _)).mono ?_; rintro e z ⟨rfl, hz⟩; have hzz : Below W7.heap.size W7 z := bcomp (by first | assumption | exact Below.refl _ _) hz; clear hz; clear x0 x1 x2 x3 x4 x5 y0 y1 y2 y3 y4 y5 f0 f1 f2 f3 f4 f5; obtain ⟨x0, x1, x2, x3, x4, x5, y0, y1, y2, y3, y4, y5, f0, f1, f2, f3, f4, f5⟩ := HK.out z hzz))
      go_ret
      exact ⟨rfl, bcomp HBE.out (by first | assumption | exact Below.refl _ _)⟩
    · have he : flatE S = 0 := by rw [flatE, hok]; rfl
      rw [he] at HCK
      have hlt : ¬ M.length ≤ S.chans.length := fun hle => h0 (by rw [← HER.out, errNew, hok, if_pos rfl, if_neg (by omega)])
      have hlt' : ¬ (M.length : Int) ≤ (S.chans.length : Int) := by omega
      clear hok he h0 HEQ HST HPL HER
      go_wp2_with (first | (go_at_call 28; refine (HCK.out _ (by first | assumption | exact Below.refl _ _)).mono ?_; rintro e z ⟨rfl, hz⟩; have hzz : Below W7.heap.size W7 z := bcomp (by first | assumption | exact Below.refl _ _) hz; clear hz; clear x0 x1 x2 x3 x4 x5 y0 y1 y2 y3 y4 y5 f0 f1 f2 f3 f4 f5; obtain ⟨x0, x1, x2, x3, x4, x5, y0, y1, y2, y3, y4, y5, f0, f1, f2, f3, f4, f5⟩ := HK.out z hzz) | (go_at_call 19; refine (HEQ0.out _ (by first | assumption | exact Below.refl _ _)).mono ?_; rintro e z ⟨rfl, hz⟩; have hzz : Below W7.heap.size W7 z := bcomp (by first | assumption | exact Below.refl _ _) hz; clear hz; clear x0 x1 x2 x3 x4 x5 y0 y1 y2 y3 y4 y5 f0 f1 f2 f3 f4 f5; obtain ⟨x0, x1, x2, x3, x4, x5, y0, y1, y2, y3, y4, y5, f0, f1, f2, f3, f4, f5⟩ := HK.out z hzz) | (go_at_call 17; refine (HAW.out _ (by first | assumption | exact Below.refl _ _)).mono ?_; rintro e z ⟨rfl, hz⟩; have hzz : Below W7.heap.size W7 z := bcomp (by first | assumption | exact Below.refl _ _) hz; clear hz; clear x0 x1 x2 x3 x4 x5 y0 y1 y2 y3 y4 y5 f0 f1 f2 f3 f4 f5; obtain ⟨x0, x1, x2, x3, x4, x5, y0, y1, y2, y3, y4, y5, f0, f1, f2, f3, f4, f5⟩ := HK.out z hzz))
      go_ret
      exact ⟨rfl, bcomp HBE.out (by first | assumption | exact Below.refl _ _)⟩
  · obtain ⟨k1, k2, k3, k4⟩ := HPL.out.2 h0
    have hok : flatOk S = true := by
      cases hk : flatOk S
      · have := HER.out; rw [errNew, hk, h0] at this; cases this
      · rfl
    have hle : M.length ≤ S.chans.length := by
      have := HER.out
      rw [errNew, hok, if_pos rfl, h0] at this
      split at this
      · cases this
      · omega
    have he : flatE S = 0 := by rw [flatE, hok]; rfl
    rw [he] at HCK
    subst h0
    have hle' : (M.length : Int) ≤ (S.chans.length : Int) := by omega
    rw [k4] at HST
    clear hok he k4 HPL HER her1
    by_cases hs : x.status = 2
    · obtain ⟨j1, j2⟩ := k2 hs
      have s1 : (x.status != 2) = false := by simp [hs]
      have s2 : (x.status == 2) = true := by simp [hs]
      have s3 : (x.steps != 1 + (p : Int)) = false := by simp [j1]
      have s4 : ¬ 1 + (p : Int) < x.steps := by omega
      by_cases hq0 : 0 < q
      · have hq1 : (0 : Int) < (q : Int) := by omega
        have s5 : (y.steps == 1 + (p : Int)) = false := by have := j2 hq1; simp; omega
        clear k1 k2 hs j1 j2
        go_wp2_with (first | (go_at_call 28; refine (HCK.out _ (by first | assumption | exact Below.refl _ _)).mono ?_; rintro e z ⟨rfl, hz⟩; have hzz : Below W7.heap.size W7 z := bcomp (by first | assumption | exact Below.refl _ _) hz; clear hz; clear x0 x1 x2 x3 x4 x5 y0 y1 y2 y3 y4 y5 f0 f1 f2 f3 f4 f5; obtain ⟨x0, x1, x2, x3, x4, x5, y0, y1, y2, y3, y4, y5, f0, f1, f2, f3, f4, f5⟩ := HK.out z hzz) | (go_at_call 29; refine (HST.out _ (by first | assumption | exact Below.refl _ _)).mono ?_; rintro e z ⟨rfl, hz⟩; have hzz : Below W7.heap.size W7 z := bcomp (by first | assumption | exact Below.refl _ _) hz; clear hz; clear x0 x1 x2 x3 x4 x5 y0 y1 y2 y3 y4 y5 f0 f1 f2 f3 f4 f5; obtain ⟨x0, x1, x2, x3, x4, x5, y0, y1, y2, y3, y4, y5, f0, f1, f2, f3, f4, f5⟩ := HK.out z hzz) | (go_at_call 17; refine (HAW.out _ (by first | assumption | exact Below.refl _ _)).mono ?_; rintro e z ⟨rfl, hz⟩; have hzz : Below W7.heap.size W7 z := bcomp (by first | assumption | exact Below.refl _ _) hz; clear hz; clear x0 x1 x2 x3 x4 x5 y0 y1 y2 y3 y4 y5 f0 f1 f2 f3 f4 f5; obtain ⟨x0, x1, x2, x3, x4, x5, y0, y1, y2, y3, y4, y5, f0, f1, f2, f3, f4, f5⟩ := HK.out z hzz))
        go_ret
        exact ⟨rfl, bcomp HBE.out (by first | assumption | exact Below.refl _ _)⟩
      · have hq1 : ¬ (0 : Int) < (q : Int) := by omega
        clear k1 k2 hs j1 j2
        go_wp2_with (first | (go_at_call 28; refine (HCK.out _ (by first | assumption | exact Below.refl _ _)).mono ?_; rintro e z ⟨rfl, hz⟩; have hzz : Below W7.heap.size W7 z := bcomp (by first | assumption | exact Below.refl _ _) hz; clear hz; clear x0 x1 x2 x3 x4 x5 y0 y1 y2 y3 y4 y5 f0 f1 f2 f3 f4 f5; obtain ⟨x0, x1, x2, x3, x4, x5, y0, y1, y2, y3, y4, y5, f0, f1, f2, f3, f4, f5⟩ := HK.out z hzz) | (go_at_call 29; refine (HST.out _ (by first | assumption | exact Below.refl _ _)).mono ?_; rintro e z ⟨rfl, hz⟩; have hzz : Below W7.heap.size W7 z := bcomp (by first | assumption | exact Below.refl _ _) hz; clear hz; clear x0 x1 x2 x3 x4 x5 y0 y1 y2 y3 y4 y5 f0 f1 f2 f3 f4 f5; obtain ⟨x0, x1, x2, x3, x4, x5, y0, y1, y2, y3, y4, y5, f0, f1, f2, f3, f4, f5⟩ := HK.out z hzz) | (go_at_call 17; refine (HAW.out _ (by first | assumption | exact Below.refl _ _)).mono ?_; rintro e z ⟨rfl, hz⟩; have hzz : Below W7.heap.size W7 z := bcomp (by first | assumption | exact Below.refl _ _) hz; clear hz; clear x0 x1 x2 x3 x4 x5 y0 y1 y2 y3 y4 y5 f0 f1 f2 f3 f4 f5; obtain ⟨x0, x1, x2, x3, x4, x5, y0, y1, y2, y3, y4, y5, f0, f1, f2, f3, f4, f5⟩ := HK.out z hzz))
        go_ret
        exact ⟨rfl, bcomp HBE.out (by first | assumption | exact Below.refl _ _)⟩
    · obtain rfl : y = x := k1 hs
      have s1 : (y.status != 2) = true := by simpa using hs
      have s2 : (y.status == 2) = false := by simpa using hs
      have s4 : ¬ 1 + (p : Int) < y.steps := by omega
      rw [eqT_refl] at HEQ
      by_cases hq0 : 0 < q
      · have hq1 : (0 : Int) < (q : Int) := by omega
        clear k1 k2 hs
        go_wp2_with (first | (go_at_call 28; refine (HCK.out _ (by first | assumption | exact Below.refl _ _)).mono ?_; rintro e z ⟨rfl, hz⟩; have hzz : Below W7.heap.size W7 z := bcomp (by first | assumption | exact Below.refl _ _) hz; clear hz; clear x0 x1 x2 x3 x4 x5 y0 y1 y2 y3 y4 y5 f0 f1 f2 f3 f4 f5; obtain ⟨x0, x1, x2, x3, x4, x5, y0, y1, y2, y3, y4, y5, f0, f1, f2, f3, f4, f5⟩ := HK.out z hzz) | (go_at_call 19; refine (HEQ.out _ (by first | assumption | exact Below.refl _ _)).mono ?_; rintro e z ⟨rfl, hz⟩; have hzz : Below W7.heap.size W7 z := bcomp (by first | assumption | exact Below.refl _ _) hz; clear hz; clear x0 x1 x2 x3 x4 x5 y0 y1 y2 y3 y4 y5 f0 f1 f2 f3 f4 f5; obtain ⟨x0, x1, x2, x3, x4, x5, y0, y1, y2, y3, y4, y5, f0, f1, f2, f3, f4, f5⟩ := HK.out z hzz) | (go_at_call 17; refine (HAW.out _ (by first | assumption | exact Below.refl _ _)).mono ?_; rintro e z ⟨rfl, hz⟩; have hzz : Below W7.heap.size W7 z := bcomp (by first | assumption | exact Below.refl _ _) hz; clear hz; clear x0 x1 x2 x3 x4 x5 y0 y1 y2 y3 y4 y5 f0 f1 f2 f3 f4 f5; obtain ⟨x0, x1, x2, x3, x4, x5, y0, y1, y2, y3, y4, y5, f0, f1, f2, f3, f4, f5⟩ := HK.out z hzz))
        go_ret
        exact ⟨rfl, bcomp HBE.out (by first | assumption | exact Below.refl _ _)⟩
      · have hq1 : ¬ (0 : Int) < (q : Int) := by omega
        clear k1 k2 hs
        go_wp2_with (first | (go_at_call 28; refine (HCK.out _ (by first | assumption | exact Below.refl _ _)).mono ?_; rintro e z ⟨rfl, hz⟩; have hzz : Below W7.heap.size W7 z := bcomp (by first | assumption | exact Below.refl _ _) hz; clear hz; clear x0 x1 x2 x3 x4 x5 y0 y1 y2 y3 y4 y5 f0 f1 f2 f3 f4 f5; obtain ⟨x0, x1, x2, x3, x4, x5, y0, y1, y2, y3, y4, y5, f0, f1, f2, f3, f4, f5⟩ := HK.out z hzz) | (go_at_call 19; refine (HEQ.out _ (by first | assumption | exact Below.refl _ _)).mono ?_; rintro e z ⟨rfl, hz⟩; have hzz : Below W7.heap.size W7 z := bcomp (by first | assumption | exact Below.refl _ _) hz; clear hz; clear x0 x1 x2 x3 x4 x5 y0 y1 y2 y3 y4 y5 f0 f1 f2 f3 f4 f5; obtain ⟨x0, x1, x2, x3, x4, x5, y0, y1, y2, y3, y4, y5, f0, f1, f2, f3, f4, f5⟩ := HK.out z hzz) | (go_at_call 17; refine (HAW.out _ (by first | assumption | exact Below.refl _ _)).mono ?_; rintro e z ⟨rfl, hz⟩; have hzz : Below W7.heap.size W7 z := bcomp (by first | assumption | exact Below.refl _ _) hz; clear hz; clear x0 x1 x2 x3 x4 x5 y0 y1 y2 y3 y4 y5 f0 f1 f2 f3 f4 f5; obtain ⟨x0, x1, x2, x3, x4, x5, y0, y1, y2, y3, y4, y5, f0, f1, f2, f3, f4, f5⟩ := HK.out z hzz))
        go_ret
        exact ⟨rfl, bcomp HBE.out (by first | assumption | exact Below.refl _ _)⟩
end Go.Proofs.YthmdioldnnhidaaDoor
