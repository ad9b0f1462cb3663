/- The walk of FlatGood: the flat program of a well-formed program is valid, with its width, channels and arrays, and sites that some instruction releases at. Conditions: the argument reads as a program; the tables are laid. -/
import Derived.Test.YtgcfdbhpophnjaaDoorFlK
import Derived.Test.YtgcfdbhpophnjaaDoorFlL
import Derived.Test.YtgcfdbhpophnjaaDoorFeP
set_option linter.unusedVariables false
set_option linter.unusedSimpArgs false
set_option linter.unnecessarySimpa false
namespace Go.Proofs.YtgcfdbhpophnjaaDoor
open Go.ChangeShapes Go.WideShapes Go.ChangeAt Go.RowKit
theorem words_of {lo : Option (Nat → Prop)} {w : World} {p : ProgD} {cv av fv mv : Value} (h : RdProg lo w p cv av fv mv) : WordsP p := by
  intro f x hx
  have h2 : ∃ av, RdInstr lo w x av := by
    rcases bodyF_cases p f with e | e | ⟨g, fd, _, e1, e⟩
    · rw [e] at hx
      obtain ⟨i, hi⟩ := List.getElem?_of_mem hx
      obtain ⟨_, _, _, _, hr⟩ := h.2.2.2.1
      obtain ⟨_, _, _, _, _, _, _, _, _, _, _, _, hri⟩ := hr i x hi
      exact ⟨_, hri⟩
    · rw [e] at hx; cases hx
    · rw [e] at hx
      obtain ⟨i, hi⟩ := List.getElem?_of_mem hx
      obtain ⟨_, _, _, _, hr⟩ := h.2.2.1
      obtain ⟨_, _, _, _, _, _, _, _, _, _, _, hf⟩ := hr g fd e1
      obtain ⟨_, _, _, _, hr2⟩ := hf.2.1
      obtain ⟨_, _, _, _, _, _, _, _, _, _, _, _, hri⟩ := hr2 i x hi
      exact ⟨_, hri⟩
  obtain ⟨av', h3⟩ := h2
  refine ⟨h3.2.1.1, fun a ha => ?_⟩
  obtain ⟨i, hi⟩ := List.getElem?_of_mem ha
  obtain ⟨_, _, _, _, hr⟩ := h3.1
  obtain ⟨_, _, _, _, _, _, hu, _⟩ := hr i a hi
  exact ⟨hu.1, by have := hu.2; omega⟩
theorem ba_inj {s t : ByteArray} (h : s.toList = t.toList) : s = t := by
  rw [ByteArray.toList_eq, ByteArray.toList_eq] at h
  cases s; cases t; simp at h; rw [h]
/-- Whether one of the first k bodies releases at s. -/
def relK (P : ProgD) (s : ByteArray) (k : Nat) : Bool := (List.range k).any fun i => (codeAt P i).any fun x => x.kind == 7 && decide (x.name = s)
def relJ (s : ByteArray) (l : List InstrD) : Bool := l.any fun x => x.kind == 7 && decide (x.name = s)
theorem relK_succ (P : ProgD) (s : ByteArray) (k : Nat) : relK P s (k + 1) = (relK P s k || relJ s (codeAt P k)) := by
  unfold relK relJ
  rw [List.range_succ, List.any_append]
  simp
theorem relJ_step {s : ByteArray} {l : List InstrD} {j : Nat} {x : InstrD} (h : l[j]? = some x) : relJ s (l.take (j + 1)) = (relJ s (l.take j) || (x.kind == 7 && decide (x.name = s))) := by
  unfold relJ
  rw [List.take_add_one, h, List.any_append]
  simp
theorem rel_all {P : ProgD} {s : ByteArray} (h : s ∈ sitesAllF P) : relK P s (P.funcs.length + 1) = true := by
  unfold sitesAllF at h
  rcases sites_from _ _ h with h | ⟨x, hx, hk, hn⟩
  · cases h
  unfold relK
  rw [List.any_eq_true]
  have hb : ((x.kind == 7) && decide (x.name = s)) = true := by rw [hk, hn]; simp
  rcases List.mem_append.1 hx with hx | hx
  · unfold codesOf at hx
    obtain ⟨fd, hf, hx⟩ := List.mem_flatMap.1 hx
    obtain ⟨g, hg⟩ := List.getElem?_of_mem hf
    have hgl := (List.getElem?_eq_some_iff.1 hg).1
    refine ⟨g, List.mem_range.2 (by omega), List.any_eq_true.2 ⟨x, ?_, hb⟩⟩
    unfold codeAt
    rw [hg]; exact hx
  · refine ⟨P.funcs.length, List.mem_range.2 (by omega), List.any_eq_true.2 ⟨x, ?_, hb⟩⟩
    unfold codeAt
    rw [List.getElem?_eq_none (Nat.le_refl _)]; exact hx
set_option maxRecDepth 100000 in
set_option maxHeartbeats 6400000 in
/-- The walk of **FlatGood**. -/
theorem flatGood_walk (p : ProgD) (cv av fv mv : Value) (w : World) (h : RdProg none w p cv av fv mv) (hL : Laid w) (hM : LaidM w) :
    Calls Tryd.prog 6 #[progV p cv av fv mv] w fun e w' => e = .returned (.bool true) ∧ Below w.heap.size w w' := by
  obtain ⟨ac, kc, rfl, -, -⟩ := id h.1
  obtain ⟨aa, ka, rfl, -, -⟩ := id h.2.1
  obtain ⟨af, kf, rfl, -, -⟩ := id h.2.2.1
  obtain ⟨am, km, rfl, -, -⟩ := id h.2.2.2.1
  have hb0 := (Below.refl w.heap.size w).alloc (Nat.le_refl _) (.cells #[.int .i64 p.width, .slice ac p.chans.length kc, .slice aa p.arrays.length ka, .slice af p.funcs.length kf, .slice am p.main.length km] 27)
  have hx0 := heap_alloc_new w (.cells #[.int .i64 p.width, .slice ac p.chans.length kc, .slice aa p.arrays.length ka, .slice af p.funcs.length kf, .slice am p.main.length km] 27)
  have HS := Lib.hid (few_prog p _ _ _ _ _ (h.keep hb0))
  have HB := Lib.hid hb0
  have HX := Lib.hid hx0
  have HL := Lib.hid hL
  have HM := Lib.hid hM
  clear h hL hM hb0 hx0
  go_enter Tryd.func6, Tryd.ntmps6
  go_upto_region 1 with fail
  generalize w.alloc (.cells #[.int .i64 p.width, .slice ac p.chans.length kc, .slice aa p.arrays.length ka, .slice af p.funcs.length kf, .slice am p.main.length km] 27) = W at *
  obtain ⟨pb, hpb⟩ : ∃ pb, w.heap.size = pb := ⟨_, rfl⟩
  have HPB := Lib.hid hpb
  rw [hpb] at HX
  rw [hpb]
  clear hpb
  have c0 := row_of HX.out 0 (.int .i64 p.width) rfl
  have c1 := row_of HX.out 1 (.slice ac p.chans.length kc) rfl
  have c2 := row_of HX.out 2 (.slice aa p.arrays.length ka) rfl
  have c3 := row_of HX.out 3 (.slice af p.funcs.length kf) rfl
  have c4 := row_of HX.out 4 (.slice am p.main.length km) rfl
  obtain ⟨P, hP⟩ : ∃ P, fewP p = P := ⟨_, rfl⟩
  rw [hP] at HS
  clear hP
  have HSC : Hid (Calls Tryd.prog 9 #[.agg #[.int .i64 p.width, .slice ac p.chans.length kc, .slice aa p.arrays.length ka, .slice af p.funcs.length kf, .slice am p.main.length km]] W fun e w' => ∃ bc lc ba la bf lf bm lm, e = .returned (.agg #[.int .i64 P.width, .slice bc P.chans.length lc, .slice ba P.arrays.length la, .slice bf P.funcs.length lf, .slice bm P.main.length lm]) ∧ RdProg (some (upFrom W.heap.size)) w' P (.slice bc P.chans.length lc) (.slice ba P.arrays.length la) (.slice bf P.funcs.length lf) (.slice bm P.main.length lm) ∧ Below W.heap.size W w') := by
    refine HS.out.mono ?_
    rintro e w' ⟨c, s, a, k, rfl, hrd, hz⟩
    obtain ⟨bc, lc, rfl, -, -⟩ := id hrd.1
    obtain ⟨ba, la, rfl, -, -⟩ := id hrd.2.1
    obtain ⟨bf, lf, rfl, -, -⟩ := id hrd.2.2.1
    obtain ⟨bm, lm, rfl, -, -⟩ := id hrd.2.2.2.1
    exact ⟨bc, lc, ba, la, bf, lf, bm, lm, rfl, hrd, hz⟩
  clear HS
  go_upto_region 2 with (first | (go_at_call 9; refine HSC.out.mono ?_; rintro e W1 ⟨bc, lc, ba, la, bf, lf, bm, lm, rfl, hrd, hz⟩; have HRD := Lib.hid hrd; have BZ := Lib.hid hz; have HX1 := Lib.hid ((hz.block pb (Array.getElem?_eq_some_iff.1 HX.out).1).trans HX.out); clear hrd hz) | (refine wpList_store_row rfl 27 (.tmp 1) (.tmp 14) rfl pb #[.int .i64 P.width, .slice bc P.chans.length lc, .slice ba P.arrays.length la, .slice bf P.funcs.length lf, .slice bm P.main.length lm] rfl rfl 27 #[.int .i64 p.width, .slice ac p.chans.length kc, .slice aa p.arrays.length ka, .slice af p.funcs.length kf, .slice am p.main.length km] ?hs0 (by as_aux_lemma => kernel_rfl) (by as_aux_lemma => kernel_rfl) (by as_aux_lemma => kernel_rfl) ?_; exact HX1.out))
  try simp only [Act.put]
  have hpl : pb < W.heap.size := (Array.getElem?_eq_some_iff.1 HX.out).1
  have HX2 : Hid (_ = _) := setRow_heap W1 pb _ #[.int .i64 P.width, .slice bc P.chans.length lc, .slice ba P.arrays.length la, .slice bf P.funcs.length lf, .slice bm P.main.length lm] _ _ HX1.out
  have hB2 := below_row (bcomp HB.out BZ.out) (g := pb) (by have := HPB.out; omega) #[.int .i64 P.width, .slice bc P.chans.length lc, .slice ba P.arrays.length la, .slice bf P.funcs.length lf, .slice bm P.main.length lm]
  have HB2 := Lib.hid hB2
  have HR2 : Hid (RdProg none (W1.setRow pb #[.int .i64 P.width, .slice bc P.chans.length lc, .slice ba P.arrays.length la, .slice bf P.funcs.length lf, .slice bm P.main.length lm]) P (.slice bc P.chans.length lc) (.slice ba P.arrays.length la) (.slice bf P.funcs.length lf) (.slice bm P.main.length lm)) := RdProg.forget (RdProg.same (g' := upFrom W.heap.size) HRD.out (fun b hg hb => setRow_other _ _ _ _ (by have : W.heap.size ≤ b := hg; omega)) (fun _ _ k => k))
  have HL2 := Lib.hid (HL.out.keep hB2)
  have HM2 := Lib.hid (HM.out.keep hB2)
  clear c0 c1 c2 c3 c4 HSC HRD BZ HX1 HX HL HM hpl HPB HB hB2
  generalize W1.setRow pb #[.int .i64 P.width, .slice bc P.chans.length lc, .slice ba P.arrays.length la, .slice bf P.funcs.length lf, .slice bm P.main.length lm] = W2 at *
  obtain ⟨⟨F, E⟩, hFE⟩ : ∃ q, flatOf P = q := ⟨_, rfl⟩
  have c0 := row_of HX2.out 0 (.int .i64 P.width) rfl
  have c1 := row_of HX2.out 1 (.slice bc P.chans.length lc) rfl
  have c2 := row_of HX2.out 2 (.slice ba P.arrays.length la) rfl
  have c3 := row_of HX2.out 3 (.slice bf P.funcs.length lf) rfl
  have c4 := row_of HX2.out 4 (.slice bm P.main.length lm) rfl
  have HOF : Hid (Calls Tryd.prog 11 #[.agg #[.int .i64 P.width, .slice bc P.chans.length lc, .slice ba P.arrays.length la, .slice bf P.funcs.length lf, .slice bm P.main.length lm]] W2 fun e w' => ∃ d1 k1 d2 k2 d3 k3 d4 k4, e = .returned (.tuple #[.agg #[.int .i64 F.width, .int .i64 F.regs, .slice d1 F.chans.length k1, .slice d2 F.sites.length k2, .slice d3 F.arrays.length k3, .slice d4 F.code.length k4], .int .i64 E]) ∧ RdFlat none w' F (.slice d1 F.chans.length k1) (.slice d2 F.sites.length k2) (.slice d3 F.arrays.length k3) (.slice d4 F.code.length k4) ∧ Below W2.heap.size W2 w') := by
    refine (flatOf_any P _ _ _ _ W2 HR2.out HL2.out).mono ?_
    rintro e w' ⟨c, s, a, k, rfl, hrd, hz⟩
    rw [hFE] at hrd ⊢
    obtain ⟨d1, k1, rfl⟩ := hrd.1.is
    obtain ⟨d2, k2, rfl⟩ := hrd.2.1.is
    obtain ⟨d3, k3, rfl⟩ := hrd.2.2.1.is
    obtain ⟨d4, k4, rfl⟩ := hrd.2.2.2.1.is
    exact ⟨d1, k1, d2, k2, d3, k3, d4, k4, rfl, hrd.forget, hz⟩
  have HFE := Lib.hid hFE
  clear hFE
  go_upto_region 3 with (first | (go_at_call 11; refine HOF.out.mono ?_; rintro e W4 ⟨d1, k1, d2, k2, d3, k3, d4, k4, rfl, hrd, hz⟩; have HRF := Lib.hid hrd; have BZ := Lib.hid hz; have HN := Lib.hid (heap_alloc_new W4 (.cells #[.int .i64 0, .int .i64 0, .slice none 0 0, .slice none 0 0, .slice none 0 0, .slice none 0 0] 32)); clear hrd hz) | (refine wpList_store_row rfl 32 (.tmp 3) (.tmp 18) rfl W4.heap.size #[.int .i64 F.width, .int .i64 F.regs, .slice d1 F.chans.length k1, .slice d2 F.sites.length k2, .slice d3 F.arrays.length k3, .slice d4 F.code.length k4] rfl rfl 32 #[.int .i64 0, .int .i64 0, .slice none 0 0, .slice none 0 0, .slice none 0 0, .slice none 0 0] ?hs1 (by as_aux_lemma => kernel_rfl) (by as_aux_lemma => kernel_rfl) (by as_aux_lemma => kernel_rfl) ?_; exact HN.out))
  try simp only [Act.put]
  have hal : Below W4.heap.size W4 ((W4.alloc (.cells #[.int .i64 0, .int .i64 0, .slice none 0 0, .slice none 0 0, .slice none 0 0, .slice none 0 0] 32)).setRow W4.heap.size #[.int .i64 F.width, .int .i64 F.regs, .slice d1 F.chans.length k1, .slice d2 F.sites.length k2, .slice d3 F.arrays.length k3, .slice d4 F.code.length k4]) := below_row ((Below.refl _ _).alloc (Nat.le_refl _) _) (Nat.le_refl _) _
  have HG5 : Hid (_ = _) := setRow_heap (W4.alloc (.cells #[.int .i64 0, .int .i64 0, .slice none 0 0, .slice none 0 0, .slice none 0 0, .slice none 0 0] 32)) W4.heap.size _ #[.int .i64 F.width, .int .i64 F.regs, .slice d1 F.chans.length k1, .slice d2 F.sites.length k2, .slice d3 F.arrays.length k3, .slice d4 F.code.length k4] _ _ HN.out
  have hB5 := bcomp BZ.out hal
  have HF5 := Lib.hid (HRF.out.keep hal)
  have HX5 := Lib.hid ((hB5.block pb (Array.getElem?_eq_some_iff.1 HX2.out).1).trans HX2.out)
  have HR5 := Lib.hid (HR2.out.keep hB5)
  have HL5 := Lib.hid (HL2.out.keep hB5)
  have HM5 := Lib.hid (HM2.out.keep hB5)
  have HB5 := Lib.hid (bcomp HB2.out hB5)
  clear c0 c1 c2 c3 c4 HOF HN hal BZ HRF HX2 HR2 HL2 HM2 HB2 hB5
  generalize (W4.alloc (.cells #[.int .i64 0, .int .i64 0, .slice none 0 0, .slice none 0 0, .slice none 0 0, .slice none 0 0] 32)).setRow W4.heap.size #[.int .i64 F.width, .int .i64 F.regs, .slice d1 F.chans.length k1, .slice d2 F.sites.length k2, .slice d3 F.arrays.length k3, .slice d4 F.code.length k4] = W5 at *
  obtain ⟨gb, hgb⟩ : ∃ gb, W4.heap.size = gb := ⟨_, rfl⟩
  rw [hgb] at HG5
  rw [hgb]
  clear hgb
  have c0 := row_of HX5.out 0 (.int .i64 P.width) rfl
  have c1 := row_of HX5.out 1 (.slice bc P.chans.length lc) rfl
  have c2 := row_of HX5.out 2 (.slice ba P.arrays.length la) rfl
  have c3 := row_of HX5.out 3 (.slice bf P.funcs.length lf) rfl
  have c4 := row_of HX5.out 4 (.slice bm P.main.length lm) rfl
  obtain ⟨O, hO⟩ : ∃ O, checkF P = O := ⟨_, rfl⟩
  have hck := check_any P _ _ _ _ W5 HR5.out HL5.out
  rw [hO] at hck
  have HCK := Lib.hid hck
  clear hck
  obtain ⟨pl, hpl⟩ : ∃ n, posL O = n := ⟨_, rfl⟩
  obtain ⟨pc, hpc⟩ : ∃ n, posC O = n := ⟨_, rfl⟩
  obtain ⟨ec, hec⟩ : ∃ n, errOf O = n := ⟨_, rfl⟩
  rw [hpl, hpc, hec] at HCK
  clear hpl hpc
  have HO := Lib.hid hO
  have HEC := Lib.hid hec
  clear hO hec
  go_upto_region 4 with (first | (go_at_call 21; refine HCK.out.mono ?_; rintro e W6 ⟨rfl, hz⟩; have BZ := Lib.hid hz; have HN := Lib.hid (heap_alloc_new W6 (.cells #[.int .i64 0, .int .i64 0] 50)); clear hz) | (refine wpList_store_row rfl 50 (.tmp 5) (.tmp 23) rfl W6.heap.size #[.int .i64 pl, .int .i64 pc] rfl rfl 50 #[.int .i64 0, .int .i64 0] ?hs2 (by as_aux_lemma => kernel_rfl) (by as_aux_lemma => kernel_rfl) (by as_aux_lemma => kernel_rfl) ?_; exact HN.out))
  try simp only [Act.put]
  have hal : Below W6.heap.size W6 ((W6.alloc (.cells #[.int .i64 0, .int .i64 0] 50)).setRow W6.heap.size #[.int .i64 pl, .int .i64 pc]) := below_row ((Below.refl _ _).alloc (Nat.le_refl _) _) (Nat.le_refl _) _
  have hB7 := bcomp BZ.out hal
  have HF7 := Lib.hid (HF5.out.keep hB7)
  have HG7 := Lib.hid ((hB7.block gb (Array.getElem?_eq_some_iff.1 HG5.out).1).trans HG5.out)
  have HX7 := Lib.hid ((hB7.block pb (Array.getElem?_eq_some_iff.1 HX5.out).1).trans HX5.out)
  have HR7 := Lib.hid (HR5.out.keep hB7)
  have HL7 := Lib.hid (HL5.out.keep hB7)
  have HM7 := Lib.hid (HM5.out.keep hB7)
  have HB7 := Lib.hid (bcomp HB5.out hB7)
  clear c0 c1 c2 c3 c4 HCK HN hal BZ HX5 HR5 HL5 HM5 HB5 HG5 HF5 hB7
  generalize (W6.alloc (.cells #[.int .i64 0, .int .i64 0] 50)).setRow W6.heap.size #[.int .i64 pl, .int .i64 pc] = W7 at *
  generalize W6.heap.size = qb at *
  have HAW := Lib.hid (fun (z : World) (hz : Below W7.heap.size W7 z) => awake25_any z (HL7.out.keep hz) (HM7.out.keep hz))
  by_cases hO : O = none
  rotate_left
  · obtain ⟨FD, hFD⟩ := Option.ne_none_iff_exists'.1 hO
    have hF1 := check_fault (HO.out.trans hFD)
    have hF2 := flatOf_fault (HO.out.trans hFD)
    rw [HFE.out] at hF2
    simp only [Prod.mk.injEq] at hF2
    obtain ⟨rfl, rfl⟩ := hF2
    have h1 := HEC.out
    rw [hFD] at h1
    have h2 : FD.e = ec := h1
    rw [← h2]
    have hne : (FD.e != 0) = true := by unfold FaultOf at hF1; simp; omega
    have hee : (FD.e == FD.e) = true := by simp
    have HEQ := Lib.hid (equalFlatSelf zeroFlat _ _ _ _ _ _ _ _ W7 HF7.out (rdFlat_zero none W7))
    have g0 := row_of HG7.out 0 (.int .i64 zeroFlat.width) rfl
    have g1 := row_of HG7.out 1 (.int .i64 zeroFlat.regs) rfl
    have g2 := row_of HG7.out 2 (.slice d1 zeroFlat.chans.length k1) rfl
    have g3 := row_of HG7.out 3 (.slice d2 zeroFlat.sites.length k2) rfl
    have g4 := row_of HG7.out 4 (.slice d3 zeroFlat.arrays.length k3) rfl
    have g5 := row_of HG7.out 5 (.slice d4 zeroFlat.code.length k4) rfl
    clear h1 h2 hF1 hFD hO HFE HO HEC HF7 HX7 HR7 HL7 HM7
    go_wp2_with (first | (go_at_call 13; refine HEQ.out.mono ?_; rintro e z1 ⟨rfl, hz⟩; have B1 := Lib.hid hz; clear hz) | (go_at_call 15; refine (HAW.out _ B1.out).mono ?_; rintro e z2 ⟨rfl, hz⟩; have B2 := Lib.hid hz; clear hz))
    go_ret
    exact ⟨rfl, bcomp HB7.out (bcomp B1.out B2.out)⟩
  subst hO
  obtain rfl : ec = 0 := HEC.out.symm
  have hgd := flatOf_good HO.out
  rw [HFE.out] at hgd
  clear HEC
  by_cases hbig : 4096 < (codeI25 P).length
  · rw [if_pos hbig] at hgd
    simp only [Prod.mk.injEq] at hgd
    obtain ⟨rfl, rfl⟩ := hgd
    have HEQ := Lib.hid (equalFlatSelf zeroFlat _ _ _ _ _ _ _ _ W7 HF7.out (rdFlat_zero none W7))
    have g0 := row_of HG7.out 0 (.int .i64 zeroFlat.width) rfl
    have g1 := row_of HG7.out 1 (.int .i64 zeroFlat.regs) rfl
    have g2 := row_of HG7.out 2 (.slice d1 zeroFlat.chans.length k1) rfl
    have g3 := row_of HG7.out 3 (.slice d2 zeroFlat.sites.length k2) rfl
    have g4 := row_of HG7.out 4 (.slice d3 zeroFlat.arrays.length k3) rfl
    have g5 := row_of HG7.out 5 (.slice d4 zeroFlat.code.length k4) rfl
    clear hbig HFE HO HF7 HX7 HR7 HL7 HM7
    go_wp2_with (first | (go_at_call 13; refine HEQ.out.mono ?_; rintro e z1 ⟨rfl, hz⟩; have B3 := Lib.hid hz; clear hz) | (go_at_call 15; refine (HAW.out _ B3.out).mono ?_; rintro e z2 ⟨rfl, hz⟩; have B4 := Lib.hid hz; clear hz))
    go_ret
    exact ⟨rfl, bcomp HB7.out (bcomp B3.out B4.out)⟩
  rw [if_neg hbig] at hgd
  simp only [Prod.mk.injEq] at hgd
  obtain ⟨hF, rfl⟩ := hgd
  have hfe : flatE F = 0 := by
    have h1 := flat_valid (wfP_of HO.out) (words_of HR7.out) (placesP_len HO.out) (by omega)
    rw [← hF] at h1
    unfold flatE
    rw [if_pos h1]
  have hFC : F.chans = P.chans := by rw [hF]; rfl
  have hFA : F.arrays = P.arrays.map (·.size) := by rw [hF]; rfl
  have hFS : F.sites = sitesAllF P := by rw [hF]; rfl
  have hFW : F.width = P.width := by rw [hF]; rfl
  have hch := flatCheck F _ _ _ _ W7 HF7.out HM7.out
  rw [hfe] at hch
  have HCF := Lib.hid hch
  have HES := Lib.hid (fun (z : World) (hz : Below W7.heap.size W7 z) => equalStr _ _ F.chans P.chans z ((HF7.out.keep hz).1) (row_of_strs ((HR7.out.keep hz).1)))
  rw [hFC, eqStr_selfL] at HES
  have hal : F.arrays.length = P.arrays.length := by rw [hFA]; simp
  simp only [flatV] at HCF
  rw [hFC, hFW, hal] at HCF
  have g0 : W7.cell? ⟨gb, 0, none⟩ = some (.int .i64 P.width) := by rw [← hFW]; exact row_of HG7.out 0 (.int .i64 F.width) rfl
  have g1 := row_of HG7.out 1 (.int .i64 F.regs) rfl
  have g2 : W7.cell? ⟨gb, 2, none⟩ = some (.slice d1 P.chans.length k1) := by rw [← hFC]; exact row_of HG7.out 2 (.slice d1 F.chans.length k1) rfl
  have g3 := row_of HG7.out 3 (.slice d2 F.sites.length k2) rfl
  have g4 : W7.cell? ⟨gb, 4, none⟩ = some (.slice d3 P.arrays.length k3) := by rw [← hal]; exact row_of HG7.out 4 (.slice d3 F.arrays.length k3) rfl
  have g5 := row_of HG7.out 5 (.slice d4 F.code.length k4) rfl
  have q0 := row_of HX7.out 0 (.int .i64 P.width) rfl
  have q1 := row_of HX7.out 1 (.slice bc P.chans.length lc) rfl
  have q2 := row_of HX7.out 2 (.slice ba P.arrays.length la) rfl
  have hw1 : (P.width != P.width) = false := by simp
  have HFAR := Lib.hid hFA
  have HFSI := Lib.hid hFS
  have HAL := Lib.hid hal
  clear hF hfe hFC hFA hFS hFW hch hbig HFE
  go_wp2_with (first | (go_at_call 18; refine HCF.out.mono ?_; rintro e z1 ⟨rfl, hz⟩; have C1 := Lib.hid hz; have r0 := cell_keep hz g0; have r2 := cell_keep hz g2; have r4 := cell_keep hz g4; have s0 := cell_keep hz q0; have s1 := cell_keep hz q1; have s2 := cell_keep hz q2; clear hz g0 g1 g2 g3 g4 g5 q0 q1 q2) | (go_at_call 22; refine (HES.out _ C1.out).mono ?_; rintro e z2 ⟨rfl, hz⟩; have C2 := Lib.hid hz; have t4 := cell_keep hz r4; have u2 := cell_keep hz s2; clear hz r0 r2 r4 s0 s1 s2))
  have hb2 := bcomp C1.out C2.out
  have HG8 := Lib.hid ((hb2.block gb (Array.getElem?_eq_some_iff.1 HG7.out).1).trans HG7.out)
  have HX8 := Lib.hid ((hb2.block pb (Array.getElem?_eq_some_iff.1 HX7.out).1).trans HX7.out)
  have HF8 := Lib.hid (HF7.out.keep hb2)
  have HR8 := Lib.hid (HR7.out.keep hb2)
  have HAW8 := Lib.hid (fun (z : World) (hz : Below z2.heap.size z2 z) => HAW.out z (bcomp hb2 hz))
  have HB8 := Lib.hid (bcomp HB7.out hb2)
  clear hb2 C1 C2 HG7 HX7 HF7 HR7 HAW HB7 HL7 HM7 HCF HES t4 u2
  go_loopw [7] (fun i wr => ∃ k : Nat, k ≤ P.arrays.length ∧ i = .int .i64 k ∧ Below z2.heap.size z2 wr) (fun i _ => P.arrays.length - (intOf i).toNat)
  case atStart => exact ⟨0, Nat.zero_le _, rfl, Below.refl _ _⟩
  case round =>
    obtain ⟨wo, rfl⟩ : ∃ x : World, x = wr := ⟨_, rfl⟩
    obtain ⟨k, hk, rfl, hb⟩ := hrel
    have HBo := Lib.hid hb
    have g4 : wo.cell? ⟨gb, 4, none⟩ = some (.slice d3 P.arrays.length k3) := by rw [← HAL.out]; exact row_of ((hb.block gb (Array.getElem?_eq_some_iff.1 HG8.out).1).trans HG8.out) 4 (.slice d3 F.arrays.length k3) rfl
    have q2 := row_of ((hb.block pb (Array.getElem?_eq_some_iff.1 HX8.out).1).trans HX8.out) 2 (.slice ba P.arrays.length la) rfl
    clear hb
    by_cases hlt : k < P.arrays.length
    · obtain ⟨x, hx⟩ : ∃ x, P.arrays[k]? = some x := ⟨_, List.getElem?_eq_getElem hlt⟩
      have hfx : F.arrays[k]? = some x.size := by rw [HFAR.out, List.getElem?_map, hx]; rfl
      obtain ⟨b1, o1, e1, _, n1, _⟩ := atInt (HF8.out.2.2.1.keep HBo.out) hfx
      obtain ⟨a', c', e', _, hrr⟩ := (HR8.out.keep HBo.out).2.1
      simp only [Value.slice.injEq] at e'
      obtain ⟨b2, o2, e2, _, m0, m1, hri⟩ := hrr k x hx
      have e3 : ba = some ⟨b2, o2, none⟩ := e'.1.trans e2
      rw [e1] at g4
      rw [e3] at q2
      have hklt : (k : Int) < (P.arrays.length : Int) := by omega
      have hxx : (x.size != x.size) = false := by simp
      have hal9 : P.arrays.length ≤ 32 := (wfP_of HO.out).arl
      clear hx hfx hrr e' e2 e1 e3 hri
      go_upto_region 13 with fail
      have f0 := ext_cell g4
      have f1 := ext_cell q2
      have f2 := ext_cell n1
      have f3 := ext_cell m1
      clear g4 q2 n1 m0 m1
      (refine wp_region_calm (by kernel_rfl) (by kernel_rfl) ?_; (repeat (go_big_quiet_step (fail))); refine wpQuiet_nil ?_; intro wc hwc)
      clear f0 f1 f2 f3
      go_wp2_with fail
      go_roundw
      case rel => exact ⟨k + 1, by omega, by go_num, bcomp HBo.out hwc⟩
      case measure => simp [intOf]; omega
    · obtain rfl : k = P.arrays.length := by omega
      have hlt1 : ¬ (P.arrays.length : Int) < (P.arrays.length : Int) := by omega
      clear q2 hlt HAL HFAR
      go_wp2_with fail
      clear g4
      go_loopw [8] (fun i wr => ∃ k : Nat, k ≤ F.sites.length ∧ i = .int .i64 k ∧ Below z2.heap.size z2 wr) (fun i _ => F.sites.length - (intOf i).toNat)
      case atStart => exact ⟨0, Nat.zero_le _, rfl, HBo.out⟩
      case round =>
        clear HBo
        obtain ⟨w2, rfl⟩ : ∃ x : World, x = wr := ⟨_, rfl⟩
        obtain ⟨k, hk, rfl, hb⟩ := hrel
        have HBo := Lib.hid hb
        have g3 := row_of ((hb.block gb (Array.getElem?_eq_some_iff.1 HG8.out).1).trans HG8.out) 3 (.slice d2 F.sites.length k2) rfl
        clear hb
        by_cases hlt : k < F.sites.length
        rotate_left
        · obtain rfl : k = F.sites.length := by omega
          have hlt1 : ¬ (F.sites.length : Int) < (F.sites.length : Int) := by omega
          go_wp2_with (go_at_call 15; refine (HAW8.out _ HBo.out).mono ?_; rintro e z9 ⟨rfl, hz⟩; have B9 := Lib.hid hz; clear hz)
          go_ret
          exact ⟨rfl, bcomp HB8.out (bcomp HBo.out B9.out)⟩
        obtain ⟨s, hs⟩ : ∃ s, F.sites[k]? = some s := ⟨_, List.getElem?_eq_getElem hlt⟩
        have hrel9 := rel_all (P := P) (s := s) (by rw [← HFSI.out]; exact List.mem_of_getElem? hs)
        have HREL := Lib.hid hrel9
        have hsl : F.sites.length ≤ 32 := by rw [HFSI.out]; exact (wfP_of HO.out).sites
        have hklt : (k : Int) < (F.sites.length : Int) := by omega
        have hfl : P.funcs.length ≤ 32 := (wfP_of HO.out).fl
        have HS := Lib.hid hs
        clear hrel9 hs hlt
        go_wp2_with fail
        clear g3
        go_loopw [9, 10] (fun th i wr => ∃ n : Nat, n ≤ P.funcs.length + 1 ∧ i = .int .i64 n ∧ th = .bool (relK P s n) ∧ Below z2.heap.size z2 wr) (fun _ i _ => P.funcs.length + 1 - (intOf i).toNat)
        case atStart => exact ⟨0, Nat.zero_le _, rfl, rfl, HBo.out⟩
        case round =>
          clear HBo
          obtain ⟨w3, rfl⟩ : ∃ x : World, x = wr := ⟨_, rfl⟩
          obtain ⟨n, hn, rfl, rfl, hb⟩ := hrel
          have HBo := Lib.hid hb
          have q3 := row_of ((hb.block pb (Array.getElem?_eq_some_iff.1 HX8.out).1).trans HX8.out) 3 (.slice bf P.funcs.length lf) rfl
          have q4 := row_of ((hb.block pb (Array.getElem?_eq_some_iff.1 HX8.out).1).trans HX8.out) 4 (.slice bm P.main.length lm) rfl
          clear hb
          by_cases hnl : n ≤ P.funcs.length
          rotate_left
          · obtain rfl : n = P.funcs.length + 1 := by omega
            have hnl1 : decide ((((P.funcs.length + 1 : Nat) : Nat) : Int) ≤ (P.funcs.length : Int)) = false := by simp; omega
            rw [HREL.out]
            clear q4 hn hnl
            go_wp2_with fail
            go_roundw
            case rel => exact ⟨k + 1, by omega, by go_num, HBo.out⟩
            case measure => simp [intOf]; omega
          have hnl1 : (n : Int) ≤ (P.funcs.length : Int) := by omega
          have hnx := relK_succ P s n
          have HNX := Lib.hid hnx
          obtain ⟨b0, hb0⟩ : ∃ b, relK P s n = b := ⟨_, rfl⟩
          rw [hb0] at HNX
          rw [hb0]
          clear hnx hb0 hnl
          go_upto_if 116 with fail
          go_cut [11] from 110 to 122 (fun cw wx => RdInstrs none z2 cw (codeAt P n) ∧ Below z2.heap.size z2 wx)
          case first =>
            by_cases hlt : n < P.funcs.length
            · have hlt1 : (n : Int) < (P.funcs.length : Int) := by omega
              obtain ⟨fd, hfd⟩ : ∃ fd, P.funcs[n]? = some fd := ⟨_, List.getElem?_eq_getElem hlt⟩
              obtain ⟨a', c', e', hl', hr'⟩ := HR8.out.2.2.1
              simp only [Value.slice.injEq] at e'
              obtain ⟨q, o, pv, cv2, e'', _, f0, f1, f2, f3, f4, hri⟩ := hr' n fd hfd
              obtain ⟨ka2, kk2, rfl, _⟩ := id hri.2.1
              rw [e'.1, e''] at q3
              have f5 := cell_keep HBo.out f2
              have HRI : Hid (RdInstrs none z2 (.slice ka2 fd.code.length kk2) (codeAt P n)) := by
                show RdInstrs _ _ _ _
                have : codeAt P n = fd.code := by unfold codeAt; rw [hfd]
                rw [this]; exact hri.2.1
              clear hri hr' e' f0 f1 f2 f3 f4 hfd hl' q4
              go_wp2_with fail
              go_meet
              exact ⟨HRI.out, HBo.out⟩
            · have hlt1 : ¬ (n : Int) < (P.funcs.length : Int) := by omega
              have HRI : Hid (RdInstrs none z2 (.slice bm P.main.length lm) (codeAt P n)) := by
                show RdInstrs _ _ _ _
                have : codeAt P n = P.main := by unfold codeAt; rw [List.getElem?_eq_none (by omega)]
                rw [this]; exact HR8.out.2.2.2.1
              go_wp2_with fail
              go_meet
              exact ⟨HRI.out, HBo.out⟩
          case rest =>
            obtain ⟨hrd, hbw⟩ := hcut
            obtain ⟨acd, kcd, rfl, ⟨hcl, _⟩, hcr⟩ := id hrd
            obtain ⟨code, hcode⟩ : ∃ code, codeAt P n = code := ⟨_, rfl⟩
            rw [hcode] at hcl hcr HNX
            rw [hcode]
            have HCR := Lib.hid hcr
            have HBW := Lib.hid hbw
            clear hrd hbw hcr hcode q3 q4 HBo
            go_wp2_with fail
            go_loopw [9, 12] (fun th i wr => ∃ j : Nat, j ≤ code.length ∧ i = .int .i64 j ∧ th = .bool (b0 || relJ s (code.take j)) ∧ Below z2.heap.size z2 wr) (fun _ i _ => code.length - (intOf i).toNat)
            case atStart => exact ⟨0, Nat.zero_le _, rfl, by simp [relJ], HBW.out⟩
            case round =>
              clear HBW
              obtain ⟨w4, rfl⟩ : ∃ x : World, x = wr := ⟨_, rfl⟩
              obtain ⟨j, hj, rfl, rfl, hb⟩ := hrel
              have HBq := Lib.hid hb
              have g3 := row_of ((hb.block gb (Array.getElem?_eq_some_iff.1 HG8.out).1).trans HG8.out) 3 (.slice d2 F.sites.length k2) rfl
              clear hb
              by_cases hjl : j < code.length
              rotate_left
              · obtain rfl : j = code.length := by omega
                have hjl1 : ¬ (code.length : Int) < (code.length : Int) := by omega
                rw [List.take_length, ← HNX.out]
                clear g3
                go_wp2_with fail
                go_roundw
                case rel => exact ⟨n + 1, by omega, by go_num, rfl, HBq.out⟩
                case measure => simp [intOf]; omega
              obtain ⟨x, hx⟩ : ∃ x, code[j]? = some x := ⟨_, List.getElem?_eq_getElem hjl⟩
              obtain ⟨bx, ox, xv, e1, _, i0, i1, i2, i3, i4, i5, i6, hri⟩ := HCR.out j x hx
              have n0 := cell_keep HBq.out i0
              have n3 := cell_keep HBq.out i3
              obtain ⟨b5, o5, e5, _, m5, _⟩ := atStr (HF8.out.2.1.keep HBq.out) HS.out
              have HST := Lib.hid (relJ_step (s := s) hx)
              have hjlt : (j : Int) < (code.length : Int) := by omega
              subst e1
              rw [e5] at g3
              obtain ⟨b1, hb1⟩ : ∃ b, relJ s (code.take j) = b := ⟨_, rfl⟩
              rw [hb1] at HST
              rw [hb1]
              clear hx i0 i1 i2 i3 i4 i5 i6 hri e5 hb1
              go_upto_region 28 with fail
              have f0 := ext_cell n0
              have f1 := ext_cell n3
              have f2 := ext_cell g3
              have f3 := ext_cell m5
              clear n0 n3 g3 m5
              cases hth : (b0 || b1)
              rotate_left
              · have HQ : Hid (true = (b0 || relJ s (code.take (j + 1)))) := by show _ = _; rw [HST.out, ← Bool.or_assoc, hth]; rfl
                clear hth HST
                (refine wp_region_calm (by kernel_rfl) (by kernel_rfl) ?_; (repeat (go_big_quiet_step (fail))); refine wpQuiet_nil ?_; intro wc hwc)
                clear f0 f1 f2 f3
                have HBc := Lib.hid (bcomp HBq.out hwc)
                clear hwc
                go_wp2_with fail
                go_roundw
                case rel => exact ⟨j + 1, by omega, by go_num, by rw [← HQ.out], HBc.out⟩
                case measure => simp [intOf]; omega
              by_cases hk7 : x.kind = 7
              · have hk1 : (x.kind == 7) = true := by simp [hk7]
                have hcmp : Hid (decide (x.name = s) = (x.name.toList == s.toList)) := by
                  show _ = _
                  rw [Bool.eq_iff_iff]
                  simp only [decide_eq_true_eq, beq_iff_eq]
                  exact ⟨fun e => by rw [e], ba_inj⟩
                obtain ⟨b2, hb2⟩ : ∃ b, (x.name.toList == s.toList) = b := ⟨_, rfl⟩
                have HQ : Hid (b2 = (b0 || relJ s (code.take (j + 1)))) := by show _ = _; rw [HST.out, ← Bool.or_assoc, hth, hk1, hcmp.out, hb2]; rfl
                clear hth HST hk7 hcmp
                (refine wp_region_calm (by kernel_rfl) (by kernel_rfl) ?_; (repeat (go_big_quiet_step (fail))); refine wpQuiet_nil ?_; intro wc hwc)
                clear f0 f1 f2 f3
                have HBc := Lib.hid (bcomp HBq.out hwc)
                clear hwc
                go_wp2_with fail
                go_roundw
                case rel => exact ⟨j + 1, by omega, by go_num, by rw [← HQ.out], HBc.out⟩
                case measure => simp [intOf]; omega
              · have hk1 : (x.kind == 7) = false := by simp [hk7]
                have HQ : Hid (false = (b0 || relJ s (code.take (j + 1)))) := by show _ = _; rw [HST.out, ← Bool.or_assoc, hth, hk1]; rfl
                clear hth HST hk7
                (refine wp_region_calm (by kernel_rfl) (by kernel_rfl) ?_; (repeat (go_big_quiet_step (fail))); refine wpQuiet_nil ?_; intro wc hwc)
                clear f0 f1 f2 f3
                have HBc := Lib.hid (bcomp HBq.out hwc)
                clear hwc
                go_wp2_with fail
                go_roundw
                case rel => exact ⟨j + 1, by omega, by go_num, by rw [← HQ.out], HBc.out⟩
                case measure => simp [intOf]; omega
end Go.Proofs.YtgcfdbhpophnjaaDoor
