/- The walk of WitnessExamples. Condition: the tables hold what they are laid with. -/
import Derived.Test.YtkjkpddajjmloaaDoorWtR
import Derived.Test.YtkjkpddajjmloaaDoorWSh
set_option linter.unnecessarySimpa false
set_option linter.unusedVariables false
set_option linter.unusedSimpArgs false
namespace Go.Proofs.YtkjkpddajjmloaaDoor
open Go.ChangeShapes Go.WideShapes Go.ChangeAt Go.RowKit
theorem ex1 : checkE (e1D 0) p1D 0 [[], [3]] [[], [0]] false = 4 := by kernel_rfl
theorem ex2 : checkE (e1D 0) p1D 1 [[], [3]] [[], [0]] true = 4 := by kernel_rfl
theorem ex3 : makeE (e1D 0) p1D 0 [[], [3]] [[], [3]] = 4 := by kernel_rfl
theorem ex4 : makeE (e1D 0) p1D 2 [[], [3]] [[], [0]] = 3 := by kernel_rfl
theorem ex5 : makeE shownD p1D 0 [[], [0]] [[], [2]] = 0 := by kernel_rfl
theorem ex6 : implB (runT shownD [[], [0]] p1D.steps) (runT shownD [[], [2]] p1D.steps) = false := by kernel_rfl
theorem fits_two {a : Int} : ∀ l ∈ ([[], [a]] : List (List Int)), l.length ≤ 1000000 := fun l hl => by simp only [List.mem_cons, List.not_mem_nil, or_false] at hl; rcases hl with rfl | rfl <;> simp
set_option maxRecDepth 100000 in
set_option maxHeartbeats 3200000 in
theorem wexamples_walk (w : World) (hL : Laid w) (hT : BitsAt w) : Calls Tryd.prog 9 #[] w fun e w' => e = .returned (.bool true) ∧ Below w.heap.size w w' := by
  have he7 := fun w => e1_any 0 ⟨by decide, by decide⟩ w
  have hp7 := p1_any
  have ha7 := a_any
  have hb7 := b_any
  have hc7 := c_any
  have hs7 := shown_any
  have h1 := ex1
  have h2 := ex2
  have h3 := ex3
  have h4 := ex4
  have h5 := ex5
  have h6 := ex6
  have hsA := fits_two (a := 3)
  have hsB := fits_two (a := 0)
  have hsC := fits_two (a := 2)
  generalize e1D 0 = F at he7 h1 h2 h3 h4
  generalize shownD = G at hs7 h5 h6
  generalize p1D = q at hp7 h1 h2 h3 h4 h5 h6
  generalize ([[], [3]] : List (List Int)) = LA at ha7 h1 h2 h3 h4 hsA
  generalize ([[], [0]] : List (List Int)) = LB at hb7 h1 h2 h4 h5 h6 hsB
  generalize ([[], [2]] : List (List Int)) = LC at hc7 h5 h6 hsC
  have HE7 := Lib.hid he7
  have HP7 := Lib.hid hp7
  have HA7 := Lib.hid ha7
  have HB7 := Lib.hid hb7
  have HC7 := Lib.hid hc7
  have HS7 := Lib.hid hs7
  have HX1 := Lib.hid h1
  have HX2 := Lib.hid h2
  have HX3 := Lib.hid h3
  have HX4 := Lib.hid h4
  have HX5 := Lib.hid h5
  have HX6 := Lib.hid h6
  have HSA := Lib.hid hsA
  have HSB := Lib.hid hsB
  have HSC := Lib.hid hsC
  have HL := Lib.hid hL
  have HT := Lib.hid hT
  clear he7 hp7 ha7 hb7 hc7 hs7 h1 h2 h3 h4 h5 h6 hsA hsB hsC hL hT
  go_enter Tryd.func9, Tryd.ntmps9
  go_upto_region 1 with fail
  go_upto_region 2 with (first | (go_at_call 24; refine (HE7.out _).mono ?_; rintro e a1 ⟨cF, rfl, ⟨fcv, fsv, fav, fkv, rfl, hf⟩, hz⟩; obtain ⟨ca, cc, rfl⟩ := hf.1.is; obtain ⟨sa, sc, rfl⟩ := hf.2.1.is; obtain ⟨aa, ac, rfl⟩ := hf.2.2.1.is; obtain ⟨ka, kc, rfl⟩ := hf.2.2.2.1.is; have HF := Lib.hid hf; have B1 := Lib.hid hz; clear hf hz) | (go_at_call 25; refine (HP7.out _).mono ?_; rintro e a2 ⟨cP, rfl, ⟨plv, pov, pcv, psv, rfl, hp⟩, hz⟩; obtain ⟨la, lc, rfl⟩ := hp.1.is; obtain ⟨oa, oc, rfl⟩ := hp.2.1.is; obtain ⟨ba, bc, rfl⟩ := hp.2.2.1.is; obtain ⟨da, dc, rfl⟩ := hp.2.2.2.1.is; have HP := Lib.hid hp; have B2 := Lib.hid hz; clear hp hz))
  have hal := ((Below.refl a2.heap.size a2).alloc (Nat.le_refl _) (.cells #[.int .i64 F.width, .int .i64 F.regs, .slice ca F.chans.length cc, .slice sa F.sites.length sc, .slice aa F.arrays.length ac, .slice ka F.code.length kc] 43)).alloc (by simp) (.cells #[.slice la q.levels.length lc, .slice oa q.order.length oc, .slice ba q.chans.length bc, .slice da q.sites.length dc, .bool q.sens, .int .i64 q.steps, .int .i64 q.paths, .int .i64 q.nodes, .int .i64 q.confs] 46)
  have hx := heap2_of (w := a2) (A := .cells #[.int .i64 F.width, .int .i64 F.regs, .slice ca F.chans.length cc, .slice sa F.sites.length sc, .slice aa F.arrays.length ac, .slice ka F.code.length kc] 43 (0, 0)) (B := .cells #[.slice la q.levels.length lc, .slice oa q.order.length oc, .slice ba q.chans.length bc, .slice da q.sites.length dc, .bool q.sens, .int .i64 q.steps, .int .i64 q.paths, .int .i64 q.nodes, .int .i64 q.confs] 46 (0, 0)) (Below.refl _ _)
  have HGF0 := Lib.hid hx.1
  have HGP0 := Lib.hid hx.2.1
  have HF0 : Hid (FlatC ((a2.alloc (.cells #[.int .i64 F.width, .int .i64 F.regs, .slice ca F.chans.length cc, .slice sa F.sites.length sc, .slice aa F.arrays.length ac, .slice ka F.code.length kc] 43)).alloc (.cells #[.slice la q.levels.length lc, .slice oa q.order.length oc, .slice ba q.chans.length bc, .slice da q.sites.length dc, .bool q.sens, .int .i64 q.steps, .int .i64 q.paths, .int .i64 q.nodes, .int .i64 q.confs] 46)) F #[.int .i64 F.width, .int .i64 F.regs, .slice ca F.chans.length cc, .slice sa F.sites.length sc, .slice aa F.arrays.length ac, .slice ka F.code.length kc]) := ⟨_, _, _, _, rfl, HF.out.keep (bcomp B2.out hal)⟩
  have HP0 : Hid (PolC ((a2.alloc (.cells #[.int .i64 F.width, .int .i64 F.regs, .slice ca F.chans.length cc, .slice sa F.sites.length sc, .slice aa F.arrays.length ac, .slice ka F.code.length kc] 43)).alloc (.cells #[.slice la q.levels.length lc, .slice oa q.order.length oc, .slice ba q.chans.length bc, .slice da q.sites.length dc, .bool q.sens, .int .i64 q.steps, .int .i64 q.paths, .int .i64 q.nodes, .int .i64 q.confs] 46)) q #[.slice la q.levels.length lc, .slice oa q.order.length oc, .slice ba q.chans.length bc, .slice da q.sites.length dc, .bool q.sens, .int .i64 q.steps, .int .i64 q.paths, .int .i64 q.nodes, .int .i64 q.confs]) := ⟨_, _, _, _, rfl, HP.out.keep hal⟩
  have HB0 := Lib.hid (bcomp B1.out (bcomp B2.out hal))
  have HLW := Lib.hid (HL.out.keep HB0.out)
  have HTW := Lib.hid (HT.out.keep HB0.out)
  have HPI := Lib.hid HP0.out.info
  clear hal hx HF HP B1 B2 HL HT
  generalize (a2.alloc (.cells #[.int .i64 F.width, .int .i64 F.regs, .slice ca F.chans.length cc, .slice sa F.sites.length sc, .slice aa F.arrays.length ac, .slice ka F.code.length kc] 43)).alloc (.cells #[.slice la q.levels.length lc, .slice oa q.order.length oc, .slice ba q.chans.length bc, .slice da q.sites.length dc, .bool q.sens, .int .i64 q.steps, .int .i64 q.paths, .int .i64 q.nodes, .int .i64 q.confs] 46) = W00 at *
  go_upto_region 3 with (first | (go_at_call 26; refine (HA7.out _).mono ?_; rintro e y1 ⟨va, rfl, hr, hz⟩; obtain ⟨va1, va2, rfl⟩ := hr.is; have HRA1 := Lib.hid hr; have BY1 := Lib.hid hz; clear hr hz) | (go_at_call 28; refine (HB7.out _).mono ?_; rintro e y2 ⟨vb, rfl, hr, hz⟩; obtain ⟨vb1, vb2, rfl⟩ := hr.is; have HRB2 := Lib.hid hr; have BY2 := Lib.hid hz; clear hr hz))
  have HB2 := Lib.hid (bcomp BY1.out BY2.out)
  have HRA2 := Lib.hid (HRA1.out.keep BY2.out)
  have HBB2 := Lib.hid (bcomp HB0.out HB2.out)
  have HF2 := Lib.hid (HF0.out.keep HB2.out)
  have HP2 := Lib.hid (HP0.out.keep HB2.out)
  have HL2 := Lib.hid (HLW.out.keep HB2.out)
  have HT2 := Lib.hid (HTW.out.keep HB2.out)
  have HGF2 := Lib.hid ((HB2.out.block _ (Array.getElem?_eq_some_iff.1 HGF0.out).1).trans HGF0.out)
  have HGP2 := Lib.hid ((HB2.out.block _ (Array.getElem?_eq_some_iff.1 HGP0.out).1).trans HGP0.out)
  clear HRA1 BY1 BY2 HF0 HP0 HLW HTW HGF0 HGP0 HB0 HB2
  have q0 := row_of HGF2.out 0 (.int .i64 F.width) rfl
  have q1 := row_of HGF2.out 1 (.int .i64 F.regs) rfl
  have q2 := row_of HGF2.out 2 (.slice ca F.chans.length cc) rfl
  have q3 := row_of HGF2.out 3 (.slice sa F.sites.length sc) rfl
  have q4 := row_of HGF2.out 4 (.slice aa F.arrays.length ac) rfl
  have q5 := row_of HGF2.out 5 (.slice ka F.code.length kc) rfl
  have p0 := row_of HGP2.out 0 (.slice la q.levels.length lc) rfl
  have p1 := row_of HGP2.out 1 (.slice oa q.order.length oc) rfl
  have p2 := row_of HGP2.out 2 (.slice ba q.chans.length bc) rfl
  have p3 := row_of HGP2.out 3 (.slice da q.sites.length dc) rfl
  have p4 := row_of HGP2.out 4 (.bool q.sens) rfl
  have p5 := row_of HGP2.out 5 (.int .i64 q.steps) rfl
  have p6 := row_of HGP2.out 6 (.int .i64 q.paths) rfl
  have p7 := row_of HGP2.out 7 (.int .i64 q.nodes) rfl
  have p8 := row_of HGP2.out 8 (.int .i64 q.confs) rfl
  have HK1 := Lib.hid (fun (z : World) (hz : Below y2.heap.size y2 z) => by have h := check_any F q #[.int .i64 F.width, .int .i64 F.regs, .slice ca F.chans.length cc, .slice sa F.sites.length sc, .slice aa F.arrays.length ac, .slice ka F.code.length kc] #[.slice la q.levels.length lc, .slice oa q.order.length oc, .slice ba q.chans.length bc, .slice da q.sites.length dc, .bool q.sens, .int .i64 q.steps, .int .i64 q.paths, .int .i64 q.nodes, .int .i64 q.confs] #[.int .i64 0, .slice va1 LA.length va2, .slice vb1 LB.length vb2, .bool false] 0 LA LB false z (HF2.out.keep hz) (HP2.out.keep hz) ⟨_, _, rfl, HRA2.out.keep hz, HRB2.out.keep hz⟩ (HL2.out.keep hz) (HT2.out.keep hz) ⟨by decide, by decide⟩ HSA.out HSB.out; rw [HX1.out] at h; exact h)
  have HK2 := Lib.hid (fun (z : World) (hz : Below y2.heap.size y2 z) => by have h := check_any F q #[.int .i64 F.width, .int .i64 F.regs, .slice ca F.chans.length cc, .slice sa F.sites.length sc, .slice aa F.arrays.length ac, .slice ka F.code.length kc] #[.slice la q.levels.length lc, .slice oa q.order.length oc, .slice ba q.chans.length bc, .slice da q.sites.length dc, .bool q.sens, .int .i64 q.steps, .int .i64 q.paths, .int .i64 q.nodes, .int .i64 q.confs] #[.int .i64 1, .slice va1 LA.length va2, .slice vb1 LB.length vb2, .bool true] 1 LA LB true z (HF2.out.keep hz) (HP2.out.keep hz) ⟨_, _, rfl, HRA2.out.keep hz, HRB2.out.keep hz⟩ (HL2.out.keep hz) (HT2.out.keep hz) ⟨by decide, by decide⟩ HSA.out HSB.out; rw [HX2.out] at h; exact h)
  have HM1 := Lib.hid (fun (z : World) (hz : Below y2.heap.size y2 z) => make_bad F q #[.int .i64 F.width, .int .i64 F.regs, .slice ca F.chans.length cc, .slice sa F.sites.length sc, .slice aa F.arrays.length ac, .slice ka F.code.length kc] #[.slice la q.levels.length lc, .slice oa q.order.length oc, .slice ba q.chans.length bc, .slice da q.sites.length dc, .bool q.sens, .int .i64 q.steps, .int .i64 q.paths, .int .i64 q.nodes, .int .i64 q.confs] 0 (.slice va1 LA.length va2) (.slice va1 LA.length va2) LA LA z (HF2.out.keep hz) (HP2.out.keep hz) (HL2.out.keep hz) (HT2.out.keep hz) ⟨by decide, by decide⟩ (HRA2.out.keep hz) (HRA2.out.keep hz) HSA.out HSA.out HX3.out (by decide))
  have HM2 := Lib.hid (fun (z : World) (hz : Below y2.heap.size y2 z) => make_bad F q #[.int .i64 F.width, .int .i64 F.regs, .slice ca F.chans.length cc, .slice sa F.sites.length sc, .slice aa F.arrays.length ac, .slice ka F.code.length kc] #[.slice la q.levels.length lc, .slice oa q.order.length oc, .slice ba q.chans.length bc, .slice da q.sites.length dc, .bool q.sens, .int .i64 q.steps, .int .i64 q.paths, .int .i64 q.nodes, .int .i64 q.confs] 2 (.slice va1 LA.length va2) (.slice vb1 LB.length vb2) LA LB z (HF2.out.keep hz) (HP2.out.keep hz) (HL2.out.keep hz) (HT2.out.keep hz) ⟨by decide, by decide⟩ (HRA2.out.keep hz) (HRB2.out.keep hz) HSA.out HSB.out HX4.out (by decide))
  have h44 : ((4 : Int) != 4) = false := rfl
  go_upto_region 7 with (first | (go_at_call 31; with_reducible refine (HK1.out _ (Below.refl _ _)).mono ?_; rintro e y3 ⟨rfl, hz⟩; have BY3 := Lib.hid hz; have HGF3 := Lib.hid ((hz.block _ (Array.getElem?_eq_some_iff.1 HGF2.out).1).trans HGF2.out); have HGP3 := Lib.hid ((hz.block _ (Array.getElem?_eq_some_iff.1 HGP2.out).1).trans HGP2.out); clear hz; clear q0 q1 q2 q3 q4 q5 p0 p1 p2 p3 p4 p5 p6 p7 p8; have q0 := row_of HGF3.out 0 (.int .i64 F.width) rfl; have q1 := row_of HGF3.out 1 (.int .i64 F.regs) rfl; have q2 := row_of HGF3.out 2 (.slice ca F.chans.length cc) rfl; have q3 := row_of HGF3.out 3 (.slice sa F.sites.length sc) rfl; have q4 := row_of HGF3.out 4 (.slice aa F.arrays.length ac) rfl; have q5 := row_of HGF3.out 5 (.slice ka F.code.length kc) rfl; have p0 := row_of HGP3.out 0 (.slice la q.levels.length lc) rfl; have p1 := row_of HGP3.out 1 (.slice oa q.order.length oc) rfl; have p2 := row_of HGP3.out 2 (.slice ba q.chans.length bc) rfl; have p3 := row_of HGP3.out 3 (.slice da q.sites.length dc) rfl; have p4 := row_of HGP3.out 4 (.bool q.sens) rfl; have p5 := row_of HGP3.out 5 (.int .i64 q.steps) rfl; have p6 := row_of HGP3.out 6 (.int .i64 q.paths) rfl; have p7 := row_of HGP3.out 7 (.int .i64 q.nodes) rfl; have p8 := row_of HGP3.out 8 (.int .i64 q.confs) rfl) | (go_at_call 31; with_reducible refine (HK2.out _ BY3.out).mono ?_; rintro e y4 ⟨rfl, hz⟩; have BY4 := Lib.hid (bcomp BY3.out hz); have HGF4 := Lib.hid ((hz.block _ (Array.getElem?_eq_some_iff.1 HGF3.out).1).trans HGF3.out); have HGP4 := Lib.hid ((hz.block _ (Array.getElem?_eq_some_iff.1 HGP3.out).1).trans HGP3.out); clear hz; clear q0 q1 q2 q3 q4 q5 p0 p1 p2 p3 p4 p5 p6 p7 p8; have q0 := row_of HGF4.out 0 (.int .i64 F.width) rfl; have q1 := row_of HGF4.out 1 (.int .i64 F.regs) rfl; have q2 := row_of HGF4.out 2 (.slice ca F.chans.length cc) rfl; have q3 := row_of HGF4.out 3 (.slice sa F.sites.length sc) rfl; have q4 := row_of HGF4.out 4 (.slice aa F.arrays.length ac) rfl; have q5 := row_of HGF4.out 5 (.slice ka F.code.length kc) rfl; have p0 := row_of HGP4.out 0 (.slice la q.levels.length lc) rfl; have p1 := row_of HGP4.out 1 (.slice oa q.order.length oc) rfl; have p2 := row_of HGP4.out 2 (.slice ba q.chans.length bc) rfl; have p3 := row_of HGP4.out 3 (.slice da q.sites.length dc) rfl; have p4 := row_of HGP4.out 4 (.bool q.sens) rfl; have p5 := row_of HGP4.out 5 (.int .i64 q.steps) rfl; have p6 := row_of HGP4.out 6 (.int .i64 q.paths) rfl; have p7 := row_of HGP4.out 7 (.int .i64 q.nodes) rfl; have p8 := row_of HGP4.out 8 (.int .i64 q.confs) rfl) | (go_at_call 32; with_reducible refine (HM1.out _ BY4.out).mono ?_; rintro e y5 ⟨rfl, hz⟩; have hzz := bcomp hz ((Below.refl y5.heap.size y5).alloc (Nat.le_refl _) (.cells #[.int .i64 0, .slice none 0 0, .slice none 0 0, .bool false] 65)); have BY5 := Lib.hid (bcomp BY4.out hzz); have HGF5 := Lib.hid ((hzz.block _ (Array.getElem?_eq_some_iff.1 HGF4.out).1).trans HGF4.out); have HGP5 := Lib.hid ((hzz.block _ (Array.getElem?_eq_some_iff.1 HGP4.out).1).trans HGP4.out); clear hz hzz; clear q0 q1 q2 q3 q4 q5 p0 p1 p2 p3 p4 p5 p6 p7 p8; have q0 := row_of HGF5.out 0 (.int .i64 F.width) rfl; have q1 := row_of HGF5.out 1 (.int .i64 F.regs) rfl; have q2 := row_of HGF5.out 2 (.slice ca F.chans.length cc) rfl; have q3 := row_of HGF5.out 3 (.slice sa F.sites.length sc) rfl; have q4 := row_of HGF5.out 4 (.slice aa F.arrays.length ac) rfl; have q5 := row_of HGF5.out 5 (.slice ka F.code.length kc) rfl; have p0 := row_of HGP5.out 0 (.slice la q.levels.length lc) rfl; have p1 := row_of HGP5.out 1 (.slice oa q.order.length oc) rfl; have p2 := row_of HGP5.out 2 (.slice ba q.chans.length bc) rfl; have p3 := row_of HGP5.out 3 (.slice da q.sites.length dc) rfl; have p4 := row_of HGP5.out 4 (.bool q.sens) rfl; have p5 := row_of HGP5.out 5 (.int .i64 q.steps) rfl; have p6 := row_of HGP5.out 6 (.int .i64 q.paths) rfl; have p7 := row_of HGP5.out 7 (.int .i64 q.nodes) rfl; have p8 := row_of HGP5.out 8 (.int .i64 q.confs) rfl) | (go_at_call 32; with_reducible refine (HM2.out _ BY5.out).mono ?_; rintro e y6 ⟨rfl, hz⟩; have hzz := bcomp hz ((Below.refl y6.heap.size y6).alloc (Nat.le_refl _) (.cells #[.int .i64 0, .slice none 0 0, .slice none 0 0, .bool false] 65)); have BY6 := Lib.hid (bcomp BY5.out hzz); have HGF6 := Lib.hid ((hzz.block _ (Array.getElem?_eq_some_iff.1 HGF5.out).1).trans HGF5.out); have HGP6 := Lib.hid ((hzz.block _ (Array.getElem?_eq_some_iff.1 HGP5.out).1).trans HGP5.out); clear hz hzz; clear q0 q1 q2 q3 q4 q5 p0 p1 p2 p3 p4 p5 p6 p7 p8))
  try simp only [Act.put]
  have HPW := Lib.hid (HP2.out.keep BY6.out)
  have HLW := Lib.hid (HL2.out.keep BY6.out)
  have HTW := Lib.hid (HT2.out.keep BY6.out)
  have HRB := Lib.hid (HRB2.out.keep BY6.out)
  have HGP := HGP6
  have HBW := Lib.hid (bcomp HBB2.out BY6.out)
  clear HF2 HP2 HL2 HT2 HRA2 HRB2 HK1 HK2 HM1 HM2 BY3 BY4 BY5 BY6 HGF2 HGF3 HGF4 HGF5 HGF6 HGP2 HGP3 HGP4 HGP5 HGP6 HBB2
  generalize y6.alloc (.cells #[.int .i64 0, .slice none 0 0, .slice none 0 0, .bool false] 65) = W at *
  have hsz : a2.heap.size + 1 < W.heap.size := (Array.getElem?_eq_some_iff.1 HGP.out).1
  have HSL : Hid (∀ b ∈ [a2.heap.size + 1], b < W.heap.size) := by
    intro b hb
    simp only [List.mem_cons, List.not_mem_nil, or_false] at hb
    subst hb; exact hsz
  go_cut [9, 10] from 47 to 55 (fun c9 c10 wx => ∃ g : Nat, c9 = .pointer (some ⟨g, 0, none⟩) ∧ c10 = .int .i64 0 ∧ wx.cell? ⟨g, 3, none⟩ = some (.bool false) ∧ Below W.heap.size W wx)
  case first =>
    have HDR : Hid (∀ b : Nat, W.drew.heap[b]? = W.heap[b]?) := fun _ => rfl
    have HD00 : Hid (Below W.heap.size W W.drew) := (Below.refl _ _).drew
    refine wp_region_mixS [a2.heap.size + 1] (.two [1, 2] 0 8 (.two [] 3 8 (.two [] 4 8 (.one [5, 6, 7] 8 (.one [] 9 (.fin [10]))) (.one [] 4 (.one [5, 6, 7] 9 (.fin [10])))) (.one [] 3 (.one [] 4 (.one [5, 6, 7] 9 (.fin [10]))))) (.one [] 0 (.one [] 3 (.one [] 4 (.one [5, 6, 7] 9 (.fin [10])))))) (fun _ => false) (by kernel_rfl) (by kernel_rfl) rfl (by kernel_rfl) (fun _ d _ _ _ h => by cases d <;> exact h) ?_
    generalize W.drew = W0 at *
    have HD0 : Hid (Below W.heap.size W W0) := HD00.out
    have HK0 : Hid (∀ b ∈ [a2.heap.size + 1], W0.heap[b]? = W.heap[b]?) := fun b _ => HDR.out b
    refine mix_two (by simp only [opsOf, List.filterMap_cons, List.filterMap_nil, List.getElem?_toArray, List.getElem?_cons_succ, List.getElem?_cons_zero]; rfl) ⟨_, keepS_of HK0.out⟩ ?_
    change wpQuiet _ _ _ _ [_, _] _
    go_big_quiet_want; refine quiet_load_row 46 (.tmp 2) rfl (a2.heap.size + 1) rfl 46 #[.slice la q.levels.length lc, .slice oa q.order.length oc, .slice ba q.chans.length bc, .slice da q.sites.length dc, .bool q.sens, .int .i64 q.steps, .int .i64 q.paths, .int .i64 q.nodes, .int .i64 q.confs] (0, 0) _ (keepS_row (by simp) HGP.out) Tryd.underlying46 rfl HPI.out ?_; simp only [Act.put, List.setIfInBounds_toArray, List.set_cons_succ, List.set_cons_zero, List.getElem_toArray, List.getElem_cons_succ, List.getElem_cons_zero]; go_big_quiet_on
    go_big_quiet_step (fail)
    refine wpQuiet_nil ?_
    refine ⟨?_, ?_⟩
    · refine mix_step rfl ?_
      go_wp2_with (go_at_call 27; refine (HS7.out _).mono ?_; rintro e W1 ⟨cG, rfl, ⟨gcv, gsv, gav, gkv, rfl, hg⟩, hz⟩; obtain ⟨gca, gcc, rfl⟩ := hg.1.is; obtain ⟨gsa, gsc, rfl⟩ := hg.2.1.is; obtain ⟨gaa, gac, rfl⟩ := hg.2.2.1.is; obtain ⟨gka, gkc, rfl⟩ := hg.2.2.2.1.is; have HGC : Hid (FlatC W1 G #[.int .i64 G.width, .int .i64 G.regs, .slice gca G.chans.length gcc, .slice gsa G.sites.length gsc, .slice gaa G.arrays.length gac, .slice gka G.code.length gkc]) := ⟨_, _, _, _, rfl, hg⟩; have BZ1 := Lib.hid hz; clear hg hz)
      have HD1 := Lib.hid (bcomp HD0.out BZ1.out)
      have HK1 : Hid (∀ b ∈ [a2.heap.size + 1], W1.heap[b]? = W.heap[b]?) := fun b hb => (BZ1.out.block b (by have := HSL.out b hb; have := HD0.out.size; omega)).trans (HK0.out b hb)
      refine ⟨by first | exact ⟨_, keepS_of HK1.out⟩ | exact fun _ => ⟨_, keepS_of HK1.out⟩, ?_⟩
      refine mix_both ?_ ?_
      · refine mix_step rfl ?_
        go_wp2_with (go_at_call 29; refine (HC7.out _).mono ?_; rintro e W2 ⟨vc, rfl, hr, hz⟩; obtain ⟨vc1, vc2, rfl⟩ := hr.is; have HRC := Lib.hid hr; have BZ2 := Lib.hid hz; clear hr hz)
        have HD2 := Lib.hid (bcomp HD1.out BZ2.out)
        have HK2 : Hid (∀ b ∈ [a2.heap.size + 1], W2.heap[b]? = W.heap[b]?) := fun b hb => (BZ2.out.block b (by have := HSL.out b hb; have := HD1.out.size; omega)).trans (HK1.out b hb)
        refine ⟨by first | exact ⟨_, keepS_of HK2.out⟩ | exact fun _ => ⟨_, keepS_of HK2.out⟩, ?_⟩
        refine mix_both ?_ ?_
        · refine mix_step rfl ?_
          have hmk := make_good G q #[.int .i64 G.width, .int .i64 G.regs, .slice gca G.chans.length gcc, .slice gsa G.sites.length gsc, .slice gaa G.arrays.length gac, .slice gka G.code.length gkc] #[.slice la q.levels.length lc, .slice oa q.order.length oc, .slice ba q.chans.length bc, .slice da q.sites.length dc, .bool q.sens, .int .i64 q.steps, .int .i64 q.paths, .int .i64 q.nodes, .int .i64 q.confs] 0 _ _ LB LC W2 (HGC.out.keep BZ2.out) (HPW.out.keep HD2.out) (HLW.out.keep HD2.out) (HTW.out.keep HD2.out) ⟨by decide, by decide⟩ (HRB.out.keep HD2.out) HRC.out HSB.out HSC.out HX5.out
          rw [HX6.out] at hmk
          have HMK := Lib.hid hmk
          clear hmk
          go_wp2_with (go_at_call 32; refine HMK.out.mono ?_; rintro e W3 ⟨wa, wsa, wb, wsb, rfl, ho1, ho2, hz⟩; obtain ⟨wa1, wa2, rfl, -⟩ := own_read ho1.own; obtain ⟨wb1, wb2, rfl, -⟩ := own_read ho2.own; have BZ3 := Lib.hid hz; clear ho1 ho2 hz)
          clear HMK
          have HD3 := Lib.hid (bcomp HD2.out BZ3.out)
          have HK3 : Hid (∀ b ∈ [a2.heap.size + 1], W3.heap[b]? = W.heap[b]?) := fun b hb => (BZ3.out.block b (by have := HSL.out b hb; have := HD2.out.size; omega)).trans (HK2.out b hb)
          refine ⟨by first | exact ⟨_, keepS_of HK3.out⟩ | exact fun _ => ⟨_, keepS_of HK3.out⟩, ?_⟩
          refine mix_one (by simp only [opsOf, List.filterMap_cons, List.filterMap_nil, List.getElem?_toArray, List.getElem?_cons_succ, List.getElem?_cons_zero]; rfl) ⟨_, keepS_of HK3.out⟩ ?_
          change wpQuiet _ _ _ _ [_, _, _] _
          (repeat (go_big_quiet_step (fail)))
          refine wpQuiet_nil ?_
          refine mix_step rfl ?_
          go_wp2_with fail
          have hz : Below W3.heap.size W3 (W3.alloc (.cells #[.int .i64 0, .slice none 0 0, .slice none 0 0, .bool false] 65)) := (Below.refl _ _).alloc (Nat.le_refl _) _
          have BZ4 := Lib.hid hz
          have HZ0 := Lib.hid (heap_alloc_new W3 (.cells #[.int .i64 0, .slice none 0 0, .slice none 0 0, .bool false] 65))
          have hgz : W.heap.size ≤ W3.heap.size := HD3.out.size
          clear hz
          obtain ⟨gz, hgz0⟩ : ∃ gz, W3.heap.size = gz := ⟨_, rfl⟩
          rw [hgz0] at HZ0 hgz
          try rw [hgz0]
          clear hgz0
          generalize W3.alloc (.cells #[.int .i64 0, .slice none 0 0, .slice none 0 0, .bool false] 65) = W4 at *
          have HD4 := Lib.hid (bcomp HD3.out BZ4.out)
          have HK4 : Hid (∀ b ∈ [a2.heap.size + 1], W4.heap[b]? = W.heap[b]?) := fun b hb => (BZ4.out.block b (by have := HSL.out b hb; have := HD3.out.size; omega)).trans (HK3.out b hb)
          refine ⟨by first | exact ⟨_, keepS_of HK4.out⟩ | exact fun _ => ⟨_, keepS_of HK4.out⟩, ?_⟩
          refine mix_now ?_
          refine mix_step rfl ?_
          have HZ9 := Lib.hid (HZ0.out)
          simp only [Act.put, List.setIfInBounds_toArray, List.set_cons_succ, List.set_cons_zero, List.getElem_toArray, List.getElem_cons_succ, List.getElem_cons_zero]
          go_wp2_with (refine wpList_store_row rfl 65 (.tmp 9) (.tmp 53) rfl gz #[.int .i64 0, .slice wa1 wsa.length wa2, .slice wb1 wsb.length wb2, .bool false] rfl rfl 65 #[.int .i64 0, .slice none 0 0, .slice none 0 0, .bool false] ?h1 (by as_aux_lemma => kernel_rfl) (by as_aux_lemma => kernel_rfl) (by as_aux_lemma => kernel_rfl) ?_; exact HZ9.out)
          try simp only [Act.put]
          have hne : ∀ b, b ≠ gz → (W4.setRow gz #[.int .i64 0, .slice wa1 wsa.length wa2, .slice wb1 wsb.length wb2, .bool false]).heap[b]? = W4.heap[b]? := fun b h => setRow_other _ _ _ _ h
          have hbw : Below W.heap.size W (W4.setRow gz #[.int .i64 0, .slice wa1 wsa.length wa2, .slice wb1 wsb.length wb2, .bool false]) := below_row HD4.out hgz _
          have hgz2 : (W4.setRow gz #[.int .i64 0, .slice wa1 wsa.length wa2, .slice wb1 wsb.length wb2, .bool false]).heap[gz]? = some (.cells #[.int .i64 0, .slice wa1 wsa.length wa2, .slice wb1 wsb.length wb2, .bool false] 65 (0, 0)) := setRow_heap _ _ _ _ _ _ HZ9.out
          have hks : ∀ b ∈ [a2.heap.size + 1], (W4.setRow gz #[.int .i64 0, .slice wa1 wsa.length wa2, .slice wb1 wsb.length wb2, .bool false]).heap[b]? = W.heap[b]? := fun b hb => (hne b (by have hlt := HSL.out b hb; omega)).trans (HK4.out b hb)
          refine ⟨by first | exact ⟨_, keepS_of hks⟩ | exact fun _ => ⟨_, keepS_of hks⟩, ?_⟩
          refine mix_fin (by simp only [opsOf, List.filterMap_cons, List.filterMap_nil, List.getElem?_toArray, List.getElem?_cons_succ, List.getElem?_cons_zero]; rfl) ⟨_, keepS_of hks⟩ ?_
          change wpQuiet _ _ _ _ [_] _
          (repeat (go_big_quiet_step (fail)))
          refine wpQuiet_nil ?_
          go_wp2_with fail
          go_meet
          exact ⟨gz, rfl, rfl, row_of hgz2 3 _ rfl, hbw⟩
        · refine mix_step rfl ?_
          go_wp2_with fail
          have hz : Below W2.heap.size W2 (W2.alloc (.cells #[.int .i64 0, .slice none 0 0, .slice none 0 0, .bool false] 65)) := (Below.refl _ _).alloc (Nat.le_refl _) _
          have BZ3 := Lib.hid hz
          have HZ0 := Lib.hid (heap_alloc_new W2 (.cells #[.int .i64 0, .slice none 0 0, .slice none 0 0, .bool false] 65))
          have hgz : W.heap.size ≤ W2.heap.size := HD2.out.size
          clear hz
          obtain ⟨gz, hgz0⟩ : ∃ gz, W2.heap.size = gz := ⟨_, rfl⟩
          rw [hgz0] at HZ0 hgz
          try rw [hgz0]
          clear hgz0
          generalize W2.alloc (.cells #[.int .i64 0, .slice none 0 0, .slice none 0 0, .bool false] 65) = W3 at *
          have HD3 := Lib.hid (bcomp HD2.out BZ3.out)
          have HK3 : Hid (∀ b ∈ [a2.heap.size + 1], W3.heap[b]? = W.heap[b]?) := fun b hb => (BZ3.out.block b (by have := HSL.out b hb; have := HD2.out.size; omega)).trans (HK2.out b hb)
          refine ⟨by first | exact ⟨_, keepS_of HK3.out⟩ | exact fun _ => ⟨_, keepS_of HK3.out⟩, ?_⟩
          refine mix_now ?_
          refine mix_step rfl ?_
          have hmk := make_good G q #[.int .i64 G.width, .int .i64 G.regs, .slice gca G.chans.length gcc, .slice gsa G.sites.length gsc, .slice gaa G.arrays.length gac, .slice gka G.code.length gkc] #[.slice la q.levels.length lc, .slice oa q.order.length oc, .slice ba q.chans.length bc, .slice da q.sites.length dc, .bool q.sens, .int .i64 q.steps, .int .i64 q.paths, .int .i64 q.nodes, .int .i64 q.confs] 0 _ _ LB LC W3 ((HGC.out.keep BZ2.out).keep BZ3.out) (HPW.out.keep HD3.out) (HLW.out.keep HD3.out) (HTW.out.keep HD3.out) ⟨by decide, by decide⟩ (HRB.out.keep HD3.out) (HRC.out.keep BZ3.out) HSB.out HSC.out HX5.out
          rw [HX6.out] at hmk
          have HMK := Lib.hid hmk
          clear hmk
          go_wp2_with (go_at_call 32; refine HMK.out.mono ?_; rintro e W4 ⟨wa, wsa, wb, wsb, rfl, ho1, ho2, hz⟩; obtain ⟨wa1, wa2, rfl, -⟩ := own_read ho1.own; obtain ⟨wb1, wb2, rfl, -⟩ := own_read ho2.own; have BZ4 := Lib.hid hz; clear ho1 ho2 hz)
          clear HMK
          have HD4 := Lib.hid (bcomp HD3.out BZ4.out)
          have HK4 : Hid (∀ b ∈ [a2.heap.size + 1], W4.heap[b]? = W.heap[b]?) := fun b hb => (BZ4.out.block b (by have := HSL.out b hb; have := HD3.out.size; omega)).trans (HK3.out b hb)
          refine ⟨by first | exact ⟨_, keepS_of HK4.out⟩ | exact fun _ => ⟨_, keepS_of HK4.out⟩, ?_⟩
          refine mix_one (by simp only [opsOf, List.filterMap_cons, List.filterMap_nil, List.getElem?_toArray, List.getElem?_cons_succ, List.getElem?_cons_zero]; rfl) ⟨_, keepS_of HK4.out⟩ ?_
          change wpQuiet _ _ _ _ [_, _, _] _
          (repeat (go_big_quiet_step (fail)))
          refine wpQuiet_nil ?_
          refine mix_step rfl ?_
          have HZ9 := Lib.hid (((BZ4.out.block _ (Array.getElem?_eq_some_iff.1 (HZ0.out)).1).trans (HZ0.out)))
          simp only [Act.put, List.setIfInBounds_toArray, List.set_cons_succ, List.set_cons_zero, List.getElem_toArray, List.getElem_cons_succ, List.getElem_cons_zero]
          go_wp2_with (refine wpList_store_row rfl 65 (.tmp 9) (.tmp 53) rfl gz #[.int .i64 0, .slice wa1 wsa.length wa2, .slice wb1 wsb.length wb2, .bool false] rfl rfl 65 #[.int .i64 0, .slice none 0 0, .slice none 0 0, .bool false] ?h2 (by as_aux_lemma => kernel_rfl) (by as_aux_lemma => kernel_rfl) (by as_aux_lemma => kernel_rfl) ?_; exact HZ9.out)
          try simp only [Act.put]
          have hne : ∀ b, b ≠ gz → (W4.setRow gz #[.int .i64 0, .slice wa1 wsa.length wa2, .slice wb1 wsb.length wb2, .bool false]).heap[b]? = W4.heap[b]? := fun b h => setRow_other _ _ _ _ h
          have hbw : Below W.heap.size W (W4.setRow gz #[.int .i64 0, .slice wa1 wsa.length wa2, .slice wb1 wsb.length wb2, .bool false]) := below_row HD4.out hgz _
          have hgz2 : (W4.setRow gz #[.int .i64 0, .slice wa1 wsa.length wa2, .slice wb1 wsb.length wb2, .bool false]).heap[gz]? = some (.cells #[.int .i64 0, .slice wa1 wsa.length wa2, .slice wb1 wsb.length wb2, .bool false] 65 (0, 0)) := setRow_heap _ _ _ _ _ _ HZ9.out
          have hks : ∀ b ∈ [a2.heap.size + 1], (W4.setRow gz #[.int .i64 0, .slice wa1 wsa.length wa2, .slice wb1 wsb.length wb2, .bool false]).heap[b]? = W.heap[b]? := fun b hb => (hne b (by have hlt := HSL.out b hb; omega)).trans (HK4.out b hb)
          refine ⟨by first | exact ⟨_, keepS_of hks⟩ | exact fun _ => ⟨_, keepS_of hks⟩, ?_⟩
          refine mix_fin (by simp only [opsOf, List.filterMap_cons, List.filterMap_nil, List.getElem?_toArray, List.getElem?_cons_succ, List.getElem?_cons_zero]; rfl) ⟨_, keepS_of hks⟩ ?_
          change wpQuiet _ _ _ _ [_] _
          (repeat (go_big_quiet_step (fail)))
          refine wpQuiet_nil ?_
          go_wp2_with fail
          go_meet
          exact ⟨gz, rfl, rfl, row_of hgz2 3 _ rfl, hbw⟩
      · refine mix_step rfl ?_
        go_wp2_with fail
        have hz : Below W1.heap.size W1 (W1.alloc (.cells #[.int .i64 0, .slice none 0 0, .slice none 0 0, .bool false] 65)) := (Below.refl _ _).alloc (Nat.le_refl _) _
        have BZ2 := Lib.hid hz
        have HZ0 := Lib.hid (heap_alloc_new W1 (.cells #[.int .i64 0, .slice none 0 0, .slice none 0 0, .bool false] 65))
        have hgz : W.heap.size ≤ W1.heap.size := HD1.out.size
        clear hz
        obtain ⟨gz, hgz0⟩ : ∃ gz, W1.heap.size = gz := ⟨_, rfl⟩
        rw [hgz0] at HZ0 hgz
        try rw [hgz0]
        clear hgz0
        generalize W1.alloc (.cells #[.int .i64 0, .slice none 0 0, .slice none 0 0, .bool false] 65) = W2 at *
        have HD2 := Lib.hid (bcomp HD1.out BZ2.out)
        have HK2 : Hid (∀ b ∈ [a2.heap.size + 1], W2.heap[b]? = W.heap[b]?) := fun b hb => (BZ2.out.block b (by have := HSL.out b hb; have := HD1.out.size; omega)).trans (HK1.out b hb)
        refine ⟨by first | exact ⟨_, keepS_of HK2.out⟩ | exact fun _ => ⟨_, keepS_of HK2.out⟩, ?_⟩
        refine mix_now ?_
        refine mix_step rfl ?_
        go_wp2_with (go_at_call 29; refine (HC7.out _).mono ?_; rintro e W3 ⟨vc, rfl, hr, hz⟩; obtain ⟨vc1, vc2, rfl⟩ := hr.is; have HRC := Lib.hid hr; have BZ3 := Lib.hid hz; clear hr hz)
        have HD3 := Lib.hid (bcomp HD2.out BZ3.out)
        have HK3 : Hid (∀ b ∈ [a2.heap.size + 1], W3.heap[b]? = W.heap[b]?) := fun b hb => (BZ3.out.block b (by have := HSL.out b hb; have := HD2.out.size; omega)).trans (HK2.out b hb)
        refine ⟨by first | exact ⟨_, keepS_of HK3.out⟩ | exact fun _ => ⟨_, keepS_of HK3.out⟩, ?_⟩
        refine mix_now ?_
        refine mix_step rfl ?_
        have hmk := make_good G q #[.int .i64 G.width, .int .i64 G.regs, .slice gca G.chans.length gcc, .slice gsa G.sites.length gsc, .slice gaa G.arrays.length gac, .slice gka G.code.length gkc] #[.slice la q.levels.length lc, .slice oa q.order.length oc, .slice ba q.chans.length bc, .slice da q.sites.length dc, .bool q.sens, .int .i64 q.steps, .int .i64 q.paths, .int .i64 q.nodes, .int .i64 q.confs] 0 _ _ LB LC W3 ((HGC.out.keep BZ2.out).keep BZ3.out) (HPW.out.keep HD3.out) (HLW.out.keep HD3.out) (HTW.out.keep HD3.out) ⟨by decide, by decide⟩ (HRB.out.keep HD3.out) HRC.out HSB.out HSC.out HX5.out
        rw [HX6.out] at hmk
        have HMK := Lib.hid hmk
        clear hmk
        go_wp2_with (go_at_call 32; refine HMK.out.mono ?_; rintro e W4 ⟨wa, wsa, wb, wsb, rfl, ho1, ho2, hz⟩; obtain ⟨wa1, wa2, rfl, -⟩ := own_read ho1.own; obtain ⟨wb1, wb2, rfl, -⟩ := own_read ho2.own; have BZ4 := Lib.hid hz; clear ho1 ho2 hz)
        clear HMK
        have HD4 := Lib.hid (bcomp HD3.out BZ4.out)
        have HK4 : Hid (∀ b ∈ [a2.heap.size + 1], W4.heap[b]? = W.heap[b]?) := fun b hb => (BZ4.out.block b (by have := HSL.out b hb; have := HD3.out.size; omega)).trans (HK3.out b hb)
        refine ⟨by first | exact ⟨_, keepS_of HK4.out⟩ | exact fun _ => ⟨_, keepS_of HK4.out⟩, ?_⟩
        refine mix_one (by simp only [opsOf, List.filterMap_cons, List.filterMap_nil, List.getElem?_toArray, List.getElem?_cons_succ, List.getElem?_cons_zero]; rfl) ⟨_, keepS_of HK4.out⟩ ?_
        change wpQuiet _ _ _ _ [_, _, _] _
        (repeat (go_big_quiet_step (fail)))
        refine wpQuiet_nil ?_
        refine mix_step rfl ?_
        have HZ9 := Lib.hid (((BZ4.out.block _ (Array.getElem?_eq_some_iff.1 (((BZ3.out.block _ (Array.getElem?_eq_some_iff.1 (HZ0.out)).1).trans (HZ0.out)))).1).trans (((BZ3.out.block _ (Array.getElem?_eq_some_iff.1 (HZ0.out)).1).trans (HZ0.out)))))
        simp only [Act.put, List.setIfInBounds_toArray, List.set_cons_succ, List.set_cons_zero, List.getElem_toArray, List.getElem_cons_succ, List.getElem_cons_zero]
        go_wp2_with (refine wpList_store_row rfl 65 (.tmp 9) (.tmp 53) rfl gz #[.int .i64 0, .slice wa1 wsa.length wa2, .slice wb1 wsb.length wb2, .bool false] rfl rfl 65 #[.int .i64 0, .slice none 0 0, .slice none 0 0, .bool false] ?h3 (by as_aux_lemma => kernel_rfl) (by as_aux_lemma => kernel_rfl) (by as_aux_lemma => kernel_rfl) ?_; exact HZ9.out)
        try simp only [Act.put]
        have hne : ∀ b, b ≠ gz → (W4.setRow gz #[.int .i64 0, .slice wa1 wsa.length wa2, .slice wb1 wsb.length wb2, .bool false]).heap[b]? = W4.heap[b]? := fun b h => setRow_other _ _ _ _ h
        have hbw : Below W.heap.size W (W4.setRow gz #[.int .i64 0, .slice wa1 wsa.length wa2, .slice wb1 wsb.length wb2, .bool false]) := below_row HD4.out hgz _
        have hgz2 : (W4.setRow gz #[.int .i64 0, .slice wa1 wsa.length wa2, .slice wb1 wsb.length wb2, .bool false]).heap[gz]? = some (.cells #[.int .i64 0, .slice wa1 wsa.length wa2, .slice wb1 wsb.length wb2, .bool false] 65 (0, 0)) := setRow_heap _ _ _ _ _ _ HZ9.out
        have hks : ∀ b ∈ [a2.heap.size + 1], (W4.setRow gz #[.int .i64 0, .slice wa1 wsa.length wa2, .slice wb1 wsb.length wb2, .bool false]).heap[b]? = W.heap[b]? := fun b hb => (hne b (by have hlt := HSL.out b hb; omega)).trans (HK4.out b hb)
        refine ⟨by first | exact ⟨_, keepS_of hks⟩ | exact fun _ => ⟨_, keepS_of hks⟩, ?_⟩
        refine mix_fin (by simp only [opsOf, List.filterMap_cons, List.filterMap_nil, List.getElem?_toArray, List.getElem?_cons_succ, List.getElem?_cons_zero]; rfl) ⟨_, keepS_of hks⟩ ?_
        change wpQuiet _ _ _ _ [_] _
        (repeat (go_big_quiet_step (fail)))
        refine wpQuiet_nil ?_
        go_wp2_with fail
        go_meet
        exact ⟨gz, rfl, rfl, row_of hgz2 3 _ rfl, hbw⟩
    · refine mix_step rfl ?_
      go_wp2_with fail
      have hz : Below W0.heap.size W0 (W0.alloc (.cells #[.int .i64 0, .slice none 0 0, .slice none 0 0, .bool false] 65)) := (Below.refl _ _).alloc (Nat.le_refl _) _
      have BZ1 := Lib.hid hz
      have HZ0 := Lib.hid (heap_alloc_new W0 (.cells #[.int .i64 0, .slice none 0 0, .slice none 0 0, .bool false] 65))
      have hgz : W.heap.size ≤ W0.heap.size := HD0.out.size
      clear hz
      obtain ⟨gz, hgz0⟩ : ∃ gz, W0.heap.size = gz := ⟨_, rfl⟩
      rw [hgz0] at HZ0 hgz
      try rw [hgz0]
      clear hgz0
      generalize W0.alloc (.cells #[.int .i64 0, .slice none 0 0, .slice none 0 0, .bool false] 65) = W1 at *
      have HD1 := Lib.hid (bcomp HD0.out BZ1.out)
      have HK1 : Hid (∀ b ∈ [a2.heap.size + 1], W1.heap[b]? = W.heap[b]?) := fun b hb => (BZ1.out.block b (by have := HSL.out b hb; have := HD0.out.size; omega)).trans (HK0.out b hb)
      refine ⟨by first | exact ⟨_, keepS_of HK1.out⟩ | exact fun _ => ⟨_, keepS_of HK1.out⟩, ?_⟩
      refine mix_now ?_
      refine mix_step rfl ?_
      go_wp2_with (go_at_call 27; refine (HS7.out _).mono ?_; rintro e W2 ⟨cG, rfl, ⟨gcv, gsv, gav, gkv, rfl, hg⟩, hz⟩; obtain ⟨gca, gcc, rfl⟩ := hg.1.is; obtain ⟨gsa, gsc, rfl⟩ := hg.2.1.is; obtain ⟨gaa, gac, rfl⟩ := hg.2.2.1.is; obtain ⟨gka, gkc, rfl⟩ := hg.2.2.2.1.is; have HGC : Hid (FlatC W2 G #[.int .i64 G.width, .int .i64 G.regs, .slice gca G.chans.length gcc, .slice gsa G.sites.length gsc, .slice gaa G.arrays.length gac, .slice gka G.code.length gkc]) := ⟨_, _, _, _, rfl, hg⟩; have BZ2 := Lib.hid hz; clear hg hz)
      have HD2 := Lib.hid (bcomp HD1.out BZ2.out)
      have HK2 : Hid (∀ b ∈ [a2.heap.size + 1], W2.heap[b]? = W.heap[b]?) := fun b hb => (BZ2.out.block b (by have := HSL.out b hb; have := HD1.out.size; omega)).trans (HK1.out b hb)
      refine ⟨by first | exact ⟨_, keepS_of HK2.out⟩ | exact fun _ => ⟨_, keepS_of HK2.out⟩, ?_⟩
      refine mix_now ?_
      refine mix_step rfl ?_
      go_wp2_with (go_at_call 29; refine (HC7.out _).mono ?_; rintro e W3 ⟨vc, rfl, hr, hz⟩; obtain ⟨vc1, vc2, rfl⟩ := hr.is; have HRC := Lib.hid hr; have BZ3 := Lib.hid hz; clear hr hz)
      have HD3 := Lib.hid (bcomp HD2.out BZ3.out)
      have HK3 : Hid (∀ b ∈ [a2.heap.size + 1], W3.heap[b]? = W.heap[b]?) := fun b hb => (BZ3.out.block b (by have := HSL.out b hb; have := HD2.out.size; omega)).trans (HK2.out b hb)
      refine ⟨by first | exact ⟨_, keepS_of HK3.out⟩ | exact fun _ => ⟨_, keepS_of HK3.out⟩, ?_⟩
      refine mix_now ?_
      refine mix_step rfl ?_
      have hmk := make_good G q #[.int .i64 G.width, .int .i64 G.regs, .slice gca G.chans.length gcc, .slice gsa G.sites.length gsc, .slice gaa G.arrays.length gac, .slice gka G.code.length gkc] #[.slice la q.levels.length lc, .slice oa q.order.length oc, .slice ba q.chans.length bc, .slice da q.sites.length dc, .bool q.sens, .int .i64 q.steps, .int .i64 q.paths, .int .i64 q.nodes, .int .i64 q.confs] 0 _ _ LB LC W3 (HGC.out.keep BZ3.out) (HPW.out.keep HD3.out) (HLW.out.keep HD3.out) (HTW.out.keep HD3.out) ⟨by decide, by decide⟩ (HRB.out.keep HD3.out) HRC.out HSB.out HSC.out HX5.out
      rw [HX6.out] at hmk
      have HMK := Lib.hid hmk
      clear hmk
      go_wp2_with (go_at_call 32; refine HMK.out.mono ?_; rintro e W4 ⟨wa, wsa, wb, wsb, rfl, ho1, ho2, hz⟩; obtain ⟨wa1, wa2, rfl, -⟩ := own_read ho1.own; obtain ⟨wb1, wb2, rfl, -⟩ := own_read ho2.own; have BZ4 := Lib.hid hz; clear ho1 ho2 hz)
      clear HMK
      have HD4 := Lib.hid (bcomp HD3.out BZ4.out)
      have HK4 : Hid (∀ b ∈ [a2.heap.size + 1], W4.heap[b]? = W.heap[b]?) := fun b hb => (BZ4.out.block b (by have := HSL.out b hb; have := HD3.out.size; omega)).trans (HK3.out b hb)
      refine ⟨by first | exact ⟨_, keepS_of HK4.out⟩ | exact fun _ => ⟨_, keepS_of HK4.out⟩, ?_⟩
      refine mix_one (by simp only [opsOf, List.filterMap_cons, List.filterMap_nil, List.getElem?_toArray, List.getElem?_cons_succ, List.getElem?_cons_zero]; rfl) ⟨_, keepS_of HK4.out⟩ ?_
      change wpQuiet _ _ _ _ [_, _, _] _
      (repeat (go_big_quiet_step (fail)))
      refine wpQuiet_nil ?_
      refine mix_step rfl ?_
      have HZ9 := Lib.hid (((BZ4.out.block _ (Array.getElem?_eq_some_iff.1 (((BZ3.out.block _ (Array.getElem?_eq_some_iff.1 (((BZ2.out.block _ (Array.getElem?_eq_some_iff.1 (HZ0.out)).1).trans (HZ0.out)))).1).trans (((BZ2.out.block _ (Array.getElem?_eq_some_iff.1 (HZ0.out)).1).trans (HZ0.out)))))).1).trans (((BZ3.out.block _ (Array.getElem?_eq_some_iff.1 (((BZ2.out.block _ (Array.getElem?_eq_some_iff.1 (HZ0.out)).1).trans (HZ0.out)))).1).trans (((BZ2.out.block _ (Array.getElem?_eq_some_iff.1 (HZ0.out)).1).trans (HZ0.out)))))))
      simp only [Act.put, List.setIfInBounds_toArray, List.set_cons_succ, List.set_cons_zero, List.getElem_toArray, List.getElem_cons_succ, List.getElem_cons_zero]
      go_wp2_with (refine wpList_store_row rfl 65 (.tmp 9) (.tmp 53) rfl gz #[.int .i64 0, .slice wa1 wsa.length wa2, .slice wb1 wsb.length wb2, .bool false] rfl rfl 65 #[.int .i64 0, .slice none 0 0, .slice none 0 0, .bool false] ?h4 (by as_aux_lemma => kernel_rfl) (by as_aux_lemma => kernel_rfl) (by as_aux_lemma => kernel_rfl) ?_; exact HZ9.out)
      try simp only [Act.put]
      have hne : ∀ b, b ≠ gz → (W4.setRow gz #[.int .i64 0, .slice wa1 wsa.length wa2, .slice wb1 wsb.length wb2, .bool false]).heap[b]? = W4.heap[b]? := fun b h => setRow_other _ _ _ _ h
      have hbw : Below W.heap.size W (W4.setRow gz #[.int .i64 0, .slice wa1 wsa.length wa2, .slice wb1 wsb.length wb2, .bool false]) := below_row HD4.out hgz _
      have hgz2 : (W4.setRow gz #[.int .i64 0, .slice wa1 wsa.length wa2, .slice wb1 wsb.length wb2, .bool false]).heap[gz]? = some (.cells #[.int .i64 0, .slice wa1 wsa.length wa2, .slice wb1 wsb.length wb2, .bool false] 65 (0, 0)) := setRow_heap _ _ _ _ _ _ HZ9.out
      have hks : ∀ b ∈ [a2.heap.size + 1], (W4.setRow gz #[.int .i64 0, .slice wa1 wsa.length wa2, .slice wb1 wsb.length wb2, .bool false]).heap[b]? = W.heap[b]? := fun b hb => (hne b (by have hlt := HSL.out b hb; omega)).trans (HK4.out b hb)
      refine ⟨by first | exact ⟨_, keepS_of hks⟩ | exact fun _ => ⟨_, keepS_of hks⟩, ?_⟩
      refine mix_fin (by simp only [opsOf, List.filterMap_cons, List.filterMap_nil, List.getElem?_toArray, List.getElem?_cons_succ, List.getElem?_cons_zero]; rfl) ⟨_, keepS_of hks⟩ ?_
      change wpQuiet _ _ _ _ [_] _
      (repeat (go_big_quiet_step (fail)))
      refine wpQuiet_nil ?_
      go_wp2_with fail
      go_meet
      exact ⟨gz, rfl, rfl, row_of hgz2 3 _ rfl, hbw⟩
  case rest =>
    obtain ⟨gz, rfl, rfl, hg3, hbv⟩ := hcut
    obtain ⟨V, rfl⟩ : ∃ x : World, x = wc := ⟨_, rfl⟩
    have HAW := Lib.hid (awake7_any V (HLW.out.keep hbv) (HTW.out.keep hbv))
    have HBV := Lib.hid (bcomp HBW.out hbv)
    clear hbv
    go_wp2_with (go_at_call 33; refine HAW.out.mono ?_; rintro e V2 ⟨rfl, hz⟩; have B9 := Lib.hid (bcomp HBV.out hz); clear hz)
    go_ret
    exact ⟨rfl, B9.out⟩
end Go.Proofs.YtkjkpddajjmloaaDoor
