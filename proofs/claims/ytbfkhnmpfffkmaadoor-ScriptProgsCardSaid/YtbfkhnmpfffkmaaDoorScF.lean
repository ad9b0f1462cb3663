/- The walk of ScriptLess. Conditions: the strings' sizes are valid. -/
import Derived.Test.YtbfkhnmpfffkmaaDoorScE
import Derived.Laws.Concat
import Derived.Deep.RegionWith
set_option linter.unusedVariables false
set_option linter.unusedSimpArgs false
set_option linter.unnecessarySimpa false
namespace Go.Proofs.YtbfkhnmpfffkmaaDoor
open Go.Maps (Keyed int_keyed)
open Go.WideShapes Go.ChangeMaps Go.MapKept Go.WideMaps Go.ChangeAt Go.RowKit Go.ChangeShapes
theorem mix_endH' {P : Program} {ops : Array Oper} {Q : Exit → Act → World → Prop} {C : World → Prop} {E : Nat → Bool} {a : Act} {w : World} (h : Q .normal a w) : mixRun P ops Q C E (.fin []) a w := h
theorem eqL_self {α : Type} {f : α → α → Bool} (hf : ∀ x, f x x = true) : ∀ l : List α, eqL f l l = true
  | [] => rfl
  | x :: r => by rw [eqL, hf, eqL_self hf r]; rfl
theorem eqInstr_self (x : InstrD) : eqInstr x x = true := by simp [eqInstr, eqL_self (f := eqArg) (fun x => by simp [eqArg])]
theorem ba_list (s : ByteArray) : (⟨s.data.toList.toArray⟩ : ByteArray) = s := by
  apply ByteArray.ext
  simp
theorem ba_two (s t : ByteArray) : (⟨(s.data.toList ++ t.data.toList).toArray⟩ : ByteArray) = s ++ t := by
  apply ByteArray.ext
  simp
theorem prog_str (s : ByteArray) (w : World) : Calls Tryd.prog 9 #[.string s] w fun e w' => ∃ cv av fv mv, e = .returned (.agg #[.int .i64 (progS s.data.toList).width, cv, av, fv, mv]) ∧ RdProg (some (upFrom w.heap.size)) w' (progS s.data.toList) cv av fv mv ∧ Below w.heap.size w w' := by
  have h := prog_any s.data.toList w
  rw [ba_list] at h
  exact h
theorem blank_jump {x : InstrD} (h : x.kind = 8 ∨ x.kind = 9) : blankI x = { x with name := ⟨#[]⟩ } := by unfold blankI; rw [if_pos h]; rfl
theorem blank_other {x : InstrD} (h : ¬ (x.kind = 8 ∨ x.kind = 9)) : blankI x = x := by unfold blankI; rw [if_neg h]
theorem blank_kind (x : InstrD) : (blankI x).kind = x.kind := by unfold blankI; split <;> rfl
theorem bare_short (l : List UInt8) : (bareS (progS l).main).length ≤ 42 := by
  have h := main_short l
  have : (bareS (progS l).main).length ≤ (progS l).main.length := List.length_filter_le ..
  omega
set_option maxRecDepth 100000 in
set_option maxHeartbeats 6400000 in
theorem less_walk (s t : ByteArray) (w : World) (hs : s.size ≤ maxLen) (ht : t.size ≤ maxLen) :
    Calls Tryd.prog 4 #[.string s, .string t] w fun e w' => e = .returned (.bool true) ∧ Below w.heap.size w w' := by
  have KN : ∀ z, Hid (Calls Tryd.prog 7 #[] z fun e w' => e = .returned (.bool true) ∧ Below z.heap.size z w') := fun z => known_any z
  by_cases hl1 : 400 < s.size
  · have hlong1 : (400 : Int) < (s.size : Int) := by omega
    have HK := Lib.hid (KN w).out
    clear KN
    go_enter Tryd.func4, Tryd.ntmps4
    go_wp2_with (go_at_call 7; refine HK.out.mono ?_; rintro e z ⟨rfl, hz⟩)
    go_ret
    exact ⟨rfl, hz⟩
  have hlong1 : ¬ (400 : Int) < (s.size : Int) := by omega
  by_cases hl2 : 400 < t.size
  · have hlong2 : (400 : Int) < (t.size : Int) := by omega
    have HK := Lib.hid (KN w).out
    clear KN
    go_enter Tryd.func4, Tryd.ntmps4
    go_wp2_with (go_at_call 7; refine HK.out.mono ?_; rintro e z ⟨rfl, hz⟩)
    go_ret
    exact ⟨rfl, hz⟩
  have hlong2 : ¬ (400 : Int) < (t.size : Int) := by omega
  have hsum : ¬ 9223372036854775807 < s.size + t.size := by omega
  obtain ⟨P1, hP1⟩ : ∃ P, progS s.data.toList = P := ⟨_, rfl⟩
  obtain ⟨P2, hP2⟩ : ∃ P, progS (s.data.toList ++ t.data.toList) = P := ⟨_, rfl⟩
  have HP1 : ∀ z, Hid (Calls Tryd.prog 9 #[.string s] z fun e w' => ∃ cv av fv mv, e = .returned (.agg #[.int .i64 P1.width, cv, av, fv, mv]) ∧ RdProg (some (upFrom z.heap.size)) w' P1 cv av fv mv ∧ Below z.heap.size z w') := fun z => by have h := prog_str s z; rw [hP1] at h; exact h
  obtain ⟨st, hst⟩ : ∃ st, s ++ t = st := ⟨_, rfl⟩
  have hadd : ∀ z, (Op.stringOp .add s t).run Tryd.prog z = .ok (.string st) z := fun z => by rw [← hst]; exact run_string_add_sum (P := Tryd.prog) (w := z) s t (by omega)
  have HP2 : ∀ z, Hid (Calls Tryd.prog 9 #[.string st] z fun e w' => ∃ cv av fv mv, e = .returned (.agg #[.int .i64 P2.width, cv, av, fv, mv]) ∧ RdProg (some (upFrom z.heap.size)) w' P2 cv av fv mv ∧ Below z.heap.size z w') := fun z => by have h := prog_any (s.data.toList ++ t.data.toList) z; rw [ba_two, hst, hP2] at h; exact h
  have hfm := fun (v0 v1 v2 v3 v4 : Value) (z : World) => fieldMain v0 v1 v2 v3 v4 z
  obtain ⟨hll, hla⟩ := less_law s.data.toList t.data.toList
  rw [hP1, hP2] at hll hla
  have HLL := Lib.hid hll
  have HLA := Lib.hid hla
  clear hll hla
  have HS1 : Hid ((bareS P1.main).length ≤ 42) := by show _ ≤ _; rw [← hP1]; exact bare_short _
  have HS2 : Hid ((bareS P2.main).length ≤ 42) := by show _ ≤ _; rw [← hP2]; exact bare_short _
  have HM1 : Hid (P1.main.length ≤ 42) := by show _ ≤ _; rw [← hP1]; exact main_short _
  have HM2 : Hid (P2.main.length ≤ 42) := by show _ ≤ _; rw [← hP2]; exact main_short _
  clear hP1 hP2 hl1 hl2 hadd hs ht
  go_enter Tryd.func4, Tryd.ntmps4
  go_upto_region 4 with (first | (go_at_call_of 9 (Value.string s); refine (HP1 _).out.mono ?_; rintro e z1 ⟨cv, av, fv, mv1, rfl, hr, hbz⟩; have HR1 := Lib.hid hr.forget.2.2.2.1; have HB1 := Lib.hid hbz; clear hr hbz) | (go_at_call_of 11 mv1; refine (bare_any mv1 _ z1 HR1.out (by have := HM1.out; omega)).mono ?_; rintro e z2 ⟨bv1, rfl, hr2, hbz2⟩; have HR2 := Lib.hid hr2; have HB2 := Lib.hid hbz2; clear hr2 hbz2) | (go_at_call_of 9 (Value.string st); refine (HP2 _).out.mono ?_; rintro e z3 ⟨cv2, av2, fv2, mv2, rfl, hr, hbz⟩; have HR3 := Lib.hid hr.forget.2.2.2.1; have HB3 := Lib.hid hbz; clear hr hbz) | (go_at_call_of 11 mv2; refine (bare_any mv2 _ z3 HR3.out (by have := HM2.out; omega)).mono ?_; rintro e z4 ⟨bv2, rfl, hr4, hbz4⟩; have HR4 := Lib.hid hr4; have HB4 := Lib.hid hbz4; clear hr4 hbz4))
  clear HP1 HP2 hfm HM1 HM2
  have HRA := Lib.hid (HR2.out.keep (bcomp HB3.out HB4.out))
  have HBZ := Lib.hid (bcomp (bcomp (bcomp HB1.out HB2.out) HB3.out) HB4.out)
  clear HR1 HR2 HR3 HB1 HB2 HB3 HB4
  generalize bareS P1.main = A at *
  generalize bareS P2.main = B at *
  obtain ⟨aa, ca, rfl, -, -⟩ := id HRA.out
  obtain ⟨ab, cb, rfl, -, -⟩ := id HR4.out
  have hle : A.length ≤ B.length := HLL.out
  have hA42 : A.length ≤ 42 := HS1.out
  have hB42 : B.length ≤ 42 := HS2.out
  have hgt : ¬ (B.length : Int) < (A.length : Int) := by omega
  go_upto_region 6 with fail
  go_upto_region 7 with fail
  go_loopw [7, 8, 9] (fun i _ _ wr => ∃ k : Nat, i = .int .i64 k ∧ k ≤ 100 ∧ Below z4.heap.size z4 wr) (fun i _ _ _ => 100 - (intOf i).toNat)
  case atStart => exact ⟨0, rfl, by omega, Below.refl _ _⟩
  case round =>
    obtain ⟨k, rfl, hk, hb⟩ := hrel
    obtain ⟨wl, rfl⟩ : ∃ x : World, x = wr := ⟨_, rfl⟩
    have HBL := Lib.hid hb
    clear hb
    by_cases hlt : k + 1 < A.length
    · have hlt1 : (k : Int) + 1 < (A.length : Int) := by omega
      --[[ body
      obtain ⟨x, hx⟩ : ∃ x, A[k]? = some x := ⟨_, List.getElem?_eq_getElem (by omega)⟩
      obtain ⟨y, hy⟩ : ∃ y, B[k]? = some y := ⟨_, List.getElem?_eq_getElem (by omega)⟩
      have HEQ := Lib.hid (HLA.out k x y hlt hx hy)
      have hkA : (k : Int) < (A.length : Int) := by omega
      have hkB : (k : Int) < (B.length : Int) := by omega
      obtain ⟨ga, oa, ca', ax, he, a0, a1, a2, a3, a4, a5, a6, hix⟩ := (HRA.out.keep HBL.out).at' hx
      simp only [Value.slice.injEq, true_and] at he
      obtain ⟨rfl, rfl⟩ := he
      obtain ⟨gb, ob, cb', ay, he, b0, b1, b2, b3, b4, b5, b6, hiy⟩ := (HR4.out.keep HBL.out).at' hy
      simp only [Value.slice.injEq, true_and] at he
      obtain ⟨rfl, rfl⟩ := he
      obtain ⟨xa, xc, rfl, -⟩ := id hix.1
      obtain ⟨ya, yc, rfl, -⟩ := id hiy.1
      have HIX := Lib.hid hix
      have HIY := Lib.hid hiy
      have gga : ga < wl.heap.size := block_lt_of_cell a0
      have ggb : gb < wl.heap.size := block_lt_of_cell b0
      have HSL : Hid (∀ b ∈ [ga, gb], b < wl.heap.size) := by
        intro b hb
        simp only [List.mem_cons, List.not_mem_nil, or_false] at hb
        rcases hb with rfl | rfl <;> assumption
      have qa0 := keepS_cell (S := [ga, gb]) (by simp) a0
      have qb0 := keepS_cell (S := [ga, gb]) (by simp) b0
      have qa1 := keepS_cell (S := [ga, gb]) (by simp) a1
      have qb1 := keepS_cell (S := [ga, gb]) (by simp) b1
      have qa2 := keepS_cell (S := [ga, gb]) (by simp) a2
      have qb2 := keepS_cell (S := [ga, gb]) (by simp) b2
      have qa3 := keepS_cell (S := [ga, gb]) (by simp) a3
      have qb3 := keepS_cell (S := [ga, gb]) (by simp) b3
      have qa4 := keepS_cell (S := [ga, gb]) (by simp) a4
      have qb4 := keepS_cell (S := [ga, gb]) (by simp) b4
      have qa5 := keepS_cell (S := [ga, gb]) (by simp) a5
      have qb5 := keepS_cell (S := [ga, gb]) (by simp) b5
      have qa6 := keepS_cell (S := [ga, gb]) (by simp) a6
      have qb6 := keepS_cell (S := [ga, gb]) (by simp) b6
      clear hix hiy hx hy a0 b0 a1 b1 a2 b2 a3 b3 a4 b4 a5 b5 a6 b6
      have C0 : True := trivial
      go_upto_region 9 with fail
      go_cut [8, 9] from 41 to 48 (fun c8 c9 wx => ∃ g1 g2 : Nat, c8 = .pointer (some ⟨g1, 0, none⟩) ∧ c9 = .pointer (some ⟨g2, 0, none⟩) ∧ g1 ≠ g2 ∧ wl.heap.size ≤ g1 ∧ wl.heap.size ≤ g2 ∧ wx.heap[g1]? = some (.cells #[.int .u8 x.kind, .int .u8 x.op, .string x.dst, .string x.name, .slice xa x.args.length xc, .int .i64 x.line, .int .i64 x.col] 37 (0, 0)) ∧ wx.heap[g2]? = some (.cells #[.int .u8 y.kind, .int .u8 y.op, .string y.dst, .string y.name, .slice ya y.args.length yc, .int .i64 y.line, .int .i64 y.col] 37 (0, 0)) ∧ Below wl.heap.size wl wx)
      case first =>
        have HDR : Hid (∀ b : Nat, wl.drew.heap[b]? = wl.heap[b]?) := fun _ => rfl
        have HD00 : Hid (Below wl.heap.size wl wl.drew) := (Below.refl _ _).drew
        refine wp_region_mixS [ga, gb] (.two [0, 1, 2, 3, 4, 5, 6, 7] 8 9 (.one [] 9 (.one [] 10 (.one [] 11 (.fin [])))) (.one [] 8 (.one [] 10 (.one [] 11 (.fin []))))) (fun _ => false) (by kernel_rfl) (by kernel_rfl) rfl (by kernel_rfl) (fun _ d _ _ _ h => by cases d <;> exact h) ?_
        generalize wl.drew = W0 at *
        have HD0 : Hid (Below wl.heap.size wl W0) := HD00.out
        have HK0 : Hid (∀ b ∈ [ga, gb], W0.heap[b]? = wl.heap[b]?) := fun b _ => HDR.out b
        refine mix_two (by simp only [opsOf, List.filterMap_cons, List.filterMap_nil, List.getElem?_toArray, List.getElem?_cons_succ, List.getElem?_cons_zero]; rfl) ⟨_, keepS_of HK0.out⟩ ?_
        change wpQuiet _ _ _ _ [_, _, _, _, _, _, _, _] _
        (repeat (go_big_quiet_step (fail)))
        clear qa0 qb0 qa1 qb1 qa2 qb2 qa3 qb3 qa4 qb4 qa5 qb5 qa6 qb6
        refine wpQuiet_nil ?_
        refine ⟨?_, ?_⟩
        · refine mix_step rfl ?_
          go_wp2_with fail
          have hz : Below W0.heap.size W0 (W0.alloc (.cells #[.int .u8 0, .int .u8 0, .string ⟨#[]⟩, .string ⟨#[]⟩, .slice none 0 0, .int .i64 0, .int .i64 0] 37)) := (Below.refl _ _).alloc (Nat.le_refl _) _
          have Bg1 := Lib.hid hz
          have Hg1 := Lib.hid (heap_alloc_new W0 (.cells #[.int .u8 0, .int .u8 0, .string ⟨#[]⟩, .string ⟨#[]⟩, .slice none 0 0, .int .i64 0, .int .i64 0] 37))
          have hzg1 : wl.heap.size ≤ W0.heap.size := HD0.out.size
          clear hz
          obtain ⟨g1, hg⟩ : ∃ g, W0.heap.size = g := ⟨_, rfl⟩
          rw [hg] at Hg1 hzg1
          try rw [hg]
          clear hg
          generalize W0.alloc (.cells #[.int .u8 0, .int .u8 0, .string ⟨#[]⟩, .string ⟨#[]⟩, .slice none 0 0, .int .i64 0, .int .i64 0] 37) = W1 at *
          have HD1 := Lib.hid (bcomp HD0.out Bg1.out)
          have HK1 : Hid (∀ b ∈ [ga, gb], W1.heap[b]? = wl.heap[b]?) := fun b hb => (Bg1.out.block b (by have := HSL.out b hb; have := HD0.out.size; omega)).trans (HK0.out b hb)
          refine ⟨by first | exact ⟨_, keepS_of HK1.out⟩ | exact fun _ => ⟨_, keepS_of HK1.out⟩, ?_⟩
          refine mix_now ?_
          refine mix_step rfl ?_
          go_wp2_with fail
          have hz : Below W1.heap.size W1 (W1.alloc (.cells #[.int .u8 0, .int .u8 0, .string ⟨#[]⟩, .string ⟨#[]⟩, .slice none 0 0, .int .i64 0, .int .i64 0] 37)) := (Below.refl _ _).alloc (Nat.le_refl _) _
          have Bg2 := Lib.hid hz
          have Hg2 := Lib.hid (heap_alloc_new W1 (.cells #[.int .u8 0, .int .u8 0, .string ⟨#[]⟩, .string ⟨#[]⟩, .slice none 0 0, .int .i64 0, .int .i64 0] 37))
          have hzg2 : wl.heap.size ≤ W1.heap.size := HD1.out.size
          clear hz
          have hltg2 : g1 < W1.heap.size := (Array.getElem?_eq_some_iff.1 Hg1.out).1
          obtain ⟨g2, hg⟩ : ∃ g, W1.heap.size = g := ⟨_, rfl⟩
          rw [hg] at Hg2 hzg2 hltg2
          try rw [hg]
          have Hg1' := Lib.hid ((Bg2.out.block _ (by omega)).trans Hg1.out)
          clear hg
          generalize W1.alloc (.cells #[.int .u8 0, .int .u8 0, .string ⟨#[]⟩, .string ⟨#[]⟩, .slice none 0 0, .int .i64 0, .int .i64 0] 37) = W2 at *
          have HD2 := Lib.hid (bcomp HD1.out Bg2.out)
          have HK2 : Hid (∀ b ∈ [ga, gb], W2.heap[b]? = wl.heap[b]?) := fun b hb => (Bg2.out.block b (by have := HSL.out b hb; have := HD1.out.size; omega)).trans (HK1.out b hb)
          refine ⟨by first | exact ⟨_, keepS_of HK2.out⟩ | exact fun _ => ⟨_, keepS_of HK2.out⟩, ?_⟩
          refine mix_now ?_
          have hne : g1 ≠ g2 := by omega
          have HA1 := Lib.hid Hg1'.out
          have HA2 := Lib.hid Hg2.out
          refine mix_step rfl ?_
          simp only [Act.put, List.setIfInBounds_toArray, List.set_cons_succ, List.set_cons_zero, List.getElem_toArray, List.getElem_cons_succ, List.getElem_cons_zero]
          go_wp2_with (refine wpList_store_row rfl 37 (.tmp 8) (.tmp 44) rfl g1 #[.int .u8 x.kind, .int .u8 x.op, .string x.dst, .string x.name, .slice xa x.args.length xc, .int .i64 x.line, .int .i64 x.col] rfl rfl 37 #[.int .u8 0, .int .u8 0, .string ⟨#[]⟩, .string ⟨#[]⟩, .slice none 0 0, .int .i64 0, .int .i64 0] HA1.out (by as_aux_lemma => kernel_rfl) (by as_aux_lemma => kernel_rfl) (by as_aux_lemma => kernel_rfl) ?_)
          try simp only [Act.put]
          have hx2 := (setRow_other W2 g1 g2 #[.int .u8 x.kind, .int .u8 x.op, .string x.dst, .string x.name, .slice xa x.args.length xc, .int .i64 x.line, .int .i64 x.col] (fun e => hne e.symm)).trans HA2.out
          have hx1 : (W2.setRow g1 #[.int .u8 x.kind, .int .u8 x.op, .string x.dst, .string x.name, .slice xa x.args.length xc, .int .i64 x.line, .int .i64 x.col]).heap[g1]? = some (.cells #[.int .u8 x.kind, .int .u8 x.op, .string x.dst, .string x.name, .slice xa x.args.length xc, .int .i64 x.line, .int .i64 x.col] 37 (0, 0)) := setRow_heap _ _ _ _ _ _ HA1.out
          have hks : ∀ b ∈ [ga, gb], (W2.setRow g1 #[.int .u8 x.kind, .int .u8 x.op, .string x.dst, .string x.name, .slice xa x.args.length xc, .int .i64 x.line, .int .i64 x.col]).heap[b]? = wl.heap[b]? := fun b hb => (setRow_other _ _ _ _ (by have := HSL.out b hb; omega)).trans (HK2.out b hb)
          have HD3 : Hid (Below wl.heap.size wl (W2.setRow g1 #[.int .u8 x.kind, .int .u8 x.op, .string x.dst, .string x.name, .slice xa x.args.length xc, .int .i64 x.line, .int .i64 x.col])) := below_row HD2.out hzg1 _
          have HX1 := Lib.hid hx1
          have HX2 := Lib.hid hx2
          have HKS := Lib.hid hks
          clear hx1 hx2 hks
          generalize W2.setRow g1 #[.int .u8 x.kind, .int .u8 x.op, .string x.dst, .string x.name, .slice xa x.args.length xc, .int .i64 x.line, .int .i64 x.col] = W3 at *
          refine ⟨by first | exact ⟨_, keepS_of HKS.out⟩ | exact fun _ => ⟨_, keepS_of HKS.out⟩, ?_⟩
          refine mix_now ?_
          refine mix_step rfl ?_
          try (simp only [Act.put, List.setIfInBounds_toArray, List.set_cons_succ, List.set_cons_zero, List.getElem_toArray, List.getElem_cons_succ, List.getElem_cons_zero])
          go_wp2_with (refine wpList_store_row rfl 37 (.tmp 9) (.tmp 48) rfl g2 #[.int .u8 y.kind, .int .u8 y.op, .string y.dst, .string y.name, .slice ya y.args.length yc, .int .i64 y.line, .int .i64 y.col] rfl rfl 37 #[.int .u8 0, .int .u8 0, .string ⟨#[]⟩, .string ⟨#[]⟩, .slice none 0 0, .int .i64 0, .int .i64 0] HX2.out (by as_aux_lemma => kernel_rfl) (by as_aux_lemma => kernel_rfl) (by as_aux_lemma => kernel_rfl) ?_)
          try simp only [Act.put]
          have hy1 := (setRow_other W3 g2 g1 #[.int .u8 y.kind, .int .u8 y.op, .string y.dst, .string y.name, .slice ya y.args.length yc, .int .i64 y.line, .int .i64 y.col] hne).trans HX1.out
          have hy2 : (W3.setRow g2 #[.int .u8 y.kind, .int .u8 y.op, .string y.dst, .string y.name, .slice ya y.args.length yc, .int .i64 y.line, .int .i64 y.col]).heap[g2]? = some (.cells #[.int .u8 y.kind, .int .u8 y.op, .string y.dst, .string y.name, .slice ya y.args.length yc, .int .i64 y.line, .int .i64 y.col] 37 (0, 0)) := setRow_heap _ _ _ _ _ _ HX2.out
          have hks : ∀ b ∈ [ga, gb], (W3.setRow g2 #[.int .u8 y.kind, .int .u8 y.op, .string y.dst, .string y.name, .slice ya y.args.length yc, .int .i64 y.line, .int .i64 y.col]).heap[b]? = wl.heap[b]? := fun b hb => (setRow_other _ _ _ _ (by have := HSL.out b hb; omega)).trans (HKS.out b hb)
          have hd4 : Below wl.heap.size wl (W3.setRow g2 #[.int .u8 y.kind, .int .u8 y.op, .string y.dst, .string y.name, .slice ya y.args.length yc, .int .i64 y.line, .int .i64 y.col]) := below_row HD3.out hzg2 _
          refine ⟨by first | exact ⟨_, keepS_of hks⟩ | exact fun _ => ⟨_, keepS_of hks⟩, ?_⟩
          refine mix_endH' ?_
          go_wp2_with fail
          go_meet
          exact ⟨g1, g2, rfl, rfl, hne, hzg1, hzg2, hy1, hy2, hd4⟩
        · refine mix_step rfl ?_
          go_wp2_with fail
          have hz : Below W0.heap.size W0 (W0.alloc (.cells #[.int .u8 0, .int .u8 0, .string ⟨#[]⟩, .string ⟨#[]⟩, .slice none 0 0, .int .i64 0, .int .i64 0] 37)) := (Below.refl _ _).alloc (Nat.le_refl _) _
          have Bg2 := Lib.hid hz
          have Hg2 := Lib.hid (heap_alloc_new W0 (.cells #[.int .u8 0, .int .u8 0, .string ⟨#[]⟩, .string ⟨#[]⟩, .slice none 0 0, .int .i64 0, .int .i64 0] 37))
          have hzg2 : wl.heap.size ≤ W0.heap.size := HD0.out.size
          clear hz
          obtain ⟨g2, hg⟩ : ∃ g, W0.heap.size = g := ⟨_, rfl⟩
          rw [hg] at Hg2 hzg2
          try rw [hg]
          clear hg
          generalize W0.alloc (.cells #[.int .u8 0, .int .u8 0, .string ⟨#[]⟩, .string ⟨#[]⟩, .slice none 0 0, .int .i64 0, .int .i64 0] 37) = W1 at *
          have HD1 := Lib.hid (bcomp HD0.out Bg2.out)
          have HK1 : Hid (∀ b ∈ [ga, gb], W1.heap[b]? = wl.heap[b]?) := fun b hb => (Bg2.out.block b (by have := HSL.out b hb; have := HD0.out.size; omega)).trans (HK0.out b hb)
          refine ⟨by first | exact ⟨_, keepS_of HK1.out⟩ | exact fun _ => ⟨_, keepS_of HK1.out⟩, ?_⟩
          refine mix_now ?_
          refine mix_step rfl ?_
          go_wp2_with fail
          have hz : Below W1.heap.size W1 (W1.alloc (.cells #[.int .u8 0, .int .u8 0, .string ⟨#[]⟩, .string ⟨#[]⟩, .slice none 0 0, .int .i64 0, .int .i64 0] 37)) := (Below.refl _ _).alloc (Nat.le_refl _) _
          have Bg1 := Lib.hid hz
          have Hg1 := Lib.hid (heap_alloc_new W1 (.cells #[.int .u8 0, .int .u8 0, .string ⟨#[]⟩, .string ⟨#[]⟩, .slice none 0 0, .int .i64 0, .int .i64 0] 37))
          have hzg1 : wl.heap.size ≤ W1.heap.size := HD1.out.size
          clear hz
          have hltg1 : g2 < W1.heap.size := (Array.getElem?_eq_some_iff.1 Hg2.out).1
          obtain ⟨g1, hg⟩ : ∃ g, W1.heap.size = g := ⟨_, rfl⟩
          rw [hg] at Hg1 hzg1 hltg1
          try rw [hg]
          have Hg2' := Lib.hid ((Bg1.out.block _ (by omega)).trans Hg2.out)
          clear hg
          generalize W1.alloc (.cells #[.int .u8 0, .int .u8 0, .string ⟨#[]⟩, .string ⟨#[]⟩, .slice none 0 0, .int .i64 0, .int .i64 0] 37) = W2 at *
          have HD2 := Lib.hid (bcomp HD1.out Bg1.out)
          have HK2 : Hid (∀ b ∈ [ga, gb], W2.heap[b]? = wl.heap[b]?) := fun b hb => (Bg1.out.block b (by have := HSL.out b hb; have := HD1.out.size; omega)).trans (HK1.out b hb)
          refine ⟨by first | exact ⟨_, keepS_of HK2.out⟩ | exact fun _ => ⟨_, keepS_of HK2.out⟩, ?_⟩
          refine mix_now ?_
          have hne : g1 ≠ g2 := by omega
          have HA1 := Lib.hid Hg1.out
          have HA2 := Lib.hid Hg2'.out
          refine mix_step rfl ?_
          simp only [Act.put, List.setIfInBounds_toArray, List.set_cons_succ, List.set_cons_zero, List.getElem_toArray, List.getElem_cons_succ, List.getElem_cons_zero]
          go_wp2_with (refine wpList_store_row rfl 37 (.tmp 8) (.tmp 44) rfl g1 #[.int .u8 x.kind, .int .u8 x.op, .string x.dst, .string x.name, .slice xa x.args.length xc, .int .i64 x.line, .int .i64 x.col] rfl rfl 37 #[.int .u8 0, .int .u8 0, .string ⟨#[]⟩, .string ⟨#[]⟩, .slice none 0 0, .int .i64 0, .int .i64 0] HA1.out (by as_aux_lemma => kernel_rfl) (by as_aux_lemma => kernel_rfl) (by as_aux_lemma => kernel_rfl) ?_)
          try simp only [Act.put]
          have hx2 := (setRow_other W2 g1 g2 #[.int .u8 x.kind, .int .u8 x.op, .string x.dst, .string x.name, .slice xa x.args.length xc, .int .i64 x.line, .int .i64 x.col] (fun e => hne e.symm)).trans HA2.out
          have hx1 : (W2.setRow g1 #[.int .u8 x.kind, .int .u8 x.op, .string x.dst, .string x.name, .slice xa x.args.length xc, .int .i64 x.line, .int .i64 x.col]).heap[g1]? = some (.cells #[.int .u8 x.kind, .int .u8 x.op, .string x.dst, .string x.name, .slice xa x.args.length xc, .int .i64 x.line, .int .i64 x.col] 37 (0, 0)) := setRow_heap _ _ _ _ _ _ HA1.out
          have hks : ∀ b ∈ [ga, gb], (W2.setRow g1 #[.int .u8 x.kind, .int .u8 x.op, .string x.dst, .string x.name, .slice xa x.args.length xc, .int .i64 x.line, .int .i64 x.col]).heap[b]? = wl.heap[b]? := fun b hb => (setRow_other _ _ _ _ (by have := HSL.out b hb; omega)).trans (HK2.out b hb)
          have HD3 : Hid (Below wl.heap.size wl (W2.setRow g1 #[.int .u8 x.kind, .int .u8 x.op, .string x.dst, .string x.name, .slice xa x.args.length xc, .int .i64 x.line, .int .i64 x.col])) := below_row HD2.out hzg1 _
          have HX1 := Lib.hid hx1
          have HX2 := Lib.hid hx2
          have HKS := Lib.hid hks
          clear hx1 hx2 hks
          generalize W2.setRow g1 #[.int .u8 x.kind, .int .u8 x.op, .string x.dst, .string x.name, .slice xa x.args.length xc, .int .i64 x.line, .int .i64 x.col] = W3 at *
          refine ⟨by first | exact ⟨_, keepS_of HKS.out⟩ | exact fun _ => ⟨_, keepS_of HKS.out⟩, ?_⟩
          refine mix_now ?_
          refine mix_step rfl ?_
          try (simp only [Act.put, List.setIfInBounds_toArray, List.set_cons_succ, List.set_cons_zero, List.getElem_toArray, List.getElem_cons_succ, List.getElem_cons_zero])
          go_wp2_with (refine wpList_store_row rfl 37 (.tmp 9) (.tmp 48) rfl g2 #[.int .u8 y.kind, .int .u8 y.op, .string y.dst, .string y.name, .slice ya y.args.length yc, .int .i64 y.line, .int .i64 y.col] rfl rfl 37 #[.int .u8 0, .int .u8 0, .string ⟨#[]⟩, .string ⟨#[]⟩, .slice none 0 0, .int .i64 0, .int .i64 0] HX2.out (by as_aux_lemma => kernel_rfl) (by as_aux_lemma => kernel_rfl) (by as_aux_lemma => kernel_rfl) ?_)
          try simp only [Act.put]
          have hy1 := (setRow_other W3 g2 g1 #[.int .u8 y.kind, .int .u8 y.op, .string y.dst, .string y.name, .slice ya y.args.length yc, .int .i64 y.line, .int .i64 y.col] hne).trans HX1.out
          have hy2 : (W3.setRow g2 #[.int .u8 y.kind, .int .u8 y.op, .string y.dst, .string y.name, .slice ya y.args.length yc, .int .i64 y.line, .int .i64 y.col]).heap[g2]? = some (.cells #[.int .u8 y.kind, .int .u8 y.op, .string y.dst, .string y.name, .slice ya y.args.length yc, .int .i64 y.line, .int .i64 y.col] 37 (0, 0)) := setRow_heap _ _ _ _ _ _ HX2.out
          have hks : ∀ b ∈ [ga, gb], (W3.setRow g2 #[.int .u8 y.kind, .int .u8 y.op, .string y.dst, .string y.name, .slice ya y.args.length yc, .int .i64 y.line, .int .i64 y.col]).heap[b]? = wl.heap[b]? := fun b hb => (setRow_other _ _ _ _ (by have := HSL.out b hb; omega)).trans (HKS.out b hb)
          have hd4 : Below wl.heap.size wl (W3.setRow g2 #[.int .u8 y.kind, .int .u8 y.op, .string y.dst, .string y.name, .slice ya y.args.length yc, .int .i64 y.line, .int .i64 y.col]) := below_row HD3.out hzg2 _
          refine ⟨by first | exact ⟨_, keepS_of hks⟩ | exact fun _ => ⟨_, keepS_of hks⟩, ?_⟩
          refine mix_endH' ?_
          go_wp2_with fail
          go_meet
          exact ⟨g1, g2, rfl, rfl, hne, hzg1, hzg2, hy1, hy2, hd4⟩
      case rest =>
        generalize wc = w5 at *
        obtain ⟨g1, g2, rfl, rfl, hne, hg1, hg2, hx1, hx2, hb5⟩ := hcut
        clear qa0 qb0 qa1 qb1 qa2 qb2 qa3 qb3 qa4 qb4 qa5 qb5 qa6 qb6
        have HX1 := Lib.hid hx1
        have HX2 := Lib.hid hx2
        have HB5 := Lib.hid hb5
        clear hx1 hx2 hb5
        have hk1 : wl.heap.size ≤ g1 := hg1
        by_cases hj : x.kind = 8 ∨ x.kind = 9
        · have hxy : ({ x with name := ⟨#[]⟩ } : InstrD) = { y with name := ⟨#[]⟩ } := by
            have h := HEQ.out
            have hky : y.kind = 8 ∨ y.kind = 9 := by rw [← blank_kind y, ← h, blank_kind]; exact hj
            rw [blank_jump hj, blank_jump hky] at h
            exact h
          have heq : eqInstr ({ x with name := ⟨#[]⟩ } : InstrD) { y with name := ⟨#[]⟩ } = true := by rw [hxy]; exact eqInstr_self _
          have hw6 : Below wl.heap.size wl ((w5.setCell ⟨g1, 3, none⟩ (.string ⟨#[]⟩)).setCell ⟨g2, 3, none⟩ (.string ⟨#[]⟩)) := (HB5.out.setCell hg1 _).setCell hg2 _
          have hz0 : (⟨#[]⟩ : ByteArray).size ≤ maxLen := by show 0 ≤ maxLen; omega
          have h1 := HIX.out.keep hw6
          have h2 := HIY.out.keep hw6
          have HE := equalInstr { x with name := ⟨#[]⟩ } { y with name := ⟨#[]⟩ } _ _ ((w5.setCell ⟨g1, 3, none⟩ (.string ⟨#[]⟩)).setCell ⟨g2, 3, none⟩ (.string ⟨#[]⟩)) ⟨h1.1, h1.2.1, h1.2.2.1, h1.2.2.2.1, h1.2.2.2.2.1, h1.2.2.2.2.2.1, hz0⟩ ⟨h2.1, h2.2.1, h2.2.2.1, h2.2.2.2.1, h2.2.2.2.2.1, h2.2.2.2.2.2.1, hz0⟩
          rw [heq] at HE
          have HE := Lib.hid HE
          have HW6 := Lib.hid hw6
          have y1 := heap_setCell_same w5 g1 3 _ _ (.string ⟨#[]⟩) HX1.out
          have y2 := (heap_setCell_other w5 ⟨g1, 3, none⟩ g2 (.string ⟨#[]⟩) (by show ¬ g2 = g1; exact fun e => hne e.symm)).trans HX2.out
          have y3 := heap_setCell_same _ g2 3 _ _ (.string ⟨#[]⟩) y2
          have y4 := (heap_setCell_other (w5.setCell ⟨g1, 3, none⟩ (.string ⟨#[]⟩)) ⟨g2, 3, none⟩ g1 (.string ⟨#[]⟩) (by show ¬ g1 = g2; exact hne)).trans y1
          simp only [List.setIfInBounds_toArray, List.set_cons_succ, List.set_cons_zero] at y3 y4
          have m0 := row_of HX1.out 0 _ rfl
          have m3 := row_of HX1.out 3 _ rfl
          have n3 := row_of HX2.out 3 _ rfl
          have f3 := frozen_of_row w5 g1 3 _ _ HX1.out
          have j3 := frozen_of_row w5 g2 3 _ _ HX2.out
          have HY3 := Lib.hid y3
          have HY4 := Lib.hid y4
          clear heq hxy hw6 h1 h2 y1 y2 y3 y4
          have hcase : (x.kind == 8) = true ∨ ((x.kind == 8) = false ∧ (x.kind == 9) = true) := by
            rcases hj with h | h
            · left; simp [h]
            · right; simp [h]
          clear hj
          rcases hcase with h8 | ⟨h8, h9⟩
          all_goals
            go_upto_region 12 with fail
            generalize (w5.setCell ⟨g1, 3, none⟩ (.string ⟨#[]⟩)).setCell ⟨g2, 3, none⟩ (.string ⟨#[]⟩) = w6 at *
            have o0 := row_of HY4.out 0 _ rfl
            have o1 := row_of HY4.out 1 _ rfl
            have o2 := row_of HY4.out 2 _ rfl
            have o3 := row_of HY4.out 3 _ rfl
            have o4 := row_of HY4.out 4 _ rfl
            have o5 := row_of HY4.out 5 _ rfl
            have o6 := row_of HY4.out 6 _ rfl
            have r0 := row_of HY3.out 0 _ rfl
            have r1 := row_of HY3.out 1 _ rfl
            have r2 := row_of HY3.out 2 _ rfl
            have r3 := row_of HY3.out 3 _ rfl
            have r4 := row_of HY3.out 4 _ rfl
            have r5 := row_of HY3.out 5 _ rfl
            have r6 := row_of HY3.out 6 _ rfl
            clear m0 m3 n3 f3 j3
            go_wp2_with (go_at_call 12; refine HE.out.mono ?_; rintro e w7 ⟨rfl, hb7⟩)
            go_roundw
            case rel => exact ⟨k + 1, by go_num, by omega, bcomp HBL.out (HW6.out.trans (hb7.mono HW6.out.size))⟩
            case measure => simp [intOf]; omega
        · have hxy : x = y := by
            have h := HEQ.out
            have hky : ¬ (y.kind = 8 ∨ y.kind = 9) := by rw [← blank_kind y, ← h, blank_kind]; exact hj
            rw [blank_other hj, blank_other hky] at h
            exact h
          have heq : eqInstr x y = true := by rw [hxy]; exact eqInstr_self _
          have HE := equalInstr x y _ _ w5 (HIX.out.keep HB5.out) (HIY.out.keep HB5.out)
          rw [heq] at HE
          have HE := Lib.hid HE
          have h8 : (x.kind == 8) = false := by simp; exact fun h => hj (.inl h)
          have h9 : (x.kind == 9) = false := by simp; exact fun h => hj (.inr h)
          have o0 := row_of HX1.out 0 _ rfl
          have o1 := row_of HX1.out 1 _ rfl
          have o2 := row_of HX1.out 2 _ rfl
          have o3 := row_of HX1.out 3 _ rfl
          have o4 := row_of HX1.out 4 _ rfl
          have o5 := row_of HX1.out 5 _ rfl
          have o6 := row_of HX1.out 6 _ rfl
          have r0 := row_of HX2.out 0 _ rfl
          have r1 := row_of HX2.out 1 _ rfl
          have r2 := row_of HX2.out 2 _ rfl
          have r3 := row_of HX2.out 3 _ rfl
          have r4 := row_of HX2.out 4 _ rfl
          have r5 := row_of HX2.out 5 _ rfl
          have r6 := row_of HX2.out 6 _ rfl
          clear heq hxy hj
          go_wp2_with (go_at_call 12; refine HE.out.mono ?_; rintro e w7 ⟨rfl, hb7⟩)
          go_roundw
          case rel => exact ⟨k + 1, by go_num, by omega, bcomp HBL.out (HB5.out.trans (hb7.mono HB5.out.size))⟩
          case measure => simp [intOf]; omega
      --]]
    · have hlt1 : ¬ (k : Int) + 1 < (A.length : Int) := by omega
      go_wp2_with (go_at_call 7; refine (KN _).out.mono ?_; rintro e y2 ⟨rfl, hb2⟩)
      go_ret
      exact ⟨rfl, bcomp HBZ.out (bcomp HBL.out hb2)⟩
end Go.Proofs.YtbfkhnmpfffkmaaDoor
