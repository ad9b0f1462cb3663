/- The reference of layer 41: the instructions with their labels. Conditions: the rows of instructions and of targets hold what is said. -/
import Derived.Test.YtbfkhnmpfffkmaaDoorSrC
set_option linter.unusedVariables false
set_option linter.unusedSimpArgs false
set_option linter.unnecessarySimpa false
namespace Go.Proofs.YtbfkhnmpfffkmaaDoor
open Go.Maps (Keyed int_keyed)
open Go.WideShapes Go.ChangeMaps Go.MapKept Go.WideMaps Go.ChangeAt Go.RowKit Go.ChangeShapes
def anyT (c : List (InstrD × Int)) (i k : Nat) : Bool := (c.take k).any fun x => tgtS c.length x.2 == some i
theorem anyT_all (c : List (InstrD × Int)) (i : Nat) : anyT c i c.length = wantS c i := by unfold anyT wantS; rw [List.take_length]
theorem anyT_step {c : List (InstrD × Int)} {i k : Nat} {x : InstrD × Int} (h : c[k]? = some x) : anyT c i (k + 1) = (anyT c i k || (tgtS c.length x.2 == some i)) := by
  unfold anyT
  rw [List.take_add_one, h, List.any_append]
  simp
theorem anyT_want {c : List (InstrD × Int)} {i k : Nat} {x : InstrD × Int} (h : c[k]? = some x) (ht : tgtS c.length x.2 = some i) : wantS c i = true := by
  unfold wantS
  rw [List.any_eq_true]
  exact ⟨x, List.mem_of_getElem? h, by rw [ht]; simp⟩
set_option maxRecDepth 100000 in
set_option maxHeartbeats 6400000 in
theorem labelledR_any (tv cv : Value) (base : Nat) (c : List (InstrD × Int)) (w : World) (hC : CodeAt w base cv tv c) (hcl : c.length ≤ 40) (hbw : base ≤ w.heap.size) (hg : ∀ x ∈ c, GoodI x) :
    Calls Tryd.prog 24 #[cv, tv] w fun e w' => ∃ v, e = .returned v ∧ RdInstrs (some (upFrom base)) w' v (labelledS c) ∧ Below w.heap.size w w' := by
  obtain ⟨P, hP1, hP2, hP3, hP4⟩ := hC
  obtain ⟨xa, xc, rfl, _⟩ := own_read hP2
  obtain ⟨ya, yc, rfl, _⟩ := own_read hP4
  obtain ⟨iI, hiI, hzI0, hzI1, hzI2⟩ := info_parts infoInstr
  have hPl : P.length = c.length := by have := congrArg List.length hP1; simpa using this
  have HO := Lib.hid hP2
  have HOT := Lib.hid hP4
  have HR := Lib.hid hP3
  have HPF := Lib.hid hP1
  have HG := Lib.hid hg
  have HPL := Lib.hid hPl
  clear hP1 hP2 hP3 hP4 hg hPl
  go_enter Tryd.func24, Tryd.ntmps24
  go_upto_region 3 with fail
  go_loopw [5, 6, 7, 8] (fun v5 v6 _ _ wr => ∃ (i : Nat) (Q : List (InstrD × Value)), i ≤ c.length ∧ v6 = .int .i64 i ∧ Hid (Q.map Prod.fst = (List.range i).flatMap (atS c)) ∧ Q.length ≤ 2 * i ∧ wr.ownsRow w.heap.size 37 7 v5 Q.length (Q.flatMap insCells) ∧ (∀ q ∈ Q, RdInstr (some (upFrom base)) wr q.1 q.2) ∧ Below w.heap.size w wr) (fun _ v6 _ _ _ => c.length - (intOf v6).toNat)
  case atStart => exact ⟨0, [], Nat.zero_le _, rfl, rfl, Nat.le_refl _, World.ownsRow_nil _ _ _ _, (fun q hq => nomatch hq), Below.refl _ _⟩
  case round =>
    obtain ⟨i, Q, hi, rfl, HQ, hql, ho, hr, hb⟩ := hrel
    obtain ⟨w4, rfl⟩ : ∃ x : World, x = wr := ⟨_, rfl⟩
    have HOA := Lib.hid ho
    have HRA := Lib.hid hr
    have HBA := Lib.hid hb
    have hi1 : (i : Int) ≤ (c.length : Int) := by omega
    clear ho hr hb
    go_upto_block 2 with fail
    go_cut [5, 7] from 15 to 42 (fun v5 _ wx => ∃ Q : List (InstrD × Value), Hid (Q.map Prod.fst = (List.range i).flatMap (atS c) ++ (if wantS c i then [labelI i] else [])) ∧ Q.length ≤ 2 * i + 1 ∧ wx.ownsRow w.heap.size 37 7 v5 Q.length (Q.flatMap insCells) ∧ (∀ q ∈ Q, RdInstr (some (upFrom base)) wx q.1 q.2) ∧ Below w.heap.size w wx)
    case first =>
      go_wp2_with fail
      go_loopw [5, 7] (fun v5 v7 wr => v5 = u5 ∧ wr = w4 ∧ ∃ k : Nat, k ≤ c.length ∧ v7 = .int .i64 k ∧ Hid (anyT c i k = false)) (fun _ v7 _ => c.length - (intOf v7).toNat)
      case atStart => exact ⟨rfl, rfl, 0, Nat.zero_le _, rfl, rfl⟩
      case round =>
        obtain ⟨rfl, hw, k, hk, rfl, HAT⟩ := hrel
        subst wr
        by_cases hlt : k < c.length
        · have hlt1 : (k : Int) < (c.length : Int) := by omega
          obtain ⟨⟨x, xt⟩, hx⟩ : ∃ x, c[k]? = some x := ⟨_, List.getElem?_eq_getElem hlt⟩
          have hgx := HG.out _ (List.mem_of_getElem? hx)
          have htx : -1 ≤ xt ∧ xt ≤ 800 := hgx.t
          obtain ⟨tg, tc, hte, -, htc⟩ := own_at (own_below HOT.out HBA.out) (by rw [flat_length (fun x : InstrD × Int => [Value.int .i64 x.2]) 1 (fun _ => rfl)]; omega)
          simp only [Value.slice.injEq] at hte
          obtain ⟨rfl, -, -⟩ := hte
          have ct := htc (k * 1 + 0) (.int .i64 xt) (by rw [flat_get (fun x : InstrD × Int => [Value.int .i64 x.2]) 1 (fun _ => rfl) c k 0 _ hx (by omega)]; rfl)
          simp only [Nat.zero_add, Nat.mul_one, Nat.add_zero] at ct
          have HST := Lib.hid (anyT_step (i := i) hx)
          have HWT := Lib.hid (fun h => anyT_want (i := i) hx h)
          clear htc hx hgx
          by_cases hx0 : 0 ≤ xt
          · have hx1 : (0 : Int) ≤ xt := hx0
            obtain ⟨tt, rfl⟩ : ∃ tt : Nat, xt = tt := ⟨xt.toNat, by omega⟩
            have hmin := @run_minS Tryd.prog #[3, 3] 3 (tt : Int) (c.length : Int)
            obtain ⟨q, hq⟩ : ∃ q, min tt c.length = q := ⟨_, rfl⟩
            have hmq : min (tt : Int) (c.length : Int) = (q : Int) := by omega
            rw [hmq] at hmin
            have htg : tgtS c.length (tt : Int) = some q := by unfold tgtS; rw [if_pos hx1]; simp; omega
            by_cases hqi : q = i
            · have hqi1 : ((q : Int) == (i : Int)) = true := by simp [hqi]
              have HW : Hid (wantS c i = true) := HWT.out (by rw [htg, hqi])
              have HN := Lib.hid (nameR_any 76 i (by omega) w4)
              clear hmq htg hqi hq
              go_wp2_with (first | (go_at_call 22; refine HN.out.mono ?_; rintro e z ⟨rfl, hz⟩; subst z) | (at_builtin; refine wpList_append_own _ rfl (.tmp 37) (.tmp 41) 27 rfl w.heap.size 37 iI (.agg #[.int .u8 0, .int .u8 0, .string ⟨#[]⟩, .string ⟨#[]⟩, .slice none 0 0, .int .i64 0, .int .i64 0]) 7 80 Tryd.underlying27 hiI hzI0 hzI1 hzI2 rfl (by decide) _ _ _ rfl (HOA.out.alloc _) ⟨w4.heap.size, 0, none⟩ 1 1 (insCells (labelI i, .slice none 0 0)) rfl rfl (many_new _ _ _) ?pa1 ?pb1 ?pc1 ?pd1 ?_))
              case pa1 => intro u hu; simp [insCells] at hu; rcases hu with rfl | rfl | rfl | rfl | rfl | rfl | rfl <;> rfl
              case pb1 => unfold maxLen; omega
              case pc1 => omega
              case pd1 => have := HBA.out.size; first | omega | (simp; omega)
              · intro v' w6 hown' hgrow _
                have hb2 : Below w.heap.size w (w4.alloc (.cells (insCells (labelI i, .slice none 0 0)).toArray 37)) := HBA.out.alloc HBA.out.size _
                have hk : Below w4.heap.size w4 (w4.alloc (.cells (insCells (labelI i, .slice none 0 0)).toArray 37)) := (Below.refl _ _).alloc (Nat.le_refl _) _
                have hout := out_grow (HOA.out.alloc _) (fun p hp => (HRA.out p hp).keep hk) (rd_label (base := base) (i := i) (by omega)) hb2 hbw hgrow hown'
                have HOUT := Lib.hid hout
                clear hown' hgrow hb2 hk hout
                go_wp2_with fail
                go_meet
                exact ⟨Q ++ [(labelI i, .slice none 0 0)], (by show _ = _; rw [List.map_append, HQ.out, HW.out]; simp), by simp; omega, HOUT.out.1, HOUT.out.2.1, HOUT.out.2.2⟩
            · have hqi1 : ((q : Int) == (i : Int)) = false := by simp; omega
              have HF : Hid (anyT c i (k + 1) = false) := by show _ = _; rw [HST.out, HAT.out]; simp only [htg]; simp; exact hqi
              clear hmq htg hqi hq
              go_wp2_with fail
              go_roundw
              case rel => exact ⟨rfl, by first | rfl | trivial, k + 1, by omega, by go_num, HF.out⟩
              case measure => simp [intOf]; omega
          · have hx1 : ¬ (0 : Int) ≤ xt := hx0
            have HF : Hid (anyT c i (k + 1) = false) := by show _ = _; rw [HST.out, HAT.out]; unfold tgtS; rw [if_neg hx0]; rfl
            go_wp2_with fail
            go_roundw
            case rel => exact ⟨rfl, by first | rfl | trivial, k + 1, by omega, by go_num, HF.out⟩
            case measure => simp [intOf]; omega
        · have hlt1 : ¬ (k : Int) < (c.length : Int) := by omega
          have HW : Hid (wantS c i = false) := by show _ = _; rw [← anyT_all, ← show k = c.length by omega]; exact HAT.out
          go_wp2_with fail
          go_meet
          exact ⟨Q, (by show _ = _; rw [HQ.out, HW.out]; simp), by omega, HOA.out, HRA.out, HBA.out⟩
    case rest =>
      generalize wc = w5 at *
      obtain ⟨Q2, HQ2, hq2, ho2, hr2, hb2⟩ := hcut
      have HO5 := Lib.hid ho2
      have HR5 := Lib.hid hr2
      have HB5 := Lib.hid hb2
      clear ho2 hr2 hb2 HOA HRA HBA HQ
      have hbase5 : w.heap.size ≤ w5.heap.size := HB5.out.size
      by_cases hin : i < c.length
      · have hin1 : ((i : Int) == (c.length : Int)) = false := by simp; omega
        have hin2 : (i : Int) < (c.length : Int) := by omega
        obtain ⟨⟨x, xt⟩, hx⟩ : ∃ x, c[i]? = some x := ⟨_, List.getElem?_eq_getElem hin⟩
        obtain ⟨⟨px, pv⟩, hpx⟩ : ∃ p, P[i]? = some p := ⟨_, List.getElem?_eq_getElem (by have := HPL.out; omega)⟩
        have hpe : px = x := by
          have h1 : (P.map Prod.fst)[i]? = some px := by rw [List.getElem?_map, hpx]; rfl
          rw [HPF.out, List.getElem?_map, hx] at h1
          exact (Option.some.inj h1).symm
        subst hpe
        have hgx := HG.out _ (List.mem_of_getElem? hx)
        have htx : -1 ≤ xt ∧ xt ≤ 800 := hgx.t
        obtain ⟨nm', hnm⟩ : ∃ y, (fixS c.length (px, xt)).name = y := ⟨_, rfl⟩
        have hfe : fixS c.length (px, xt) = { px with name := nm' } := by rw [← hnm]; unfold fixS; split <;> rfl
        have HHI : Hid (atS c i = (if wantS c i then [labelI i] else []) ++ [{ px with name := nm' }]) := by show _ = _; unfold atS; rw [hx]; simp only [Option.map_some, Option.toList_some, hfe]
        have HNM := Lib.hid hnm
        have hrp : RdInstr (some (upFrom base)) w5 px pv := (HR.out _ (List.mem_of_getElem? hpx)).keep HB5.out
        obtain ⟨ra, rc, rfl, -⟩ := id hrp.1
        have HRP : Hid (RdInstr (some (upFrom base)) w5 { px with name := nm' } (.slice ra px.args.length rc)) := by
          refine ⟨hrp.1, hrp.2.1, hrp.2.2.1, hrp.2.2.2.1, hrp.2.2.2.2.1, hrp.2.2.2.2.2.1, ?_⟩
          show nm'.size ≤ maxLen
          rw [← hnm]
          unfold fixS tgtS
          by_cases hx0 : 0 ≤ xt
          · simp only [if_pos hx0]
            have h := nm_ok 76 (n := min xt.toNat c.length) (by omega)
            unfold NmOk at h
            unfold maxLen
            omega
          · simp only [if_neg hx0]
            exact hrp.2.2.2.2.2.2
        obtain ⟨tg, tc, hte, -, htc⟩ := own_at (own_below HOT.out HB5.out) (by rw [flat_length (fun x : InstrD × Int => [Value.int .i64 x.2]) 1 (fun _ => rfl)]; omega)
        simp only [Value.slice.injEq] at hte
        obtain ⟨rfl, -, -⟩ := hte
        have ct := htc (i * 1 + 0) (.int .i64 xt) (by rw [flat_get (fun x : InstrD × Int => [Value.int .i64 x.2]) 1 (fun _ => rfl) c i 0 _ hx (by omega)]; rfl)
        simp only [Nat.zero_add, Nat.mul_one, Nat.add_zero] at ct
        obtain ⟨cg, cgc, hce, -, hcc⟩ := own_at (own_below HO.out HB5.out) (by rw [flat_length insCells 7 (fun _ => rfl)]; have := HPL.out; omega)
        simp only [Value.slice.injEq] at hce
        obtain ⟨rfl, -, rfl⟩ := hce
        have q0 := hcc (i * 7 + 0) (.int .u8 px.kind) (by rw [flat_get insCells 7 (fun _ => rfl) P i 0 _ hpx (by omega)]; rfl)
        have q1 := hcc (i * 7 + 1) (.int .u8 px.op) (by rw [flat_get insCells 7 (fun _ => rfl) P i 1 _ hpx (by omega)]; rfl)
        have q2 := hcc (i * 7 + 2) (.string px.dst) (by rw [flat_get insCells 7 (fun _ => rfl) P i 2 _ hpx (by omega)]; rfl)
        have q3 := hcc (i * 7 + 3) (.string px.name) (by rw [flat_get insCells 7 (fun _ => rfl) P i 3 _ hpx (by omega)]; rfl)
        have q4 := hcc (i * 7 + 4) (.slice ra px.args.length rc) (by rw [flat_get insCells 7 (fun _ => rfl) P i 4 _ hpx (by omega)]; rfl)
        have q5 := hcc (i * 7 + 5) (.int .i64 px.line) (by rw [flat_get insCells 7 (fun _ => rfl) P i 5 _ hpx (by omega)]; rfl)
        have q6 := hcc (i * 7 + 6) (.int .i64 px.col) (by rw [flat_get insCells 7 (fun _ => rfl) P i 6 _ hpx (by omega)]; rfl)
        simp only [Nat.zero_add, Nat.add_zero] at q0 q1 q2 q3 q4 q5 q6
        have hal := (Below.refl w5.heap.size w5).alloc (Nat.le_refl _) (.cells #[.int .u8 px.kind, .int .u8 px.op, .string px.dst, .string px.name, .slice ra px.args.length rc, .int .i64 px.line, .int .i64 px.col] 37)
        have HX := Lib.hid (heap_alloc_new w5 (.cells #[.int .u8 px.kind, .int .u8 px.op, .string px.dst, .string px.name, .slice ra px.args.length rc, .int .i64 px.line, .int .i64 px.col] 37))
        have ct6 := cell_keep hal ct
        have HB6 := Lib.hid hal
        clear htc hcc hx hpx hgx hfe hnm hrp hal
        go_upto_if 55 with fail
        clear q0 q1 q2 q3 q4 q5 q6 ct
        generalize w5.alloc (.cells #[.int .u8 px.kind, .int .u8 px.op, .string px.dst, .string px.name, .slice ra px.args.length rc, .int .i64 px.line, .int .i64 px.col] 37) = w6 at *
        obtain ⟨xb, hxb⟩ : ∃ x, w5.heap.size = x := ⟨_, rfl⟩
        rw [hxb] at HX
        try rw [hxb]
        have HXB := Lib.hid hxb
        clear hxb
        go_cut [] from 56 to 64 (fun wx => wx.heap[xb]? = some (.cells #[.int .u8 px.kind, .int .u8 px.op, .string px.dst, .string nm', .slice ra px.args.length rc, .int .i64 px.line, .int .i64 px.col] 37 (0, 0)) ∧ Below w5.heap.size w5 wx)
        case first =>
          by_cases hx0 : 0 ≤ xt
          · have hx1 : (0 : Int) ≤ xt := hx0
            obtain ⟨tt, rfl⟩ : ∃ tt : Nat, xt = tt := ⟨xt.toNat, by omega⟩
            have hmin := @run_minS Tryd.prog #[3, 3] 3 (tt : Int) (c.length : Int)
            obtain ⟨q, hq⟩ : ∃ q, min tt c.length = q := ⟨_, rfl⟩
            have hmq : min (tt : Int) (c.length : Int) = (q : Int) := by omega
            rw [hmq] at hmin
            have hnq : nm' = nmS 76 q := by rw [← HNM.out]; unfold fixS tgtS; simp only [if_pos hx1]; rw [← hq]; rfl
            have hN := nameR_any 76 q (by omega) w6
            rw [← hnq] at hN
            have HN := Lib.hid hN
            have c3 := row_of HX.out 3 _ rfl
            have f3 := frozen_of_row w6 xb 3 _ _ HX.out
            have hb3 := heap_setCell_same w6 xb 3 _ _ (.string nm') HX.out
            simp only [List.setIfInBounds_toArray, List.set_cons_succ, List.set_cons_zero] at hb3
            have HX3 := Lib.hid hb3
            have HB7 : Hid (Below w5.heap.size w5 (w6.setCell ⟨xb, 3, none⟩ (.string nm'))) := HB6.out.setCell (by show w5.heap.size ≤ xb; rw [HXB.out]; omega) _
            clear hmq hq hnq hN hb3
            go_wp2_with (go_at_call 22; refine HN.out.mono ?_; rintro e z ⟨rfl, hz⟩; subst z)
            go_meet
            exact ⟨HX3.out, HB7.out⟩
          · have hx1 : ¬ (0 : Int) ≤ xt := hx0
            have HNQ : Hid (nm' = px.name) := by show _ = _; rw [← HNM.out]; unfold fixS tgtS; simp only [if_neg hx1]
            go_wp2_with fail
            go_meet
            exact ⟨by rw [HNQ.out]; exact HX.out, HB6.out⟩
        case rest =>
          generalize wc = w7 at *
          obtain ⟨hx7, hb7⟩ := hcut
          have o0 := row_of hx7 0 _ rfl
          have o1 := row_of hx7 1 _ rfl
          have o2 := row_of hx7 2 _ rfl
          have o3 := row_of hx7 3 _ rfl
          have o4 := row_of hx7 4 _ rfl
          have o5 := row_of hx7 5 _ rfl
          have o6 := row_of hx7 6 _ rfl
          have HB7 := Lib.hid hb7
          have HO7 := Lib.hid (own_below HO5.out hb7)
          have hwz : w.heap.size ≤ w7.heap.size := by have := hb7.size; omega
          clear hx7 hb7 ct6
          go_wp2_with (at_builtin; refine wpList_append_own _ rfl (.tmp 65) (.tmp 67) 27 rfl w.heap.size 37 iI (.agg #[.int .u8 0, .int .u8 0, .string ⟨#[]⟩, .string ⟨#[]⟩, .slice none 0 0, .int .i64 0, .int .i64 0]) 7 80 Tryd.underlying27 hiI hzI0 hzI1 hzI2 rfl (by decide) _ _ _ rfl (HO7.out.alloc _) ⟨w7.heap.size, 0, none⟩ 1 1 (insCells ({ px with name := nm' }, Value.slice ra px.args.length rc)) rfl rfl (many_new _ _ _) ?pa2 ?pb2 ?pc2 ?pd2 ?_)
          case pa2 => intro u hu; simp [insCells] at hu; rcases hu with rfl | rfl | rfl | rfl | rfl | rfl | rfl <;> rfl
          case pb2 => unfold maxLen; omega
          case pc2 => omega
          case pd2 => first | omega | (simp; omega)
          · intro v' w8 hown' hgrow _
            have hk7 := (HB7.out.alloc HB7.out.size (.cells (insCells ({ px with name := nm' }, Value.slice ra px.args.length rc)).toArray 37))
            have hb8 : Below w.heap.size w (w7.alloc (.cells (insCells ({ px with name := nm' }, Value.slice ra px.args.length rc)).toArray 37)) := HB5.out.trans (hk7.mono HB5.out.size)
            have hout := out_grow (HO7.out.alloc _) (fun p hp => (HR5.out p hp).keep hk7) (HRP.out.keep hk7) hb8 hbw hgrow hown'
            have HOUT := Lib.hid hout
            have HQ6 : Hid ((Q2 ++ [({ px with name := nm' }, Value.slice ra px.args.length rc)]).map Prod.fst = (List.range (i + 1)).flatMap (atS c)) := by
              show _ = _
              rw [List.map_append, HQ2.out, range_at, HHI.out, List.append_assoc]
              rfl
            clear hown' hgrow hb8 hk7 hout o0 o1 o2 o3 o4 o5 o6
            go_wp2_with fail
            go_roundw
            case rel => exact ⟨i + 1, Q2 ++ [({ px with name := nm' }, Value.slice ra px.args.length rc)], by omega, by go_num, HQ6, by simp; omega, HOUT.out.1, HOUT.out.2.1, HOUT.out.2.2⟩
            case measure => simp [intOf]; omega
      · have hin1 : ((i : Int) == (c.length : Int)) = true := by simp; omega
        have HLA : Hid (Q2.map Prod.fst = labelledS c) := by
          show _ = _
          obtain rfl : i = c.length := by omega
          unfold labelledS
          rw [HQ2.out, range_at]
          unfold atS
          rw [List.getElem?_eq_none (Nat.le_refl _)]
          simp
        go_wp2_with fail
        go_ret
        have hlen : Q2.length = (labelledS c).length := by rw [← HLA.out]; simp
        exact ⟨_, rfl, own_instrs HLA.out (by rw [← hlen]; exact own_upS HO5.out hbw) (by rw [← hlen]; omega) HR5.out, HB5.out⟩
end Go.Proofs.YtbfkhnmpfffkmaaDoor
