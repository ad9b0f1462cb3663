/- The walk of ProgExamples. Condition: the tables are laid. -/
import Derived.Test.YtjdbdoeopobciaaDoorPlo
import Derived.Test.YtjdbdoeopobciaaDoorOne
import Derived.Test.YtjdbdoeopobciaaDoorExH
set_option linter.unnecessarySimpa false
set_option linter.unusedVariables false
set_option linter.unusedSimpArgs false
namespace Go.Proofs.YtjdbdoeopobciaaDoor
open Go.ChangeShapes Go.WideShapes Go.ChangeAt Go.RowKit
theorem wrap_u64 (x : Int) : InU64 (IntKind.u64.wrap x) := by
  simp only [InU64, IntKind.wrap, IntKind.bits, IntKind.signed]
  simp
  omega
theorem wrap_u8 (x : Int) : InU8 (IntKind.u8.wrap x) := by
  simp only [InU8, IntKind.wrap, IntKind.bits, IntKind.signed]
  simp
  omega
theorem rd_chan (s : ByteArray) (w : World) (hs : s.size ≤ maxLen) : RdProg none (w.alloc (.cells #[.string s] 9)) ⟨1, [s], [], [], []⟩ (.slice (some ⟨w.heap.size, 0, none⟩) 1 1) (.slice none 0 0) (.slice none 0 0) (.slice none 0 0) :=
  ⟨rdS (l := [s]) (heap_alloc_new _ _) (by simp) (by intro t ht; rw [List.mem_singleton] at ht; subst ht; exact hs), rdArrs_nil _ _, rdFuncs_nil _ _, rdInstrs_nil _ _, (by show InI64 1; unfold InI64; omega)⟩
theorem rd_copyi (s : ByteArray) (w : World) (hs : s.size ≤ maxLen) : RdInstr none (w.alloc (.cells #[.string ⟨#[]⟩, .int .u64 0] 46)) ⟨0, 0, s, ⟨#[]⟩, [⟨⟨#[]⟩, 0⟩], 0, 0⟩ (.slice (some ⟨w.heap.size, 0, none⟩) 1 1) :=
  ⟨rdA (l := [⟨⟨#[]⟩, 0⟩]) (heap_alloc_new _ _) (by simp) (by intro t ht; rw [List.mem_singleton] at ht; subst ht; exact ⟨by show InU64 0; unfold InU64; omega, by decide⟩), (by show InU8 0; unfold InU8; omega), (by show InU8 0; unfold InU8; omega), (by show InI64 0; unfold InI64; omega), (by show InI64 0; unfold InI64; omega), hs, (by show (ByteArray.mk #[]).size ≤ maxLen; decide)⟩
def okW : Option Value → Bool
  | some (.string s) => decide (s.size ≤ 8)
  | _ => false
theorem okW_is {o : Option Value} (h : okW o = true) : ∃ s : ByteArray, s.size ≤ 8 ∧ o = some (.string s) := by
  unfold okW at h
  split at h
  · exact ⟨_, of_decide_eq_true h, rfl⟩
  · cases h
def exNames : List ByteArray := [bs [], bs [120], bs [99], bs [97], bs [102], bs [103], bs [76], bs [115], bs [49], bs [101, 110, 100]]
set_option maxRecDepth 100000 in
set_option maxHeartbeats 6400000 in
theorem examples_walk (W : World) (hL : Laid W) :
    Calls Tryd.prog 5 #[] W fun e w' => e = .returned (.bool true) ∧ Below W.heap.size W w' := by
  obtain ⟨ia, hia, hza0, hza1, hza2⟩ := info_parts infoArg
  obtain ⟨is, his, hzs0, hzs1, hzs2⟩ := info_parts infoStr
  obtain ⟨ir, hir, hzr0, hzr1, hzr2⟩ := info_parts infoArr
  have HL := Lib.hid hL
  clear hL
  go_enter Tryd.func5, Tryd.ntmps5
  go_upto_region 2 with fail
  have g1 := heap_alloc_new W (.cells #[.string ⟨#[]⟩, .string ⟨#[120]⟩, .string ⟨#[99]⟩, .string ⟨#[97]⟩, .string ⟨#[102]⟩, .string ⟨#[103]⟩, .string ⟨#[76]⟩, .string ⟨#[115]⟩, .string ⟨#[49]⟩, .string ⟨#[101, 110, 100]⟩] 9)
  have hb1 : Below W.heap.size W (W.alloc (.cells #[.string ⟨#[]⟩, .string ⟨#[120]⟩, .string ⟨#[99]⟩, .string ⟨#[97]⟩, .string ⟨#[102]⟩, .string ⟨#[103]⟩, .string ⟨#[76]⟩, .string ⟨#[115]⟩, .string ⟨#[49]⟩, .string ⟨#[101, 110, 100]⟩] 9)) := (Below.refl _ _).alloc (Nat.le_refl _) _
  generalize W.alloc (.cells #[.string ⟨#[]⟩, .string ⟨#[120]⟩, .string ⟨#[99]⟩, .string ⟨#[97]⟩, .string ⟨#[102]⟩, .string ⟨#[103]⟩, .string ⟨#[76]⟩, .string ⟨#[115]⟩, .string ⟨#[49]⟩, .string ⟨#[101, 110, 100]⟩] 9) = W1 at *
  have HB1 := Lib.hid hb1
  have hs1 : W.heap.size < W1.heap.size := (Array.getElem?_eq_some_iff.1 g1).1
  have HNM : Hid (∀ w', Below W1.heap.size W1 w' → ∀ j, j < 10 → ∃ s : ByteArray, s.size ≤ 3 ∧ w'.cell? ⟨W.heap.size, j, none⟩ = some (.string s)) := by
    intro w' hb j hj
    have h := (hb.block _ hs1).trans g1
    have : ∀ j : Fin 10, ∃ s : ByteArray, s.size ≤ 3 ∧ (#[.string ⟨#[]⟩, .string ⟨#[120]⟩, .string ⟨#[99]⟩, .string ⟨#[97]⟩, .string ⟨#[102]⟩, .string ⟨#[103]⟩, .string ⟨#[76]⟩, .string ⟨#[115]⟩, .string ⟨#[49]⟩, .string ⟨#[101, 110, 100]⟩] : Array Value)[j.1]? = some (.string s) := by
      intro j
      match j with
      | 0 | 1 | 2 | 3 | 4 | 5 | 6 | 7 | 8 | 9 => exact ⟨_, by decide, rfl⟩
    obtain ⟨s, h1, h2⟩ := this ⟨j, hj⟩
    exact ⟨s, h1, row_of h j _ h2⟩
  have HL1 := Lib.hid (HL.out.keep hb1)
  clear g1 hb1
  go_wp2_with fail
  go_loopw [2, 3, 4, 5] (fun kk _ _ _ wr => ∃ K : Nat, K ≤ 14 ∧ kk = .int .i64 K ∧ Below W1.heap.size W1 wr) (fun kk _ _ _ _ => 14 - (intOf kk).toNat)
  case atStart => exact ⟨0, by omega, rfl, Below.refl _ _⟩
  case round =>
    obtain ⟨wk, rfl⟩ : ∃ x : World, x = wr := ⟨_, rfl⟩
    obtain ⟨K, hK, rfl, hb⟩ := hrel
    have HBK := Lib.hid hb
    clear hb
    by_cases hlt : K < 14
    · have hlt2 : (K : Int) < 14 := by omega
      --[[
      go_wp2_with fail
      go_loopw [3, 4, 5] (fun ii _ _ wr => ∃ I : Nat, I ≤ 100 ∧ ii = .int .i64 I ∧ Below W1.heap.size W1 wr) (fun ii _ _ _ => 100 - (intOf ii).toNat)
      case atStart => exact ⟨0, by omega, rfl, HBK.out⟩
      case round =>
        obtain ⟨wi, rfl⟩ : ∃ x : World, x = wr := ⟨_, rfl⟩
        obtain ⟨I, hI, rfl, hb⟩ := hrel
        clear HBK
        have HBI := Lib.hid hb
        have hsi := hb.size
        clear hb
        by_cases hli : I < 100
        · have hli2 : (I : Int) < 100 := by omega
          obtain ⟨s1, hs1', c1⟩ := HNM.out wi HBI.out (I % 3) (by omega)
          obtain ⟨s2, hs2', c2⟩ := HNM.out wi HBI.out (I % 10) (by omega)
          have hlw : W.heap.size < wi.heap.size := by omega
          have hnw : W.heap.size ≠ wi.heap.size := by omega
          go_upto_region 8 with fail
          go_region
          have g8 : ((wi.alloc (.cells #[.int .u8 K, .int .u8 0, .string s1, .string s2, .slice none 0 0, .int .i64 0, .int .i64 0] 43)).drew).heap[wi.heap.size]? = some (.cells #[.int .u8 K, .int .u8 0, .string s1, .string s2, .slice none 0 0, .int .i64 0, .int .i64 0] 43 (0, 0)) := heap_alloc_new _ _
          have hb8 : Below wi.heap.size wi (wi.alloc (.cells #[.int .u8 K, .int .u8 0, .string s1, .string s2, .slice none 0 0, .int .i64 0, .int .i64 0] 43)).drew := ((Below.refl _ _).alloc (Nat.le_refl _) _).drew
          generalize (wi.alloc (.cells #[.int .u8 K, .int .u8 0, .string s1, .string s2, .slice none 0 0, .int .i64 0, .int .i64 0] 43)).drew = W8 at *
          have HB8 := Lib.hid (bcomp HBI.out hb8)
          have HG8 := Lib.hid g8
          have hxb : W1.heap.size ≤ wi.heap.size := hsi
          generalize wi.heap.size = xb at *
          have hT : I / 10 % 4 ≤ 3 := by omega
          clear c1 c2 g8 hb8 HBI hsi
          go_wp2_with fail
          go_loopw [5] (fun kk wr => ∃ (J : Nat) (l : List ArgD) (av : Value), J ≤ I / 10 % 4 ∧ kk = .int .i64 J ∧ l.length = J ∧ wr.ownsRow W1.heap.size 46 2 av J (l.flatMap argCells) ∧ (∀ a ∈ l, InU64 a.num ∧ a.name.size ≤ maxLen) ∧ wr.heap[xb]? = some (.cells #[.int .u8 K, .int .u8 0, .string s1, .string s2, av, .int .i64 0, .int .i64 0] 43 (0, 0)) ∧ Below W1.heap.size W1 wr) (fun kk _ => 3 - (intOf kk).toNat)
          case atStart => exact ⟨0, [], _, Nat.zero_le _, rfl, rfl, World.ownsRow_nil _ _ _ _, (fun a h => nomatch h), HG8.out, HB8.out⟩
          case round =>
            obtain ⟨J, l, av, hJ, rfl, hlen, hown, hok, hbx, hb⟩ := hrel
            obtain ⟨aa, ca, rfl, -⟩ := own_read hown
            have HO := Lib.hid hown
            have HOK := Lib.hid hok
            have HX := Lib.hid hbx
            have HB := Lib.hid hb
            have HLE := Lib.hid hlen
            have hsr := hb.size
            clear HG8 HB8 hown hok hb hlen
            by_cases hjt : J < I / 10 % 4
            · have hjt2 : (J : Int) < (I : Int) / 10 % 4 := by omega
              obtain ⟨s3, hs3, c3⟩ := HNM.out wr HB.out ((I + J) % 2) (by omega)
              have x4 := row_of hbx 4 (.slice aa J ca) rfl
              go_upto_region 12 with fail
              refine wp_region_mix (.one [0, 1, 2, 3, 4, 5, 6, 7, 8, 9, 10, 11, 12, 13, 14] 15 (.one [] 16 (tailOf [17, 18]))) (fun j => decide (16 ≤ j)) (by kernel_rfl) (by kernel_rfl) rfl (by kernel_rfl) (fun _ d _ _ _ h => by cases d <;> exact h) ?_
              have HBd : Hid (Below wr.heap.size wr wr.drew) := (Below.refl _ _).drew
              have HOd := Lib.hid (own_below HO.out HBd.out)
              generalize wr.drew = wn at *
              have l4 := ext_cell x4
              have l3 := ext_cell c3
              obtain ⟨q, hq, hq1⟩ : ∃ q : Nat, (I : Int) / 50 = (q : Int) ∧ q ≤ 1 := ⟨I / 50, by omega, by omega⟩
              have hqb : Hid (q * J ≤ 3) := by
                show q * J ≤ 3
                rcases Nat.eq_zero_or_pos q with e | e
                · subst e; simp
                · obtain rfl : q = 1 := by omega
                  omega
              refine mix_one (by simp only [opsOf, List.filterMap_cons, List.filterMap_nil, List.getElem?_toArray, List.getElem?_cons_succ, List.getElem?_cons_zero]; rfl) ⟨_, ext_of HBd.out⟩ ?_
              change wpQuiet _ _ _ _ [_, _, _, _, _, _, _, _, _, _, _, _, _, _, _] _
              (repeat (go_big_quiet_step (fail)))
              refine wpQuiet_nil ?_
              clear l3 l4 c3 x4
              refine mix_step rfl ?_
              go_wp2_with fail
              have hnum := wrap_u64 (wrap64 ((q : Int) * (J : Int)))
              generalize IntKind.u64.wrap (wrap64 ((q : Int) * (J : Int))) = Z at *
              have hbn : Below wn.heap.size wn (wn.alloc (.cells #[.string s3, .int .u64 Z] 46)) := (Below.refl _ _).alloc (Nat.le_refl _) _
              have hmany : ∀ j u, (argCells ⟨s3, Z⟩)[j]? = some u → (wn.alloc (.cells #[.string s3, .int .u64 Z] 46)).cell? ((⟨wn.heap.size, 0, none⟩ : Addr).add j) = some u := many_new wn (argCells ⟨s3, Z⟩) _
              have hownm := own_below HOd.out hbn
              have HBm := Lib.hid (bcomp HBd.out hbn)
              clear hbn
              refine ⟨fun _ => ⟨_, ext_of HBm.out⟩, ?_⟩
              generalize wn.alloc (.cells #[.string s3, .int .u64 Z] 46) = wm at *
              generalize wn.heap.size = gn at *
              refine mix_now ?_
              refine mix_step rfl ?_
              have hsm := HBm.out.size
              have hgb := (HBm.out.block xb (Array.getElem?_eq_some_iff.1 HX.out).1).trans HX.out
              refine wpList_append_own _ rfl (.tmp 48) (.tmp 62) 41 rfl W1.heap.size 46 ia (.agg #[.string ⟨#[]⟩, .int .u64 0]) 2 24 Tryd.underlying41 hia hza0 hza1 hza2 rfl (by decide) _ _ _ rfl hownm ⟨gn, 0, none⟩ 1 1 (argCells ⟨s3, Z⟩) rfl rfl hmany ?a2 ?a3 ?a4 ?a5 ?_
              case a2 => intro u hu; simp [argCells] at hu; rcases hu with rfl | rfl <;> rfl
              case a3 => unfold maxLen; omega
              case a4 => omega
              case a5 => omega
              intro v' w2 hown' hgrow _
              obtain ⟨a', c', rfl, -⟩ := own_read hown'
              have hb2 := ((bcomp HB.out HBm.out).grown hgrow (by omega) (own_row_le hownm))
              have hgx := (hgrow.block xb (by have := (Array.getElem?_eq_some_iff.1 hgb).1; exact this) (fun e => own_ne_cells hownm hgb (by decide) e.symm)).trans hgb
              refine ⟨fun h => absurd h (by decide), ?_⟩
              have x4 := row_of hgx 4 (.slice aa J ca) rfl
              have f4 := frozen_of_row w2 xb 4 _ _ hgx
              have HGX := Lib.hid hgx
              have HOW := Lib.hid hown'
              have HB2 := Lib.hid hb2
              clear hown' hgrow hgb hgx hb2 hmany hownm
              refine mix_tail [17, 18] [_, _] _ _ rfl rfl ?_
              go_wp2_with fail
              go_roundw
              case rel =>
                refine ⟨J + 1, l ++ [(⟨s3, Z⟩ : ArgD)], .slice a' (J + 1) c', by omega, by go_num, by rw [List.length_append, HLE.out]; rfl, ?_, ?_, heap_setCell_same _ _ 4 _ _ _ HGX.out, HB2.out.setCell hxb _⟩
                · have e : (l ++ [(⟨s3, Z⟩ : ArgD)]).flatMap argCells = l.flatMap argCells ++ argCells ⟨s3, Z⟩ := by simp
                  rw [e]
                  exact ownsRow_setCell_other HOW.out (fun e => own_ne_cells HOW.out HGX.out (by decide) e) _
                · intro a ha
                  rcases List.mem_append.1 ha with h | h
                  · exact HOK.out a h
                  · rw [List.mem_singleton] at h; subst h; exact ⟨hnum, by unfold maxLen; show s3.size ≤ _; omega⟩
              case measure => simp [intOf]; omega
            · obtain rfl : J = I / 10 % 4 := by omega
              have hjt2 : ¬ (((I / 10 % 4 : Nat) : Int) < (I : Int) / 10 % 4) := by omega
              have HAR : Hid (∀ w' : World, w'.ownsRow W1.heap.size 46 2 (.slice aa (I / 10 % 4) ca) (I / 10 % 4) (l.flatMap argCells) → RdArgs none w' (.slice aa (I / 10 % 4) ca) l) := by
                intro w' h1
                rw [← HLE.out] at h1 ⊢
                exact (own_args h1 (by have := HLE.out; omega) HOK.out).forget
              generalize hJJ : I / 10 % 4 = J at *
              have x0 := row_of hbx 0 (.int .u8 K) rfl
              have x1 := row_of hbx 1 (.int .u8 0) rfl
              have x2 := row_of hbx 2 (.string s1) rfl
              have x3 := row_of hbx 3 (.string s2) rfl
              have x4 := row_of hbx 4 (.slice aa J ca) rfl
              have x5 := row_of hbx 5 (.int .i64 0) rfl
              have x6 := row_of hbx 6 (.int .i64 0) rfl
              have f1 := frozen_of_row wr xb 1 _ _ hbx
              have f3 := frozen_of_row wr xb 3 _ _ hbx
              clear hJJ hT
              go_upto_if 66 with fail
              go_cut [66] from 67 to 88 (fun _ wx => ∃ op nm, InU8 op ∧ nm.size ≤ 3 ∧ RdArgs none wx (.slice aa J ca) l ∧ wx.heap[xb]? = some (.cells #[.int .u8 K, .int .u8 op, .string s1, .string nm, .slice aa J ca, .int .i64 0, .int .i64 0] 43 (0, 0)) ∧ Below W1.heap.size W1 wx)
              case first =>
                by_cases hK1 : K = 1
                · subst hK1
                  go_wp2_with fail
                  go_meet
                  refine ⟨_, _, ?_, ?_, ?_, heap_setCell_same _ _ 3 _ _ _ (heap_setCell_same _ _ 1 _ _ _ HX.out), (HB.out.setCell hxb _).setCell hxb _⟩
                  · first | (unfold InU8; omega) | exact wrap_u8 _
                  · decide
                  · have hne : (Value.slice aa J ca).ownBlock ≠ some xb := own_ne_cells HO.out HX.out (by decide)
                    exact HAR.out _ (ownsRow_setCell_other (ownsRow_setCell_other HO.out (fun e => hne e) _) (fun e => hne e) _)
                · have hK2 : ¬ (K : Int) = 1 := by omega
                  go_wp2_with fail
                  go_meet
                  exact ⟨0, s2, by unfold InU8; omega, by omega, HAR.out _ HO.out, HX.out, HB.out⟩
              case rest =>
                obtain ⟨op, nm, ho8, hnm, har, hgx, hbx'⟩ := hcut
                clear x0 x1 x2 x3 x4 x5 x6 f1 f3 HX HB HAR HOK HO hbx
                have HRI : Hid (RdInstr none wc ⟨K, op, s1, nm, l, 0, 0⟩ (.slice aa J ca)) := ⟨har, by show InU8 K; unfold InU8; omega, ho8, by show InI64 0; unfold InI64; omega, by show InI64 0; unfold InI64; omega, by show s1.size ≤ _; unfold maxLen; omega, by show nm.size ≤ _; unfold maxLen; omega⟩
                have HX := Lib.hid hgx
                have HB := Lib.hid hbx'
                have hsc := hbx'.size
                have hlc := (Array.getElem?_eq_some_iff.1 hgx).1
                have x0 := row_of hgx 0 (.int .u8 K) rfl
                have x1 := row_of hgx 1 (.int .u8 op) rfl
                have x2 := row_of hgx 2 (.string s1) rfl
                have x3 := row_of hgx 3 (.string nm) rfl
                have x4 := row_of hgx 4 (.slice aa J ca) rfl
                have x5 := row_of hgx 5 (.int .i64 0) rfl
                have x6 := row_of hgx 6 (.int .i64 0) rfl
                clear hgx hbx' har
                have hI64 : InI64 (I : Int) := by unfold InI64; omega
                have hbc := Below.refl wc.heap.size wc
                have HLc := Lib.hid (HL1.out.keep HB.out)
                go_wp2_with (first
                  | (go_at_call 20; refine (one_any ⟨K, op, s1, nm, l, 0, 0⟩ (.slice aa J ca) _ _ (HRI.out.keep hbc)).mono ?_; rintro e wn ⟨P, cv', av', fv', mv', rfl, hr, hb⟩; replace hbc := bcomp hbc hb; have x0 := cell_keep hb x0; have x1 := cell_keep hb x1; have x2 := cell_keep hb x2; have x3 := cell_keep hb x3; have x4 := cell_keep hb x4; have x5 := cell_keep hb x5; have x6 := cell_keep hb x6; clear hb; obtain ⟨r1, r2, r3, r4, r5⟩ := id hr; obtain ⟨rac, rkc, rfl, -⟩ := id r1; obtain ⟨raa, rka, rfl, -⟩ := id r2; obtain ⟨raf, rkf, rfl, -⟩ := id r3; obtain ⟨ram, rkm, rfl, -⟩ := id r4; clear r1 r2 r3 r4 r5)
                  | (go_at_call 3; refine (checks_walk P _ _ _ _ _ hr (HLc.out.keep hbc)).mono ?_; rintro e wn ⟨rfl, hb⟩; replace hbc := bcomp hbc hb; have x0 := cell_keep hb x0; have x1 := cell_keep hb x1; have x2 := cell_keep hb x2; have x3 := cell_keep hb x3; have x4 := cell_keep hb x4; have x5 := cell_keep hb x5; have x6 := cell_keep hb x6; clear hb hr)
                  | (go_at_call 4; refine (locals_walk P _ _ _ _ _ _ hr hI64 (HLc.out.keep hbc)).mono ?_; rintro e wn ⟨rfl, hb⟩; replace hbc := bcomp hbc hb; clear hb hr))
                go_roundw
                case rel => exact ⟨I + 1, by omega, by go_num, bcomp HB.out hbc⟩
                case measure => simp [intOf]; omega
        · obtain rfl : I = 100 := by omega
          go_wp2_with fail
          go_roundw
          case rel => exact ⟨K + 1, by omega, by go_num, HBI.out⟩
          case measure => simp [intOf]; omega
      --]]
    · have hlt2 : ¬ ((K : Int) < 14) := by omega
      go_upto_region 18 with fail
      have g2 := heap_alloc_new wk (.cells #[.string ⟨#[119, 105, 100, 116, 104]⟩, .string ⟨#[99, 104, 97, 110]⟩, .string ⟨#[97, 114, 114, 97, 121]⟩, .string ⟨#[102, 117, 110, 99]⟩, .string ⟨#[109, 97, 105, 110]⟩, .string ⟨#[101, 110, 100]⟩, .string ⟨#[108, 111, 97, 100]⟩, .string ⟨#[115, 116, 111, 114, 101]⟩, .string ⟨#[99, 97, 108, 108]⟩, .string ⟨#[105, 110]⟩, .string ⟨#[111, 117, 116]⟩, .string ⟨#[114, 101, 108, 101, 97, 115, 101]⟩, .string ⟨#[106, 117, 109, 112]⟩, .string ⟨#[105, 102]⟩, .string ⟨#[104, 97, 108, 116]⟩, .string ⟨#[114, 101, 116]⟩, .string ⟨#[105, 116, 101]⟩, .string ⟨#[97, 100, 100]⟩, .string ⟨#[115, 108, 101]⟩, .string ⟨#[110, 111, 116]⟩, .string ⟨#[99, 111, 110, 115, 116]⟩, .string ⟨#[108, 101, 118, 101, 108]⟩, .string ⟨#[109, 111, 100, 101]⟩] 9)
      have hb2 : Below wk.heap.size wk (wk.alloc (.cells #[.string ⟨#[119, 105, 100, 116, 104]⟩, .string ⟨#[99, 104, 97, 110]⟩, .string ⟨#[97, 114, 114, 97, 121]⟩, .string ⟨#[102, 117, 110, 99]⟩, .string ⟨#[109, 97, 105, 110]⟩, .string ⟨#[101, 110, 100]⟩, .string ⟨#[108, 111, 97, 100]⟩, .string ⟨#[115, 116, 111, 114, 101]⟩, .string ⟨#[99, 97, 108, 108]⟩, .string ⟨#[105, 110]⟩, .string ⟨#[111, 117, 116]⟩, .string ⟨#[114, 101, 108, 101, 97, 115, 101]⟩, .string ⟨#[106, 117, 109, 112]⟩, .string ⟨#[105, 102]⟩, .string ⟨#[104, 97, 108, 116]⟩, .string ⟨#[114, 101, 116]⟩, .string ⟨#[105, 116, 101]⟩, .string ⟨#[97, 100, 100]⟩, .string ⟨#[115, 108, 101]⟩, .string ⟨#[110, 111, 116]⟩, .string ⟨#[99, 111, 110, 115, 116]⟩, .string ⟨#[108, 101, 118, 101, 108]⟩, .string ⟨#[109, 111, 100, 101]⟩] 9)) := (Below.refl _ _).alloc (Nat.le_refl _) _
      generalize wk.alloc (.cells #[.string ⟨#[119, 105, 100, 116, 104]⟩, .string ⟨#[99, 104, 97, 110]⟩, .string ⟨#[97, 114, 114, 97, 121]⟩, .string ⟨#[102, 117, 110, 99]⟩, .string ⟨#[109, 97, 105, 110]⟩, .string ⟨#[101, 110, 100]⟩, .string ⟨#[108, 111, 97, 100]⟩, .string ⟨#[115, 116, 111, 114, 101]⟩, .string ⟨#[99, 97, 108, 108]⟩, .string ⟨#[105, 110]⟩, .string ⟨#[111, 117, 116]⟩, .string ⟨#[114, 101, 108, 101, 97, 115, 101]⟩, .string ⟨#[106, 117, 109, 112]⟩, .string ⟨#[105, 102]⟩, .string ⟨#[104, 97, 108, 116]⟩, .string ⟨#[114, 101, 116]⟩, .string ⟨#[105, 116, 101]⟩, .string ⟨#[97, 100, 100]⟩, .string ⟨#[115, 108, 101]⟩, .string ⟨#[110, 111, 116]⟩, .string ⟨#[99, 111, 110, 115, 116]⟩, .string ⟨#[108, 101, 118, 101, 108]⟩, .string ⟨#[109, 111, 100, 101]⟩] 9) = W2 at *
      have HB2 := Lib.hid (bcomp HBK.out hb2)
      have HL2 := Lib.hid (HL1.out.keep HB2.out)
      have hs2 : wk.heap.size < W2.heap.size := (Array.getElem?_eq_some_iff.1 g2).1
      have HWD : Hid (∀ w', Below W2.heap.size W2 w' → ∀ j, j < 23 → ∃ s : ByteArray, s.size ≤ 8 ∧ w'.cell? ⟨wk.heap.size, j, none⟩ = some (.string s)) := by
        intro w' hb j hj
        have h := (hb.block _ hs2).trans g2
        have h3 : ∀ j : Fin 23, okW ((#[.string ⟨#[119, 105, 100, 116, 104]⟩, .string ⟨#[99, 104, 97, 110]⟩, .string ⟨#[97, 114, 114, 97, 121]⟩, .string ⟨#[102, 117, 110, 99]⟩, .string ⟨#[109, 97, 105, 110]⟩, .string ⟨#[101, 110, 100]⟩, .string ⟨#[108, 111, 97, 100]⟩, .string ⟨#[115, 116, 111, 114, 101]⟩, .string ⟨#[99, 97, 108, 108]⟩, .string ⟨#[105, 110]⟩, .string ⟨#[111, 117, 116]⟩, .string ⟨#[114, 101, 108, 101, 97, 115, 101]⟩, .string ⟨#[106, 117, 109, 112]⟩, .string ⟨#[105, 102]⟩, .string ⟨#[104, 97, 108, 116]⟩, .string ⟨#[114, 101, 116]⟩, .string ⟨#[105, 116, 101]⟩, .string ⟨#[97, 100, 100]⟩, .string ⟨#[115, 108, 101]⟩, .string ⟨#[110, 111, 116]⟩, .string ⟨#[99, 111, 110, 115, 116]⟩, .string ⟨#[108, 101, 118, 101, 108]⟩, .string ⟨#[109, 111, 100, 101]⟩] : Array Value)[j.1]?) = true := by decide +kernel
        obtain ⟨s, h1, h2⟩ := okW_is (h3 ⟨j, hj⟩)
        exact ⟨s, h1, row_of h j _ h2⟩
      clear g2 hb2
      generalize wk.heap.size = wb at *
      go_wp2_with fail
      go_loopw [7] (fun ii wr => ∃ I : Nat, I ≤ 23 ∧ ii = .int .i64 I ∧ Below W2.heap.size W2 wr) (fun ii _ => 23 - (intOf ii).toNat)
      case atStart => exact ⟨0, by omega, rfl, Below.refl _ _⟩
      case round =>
        obtain ⟨wi, rfl⟩ : ∃ x : World, x = wr := ⟨_, rfl⟩
        obtain ⟨I, hI, rfl, hb⟩ := hrel
        have HBI := Lib.hid hb
        have hsi := hb.size
        clear hb
        by_cases hli : I < 23
        · have hli2 : (I : Int) < 23 := by omega
          --[[
          obtain ⟨s, hs, c1⟩ := HWD.out wi HBI.out I hli
          have hsm : s.size ≤ maxLen := by unfold maxLen; omega
          have HLi := Lib.hid (HL2.out.keep HBI.out)
          have hlw : wb < wi.heap.size := by omega
          have hbc := (Below.refl wi.heap.size wi).alloc (Nat.le_refl _) (.cells #[.string s] 9)
          have c1 := cell_keep hbc c1
          have HR1 := Lib.hid (rd_chan s wi hsm)
          go_wp2_with (first
            | (go_at_call 3; with_reducible refine (checks_walk ⟨1, [s], [], [], []⟩ _ _ _ _ _ HR1.out (HLi.out.keep hbc)).mono ?_; rintro e wn ⟨rfl, hb⟩; replace hbc := bcomp hbc hb; have c1 := cell_keep hb c1; clear hb; have hba := (Below.refl wn.heap.size wn).alloc (Nat.le_refl _) (.cells #[.string ⟨#[]⟩, .int .u64 0] 46))
            | (go_at_call 20; refine (one_any ⟨0, 0, s, ⟨#[]⟩, [⟨⟨#[]⟩, 0⟩], 0, 0⟩ _ true _ (rd_copyi s wn hsm)).mono ?_; rintro e w3 ⟨P, cv', av', fv', mv', rfl, hr, hb⟩; replace hbc := bcomp (bcomp hbc hba) hb; clear hb; obtain ⟨r1, r2, r3, r4, r5⟩ := id hr; obtain ⟨rac, rkc, rfl, -⟩ := id r1; obtain ⟨raa, rka, rfl, -⟩ := id r2; obtain ⟨raf, rkf, rfl, -⟩ := id r3; obtain ⟨ram, rkm, rfl, -⟩ := id r4; clear r1 r2 r3 r4 r5)
            | (go_at_call 3; with_reducible refine (checks_walk P _ _ _ _ _ hr (HLi.out.keep hbc)).mono ?_; rintro e w4 ⟨rfl, hb⟩; replace hbc := bcomp hbc hb; clear hb hr))
          go_roundw
          case rel => exact ⟨I + 1, by omega, by go_num, bcomp HBI.out hbc⟩
          case measure => simp [intOf]; omega
          --]]
        · have hli2 : ¬ ((I : Int) < 23) := by omega
          go_wp2_with fail
          have g3 := heap_alloc_new wi (.cells #[.int .i64 1, .slice none 0 0, .slice none 0 0, .slice none 0 0, .slice none 0 0] 27)
          have hb3 : Below wi.heap.size wi (wi.alloc (.cells #[.int .i64 1, .slice none 0 0, .slice none 0 0, .slice none 0 0, .slice none 0 0] 27)) := (Below.refl _ _).alloc (Nat.le_refl _) _
          generalize wi.alloc (.cells #[.int .i64 1, .slice none 0 0, .slice none 0 0, .slice none 0 0, .slice none 0 0] 27) = W3 at *
          have HB3 := Lib.hid (bcomp HBI.out hb3)
          have HG3 := Lib.hid g3
          have HPBL : Hid (W2.heap.size ≤ wi.heap.size) := hsi
          generalize wi.heap.size = pb at *
          clear g3 hb3 HBI
          go_loopw [9, 10, 11] (fun ii _ _ wr => ∃ (I : Nat) (cs : List ByteArray) (ars : List ArrD) (va vb : Value), I ≤ 34 ∧ ii = .int .i64 I ∧ cs.length = I ∧ ars.length = I ∧ wr.ownsRow W2.heap.size 9 1 va I (cs.flatMap strCells) ∧ wr.ownsRow W2.heap.size 50 2 vb I (ars.flatMap arrCells) ∧ (∀ s ∈ cs, s.size ≤ maxLen) ∧ (∀ s ∈ ars, InI64 s.size ∧ s.name.size ≤ maxLen) ∧ wr.heap[pb]? = some (.cells #[.int .i64 1, va, vb, .slice none 0 0, .slice none 0 0] 27 (0, 0)) ∧ Below W2.heap.size W2 wr) (fun ii _ _ _ => 34 - (intOf ii).toNat)
          case atStart => exact ⟨0, [], [], _, _, by omega, rfl, rfl, rfl, World.ownsRow_nil _ _ _ _, World.ownsRow_nil _ _ _ _, (fun s h => nomatch h), (fun s h => nomatch h), HG3.out, HB3.out⟩
          case round =>
            obtain ⟨wo, rfl⟩ : ∃ x : World, x = wr := ⟨_, rfl⟩
            obtain ⟨I5, cs, ars, va, vb, hI5, rfl, hcl, hal, howna, hownb, hcs, has, hpb, hb⟩ := hrel
            obtain ⟨aa, ca, rfl, -⟩ := own_read howna
            obtain ⟨ab, cb, rfl, -⟩ := own_read hownb
            have HOA := Lib.hid howna
            have HOB := Lib.hid hownb
            have HCS := Lib.hid hcs
            have HAS := Lib.hid has
            have HPB := Lib.hid hpb
            have HB := Lib.hid hb
            have HCL := Lib.hid hcl
            have HAL := Lib.hid hal
            have hso := hb.size
            clear HG3 HB3 howna hownb hcs has hb hcl hal
            have hpbl : W2.heap.size ≤ pb := HPBL.out
            by_cases hl5 : I5 < 34
            · have hl6 : (I5 : Int) < 34 := by omega
              --[[
              have hcv := conv2 (wo.alloc (.cells #[.int .u8 (97 + (I5 : Int) / 26), .int .u8 (97 + (I5 : Int) % 26)] 5)) wo.heap.size (97 + (I5 : Int) / 26) (97 + (I5 : Int) % 26) (by omega) (by omega) (heap_alloc_new _ _)
              go_upto_region 28 with fail
              obtain ⟨sn, hsn⟩ : ∃ sn, (⟨#[110]⟩ : ByteArray) ++ bs [97 + UInt8.ofNat (I5 / 26), 97 + UInt8.ofNat (I5 % 26)] = sn := ⟨_, rfl⟩
              have hsn3 : sn.size ≤ 3 := by rw [← hsn]; exact n_size _ _
              rw [hsn]
              clear hsn hcv
              have hb5 : Below wo.heap.size wo (wo.alloc (.cells #[.int .u8 (97 + (I5 : Int) / 26), .int .u8 (97 + (I5 : Int) % 26)] 5)) := (Below.refl _ _).alloc (Nat.le_refl _) _
              generalize wo.alloc (.cells #[.int .u8 (97 + (I5 : Int) / 26), .int .u8 (97 + (I5 : Int) % 26)] 5) = W5 at *
              have HP5 := Lib.hid ((hb5.block pb (Array.getElem?_eq_some_iff.1 HPB.out).1).trans HPB.out)
              have HOA := Lib.hid (own_below HOA.out hb5)
              have HOB := Lib.hid (own_below HOB.out hb5)
              have HB := Lib.hid (bcomp HB.out hb5)
              have HFS : Hid ((cs ++ [sn]).flatMap strCells = cs.flatMap strCells ++ strCells sn) := by show _ = _; simp
              have HFR : Hid ((ars ++ [(⟨sn, 1 + 2 * (I5 : Int)⟩ : ArrD)]).flatMap arrCells = ars.flatMap arrCells ++ arrCells ⟨sn, 1 + 2 * (I5 : Int)⟩) := by show _ = _; simp
              clear hb5 HPB hpb
              go_cut [136] from 117 to 174 (fun _ wx => ∃ va' vb', wx.ownsRow W2.heap.size 9 1 va' (I5 + 1) ((cs ++ [sn]).flatMap strCells) ∧ wx.ownsRow W2.heap.size 50 2 vb' (I5 + 1) ((ars ++ [(⟨sn, 1 + 2 * (I5 : Int)⟩ : ArrD)]).flatMap arrCells) ∧ wx.heap[pb]? = some (.cells #[.int .i64 1, va', vb', .slice none 0 0, .slice none 0 0] 27 (0, 0)) ∧ Below W2.heap.size W2 wx)
              case first =>
                refine wp_region_mixK pb (.two [0, 1, 2, 5, 6, 7, 8, 9, 10, 11] 3 12 (.two [] 4 12 (.one [14] 12 (.one [] 13 (tailOf [15, 16, 17]))) (.one [] 4 (.one [14] 13 (tailOf [15, 16, 17])))) (.one [] 3 (.one [] 4 (.one [14] 13 (tailOf [15, 16, 17]))))) (fun j => decide (15 ≤ j)) (by kernel_rfl) (by kernel_rfl) rfl (by kernel_rfl) (fun _ d _ _ _ h => by cases d <;> exact h) ?_
                have FG : Hid (Below W2.heap.size W2 W5.drew) := bcomp HB.out (Below.refl _ _).drew
                have FA := Lib.hid (own_below HOA.out (Below.refl W5.heap.size W5).drew)
                have FB := Lib.hid (own_below HOB.out (Below.refl W5.heap.size W5).drew)
                have FP : Hid (W5.drew.heap[pb]? = some (.cells #[.int .i64 1, .slice aa I5 ca, .slice ab I5 cb, .slice none 0 0, .slice none 0 0] 27 (0, 0))) := HP5.out
                have l1 := keepB_cell (row_of HP5.out 1 (.slice aa I5 ca) rfl)
                have l2 := keepB_cell (row_of HP5.out 2 (.slice ab I5 cb) rfl)
                generalize W5.drew = w0 at *
                refine mix_two (by simp only [opsOf, List.filterMap_cons, List.filterMap_nil, List.getElem?_toArray, List.getElem?_cons_succ, List.getElem?_cons_zero]; rfl) ⟨_, keepB_of (FP.out.trans HP5.out.symm)⟩ ?_
                change wpQuiet _ _ _ _ [_, _, _, _, _, _, _, _, _, _] _
                (repeat (go_big_quiet_step (fail)))
                refine wpQuiet_nil ⟨?_, ?_⟩
                · refine mix_step rfl ?_
                  go_wp2_with fail
                  have hal : Below w0.heap.size w0 (w0.alloc (.cells #[.string sn] 9)) := (Below.refl _ _).alloc (Nat.le_refl _) _
                  have ra := heap_alloc_new w0 (.cells #[.string sn] 9)
                  have hp := (hal.block pb (Array.getElem?_eq_some_iff.1 FP.out).1).trans FP.out
                  refine ⟨fun _ => ⟨_, keepB_of (hp.trans HP5.out.symm)⟩, ?_⟩
                  have FA := Lib.hid (own_below FA.out hal)
                  have FB := Lib.hid (own_below FB.out hal)
                  have FP := Lib.hid hp
                  have FG := Lib.hid (bcomp FG.out hal)
                  have RA := Lib.hid ra
                  clear hal ra hp
                  generalize w0.alloc (.cells #[.string sn] 9) = w1 at *
                  generalize w0.heap.size = ga at *
                  refine mix_both ?_ ?_
                  · refine mix_step rfl ?_
                    have hsz := FG.out.size
                    refine wpList_append_own _ rfl (.tmp 133) (.tmp 135) 22 rfl W2.heap.size 9 is (.string ⟨#[]⟩) 1 16 Tryd.underlying22 his hzs0 hzs1 hzs2 rfl (by decide) _ _ _ rfl FA.out ⟨ga, 0, none⟩ 1 1 (strCells sn) rfl rfl (many_of RA.out) (by intro u hu; simp [strCells] at hu; subst hu; rfl) (by unfold maxLen; omega) (by omega) hsz ?_
                    intro v' w2 hown' hgrow _
                    obtain ⟨aa', ca', rfl, -⟩ := own_read hown'
                    have hp := (hgrow.block pb (Array.getElem?_eq_some_iff.1 FP.out).1 (fun e => own_ne_cells FA.out FP.out (by decide) e.symm)).trans FP.out
                    refine ⟨fun _ => ⟨_, keepB_of (hp.trans HP5.out.symm)⟩, ?_⟩
                    have FB := Lib.hid (own_other FB.out FA.out (by decide) hgrow)
                    have FG := Lib.hid (FG.out.grown hgrow hsz (own_row_le FA.out))
                    have FP := Lib.hid hp
                    have FA := Lib.hid hown'
                    clear hown' hgrow hp hsz
                    refine mix_one (by simp only [opsOf, List.filterMap_cons, List.filterMap_nil, List.getElem?_toArray, List.getElem?_cons_succ, List.getElem?_cons_zero]; rfl) ⟨_, keepB_of (FP.out.trans HP5.out.symm)⟩ ?_
                    simp only [Act.put, List.setIfInBounds_toArray, List.set_cons_succ, List.set_cons_zero, List.getElem_toArray, List.getElem_cons_succ, List.getElem_cons_zero]
                    change wpQuiet _ _ _ _ [_] _
                    go_big_quiet_step (fail)
                    refine wpQuiet_nil ?_
                    refine mix_step rfl ?_
                    go_wp2_with fail
                    have hal : Below w2.heap.size w2 (w2.alloc (.cells #[.string sn, .int .i64 (1 + 2 * (I5 : Int))] 50)) := (Below.refl _ _).alloc (Nat.le_refl _) _
                    have ra := heap_alloc_new w2 (.cells #[.string sn, .int .i64 (1 + 2 * (I5 : Int))] 50)
                    have hp := (hal.block pb (Array.getElem?_eq_some_iff.1 FP.out).1).trans FP.out
                    refine ⟨fun _ => ⟨_, keepB_of (hp.trans HP5.out.symm)⟩, ?_⟩
                    have FA := Lib.hid (own_below FA.out hal)
                    have FB := Lib.hid (own_below FB.out hal)
                    have FP := Lib.hid hp
                    have FG := Lib.hid (bcomp FG.out hal)
                    have RB := Lib.hid ra
                    clear hal ra hp
                    generalize w2.alloc (.cells #[.string sn, .int .i64 (1 + 2 * (I5 : Int))] 50) = w3 at *
                    generalize w2.heap.size = gb at *
                    refine mix_now ?_
                    refine mix_step rfl ?_
                    have hsz := FG.out.size
                    refine wpList_append_own _ rfl (.tmp 138) (.tmp 144) 23 rfl W2.heap.size 50 ir (.agg #[.string ⟨#[]⟩, .int .i64 0]) 2 24 Tryd.underlying23 hir hzr0 hzr1 hzr2 rfl (by decide) _ _ _ rfl FB.out ⟨gb, 0, none⟩ 1 1 (arrCells ⟨sn, 1 + 2 * (I5 : Int)⟩) rfl rfl (many_of RB.out) (by intro u hu; simp [arrCells] at hu; rcases hu with rfl | rfl <;> rfl) (by unfold maxLen; omega) (by omega) hsz ?_
                    intro v' w4 hown' hgrow _
                    obtain ⟨ab', cb', rfl, -⟩ := own_read hown'
                    have hp := (hgrow.block pb (Array.getElem?_eq_some_iff.1 FP.out).1 (fun e => own_ne_cells FB.out FP.out (by decide) e.symm)).trans FP.out
                    refine ⟨fun _ => ⟨_, keepB_of (hp.trans HP5.out.symm)⟩, ?_⟩
                    have FA := Lib.hid (own_other FA.out FB.out (by decide) hgrow)
                    have FG := Lib.hid (FG.out.grown hgrow hsz (own_row_le FB.out))
                    have FP := Lib.hid hp
                    have FB := Lib.hid hown'
                    clear hown' hgrow hp hsz
                    refine mix_tail [15, 16, 17] [_, _, _] _ _ rfl rfl ?_
                    have p1 := row_of FP.out 1 (.slice aa I5 ca) rfl
                    have p2 := row_of FP.out 2 (.slice ab I5 cb) rfl
                    have f1 := frozen_of_row w4 pb 1 _ _ FP.out
                    have f2 := frozen_of_row w4 pb 2 _ _ FP.out
                    have e1 := own_ne_cells FA.out FP.out (by decide)
                    have e2 := own_ne_cells FB.out FP.out (by decide)
                    go_wp2_with fail
                    go_meet
                    exact ⟨_, _, ownsRow_setCell_other (ownsRow_setCell_other (by rw [HFS.out]; exact FA.out) e1 _) e1 _, ownsRow_setCell_other (ownsRow_setCell_other (by rw [HFR.out]; exact FB.out) e2 _) e2 _, heap_setCell_same _ _ 2 _ _ _ (heap_setCell_same _ _ 1 _ _ _ FP.out), (FG.out.setCell hpbl _).setCell hpbl _⟩
                  · refine mix_step rfl ?_
                    go_wp2_with fail
                    have hal : Below w1.heap.size w1 (w1.alloc (.cells #[.string sn, .int .i64 (1 + 2 * (I5 : Int))] 50)) := (Below.refl _ _).alloc (Nat.le_refl _) _
                    have ra := heap_alloc_new w1 (.cells #[.string sn, .int .i64 (1 + 2 * (I5 : Int))] 50)
                    have hp := (hal.block pb (Array.getElem?_eq_some_iff.1 FP.out).1).trans FP.out
                    refine ⟨fun _ => ⟨_, keepB_of (hp.trans HP5.out.symm)⟩, ?_⟩
                    have FA := Lib.hid (own_below FA.out hal)
                    have FB := Lib.hid (own_below FB.out hal)
                    have FP := Lib.hid hp
                    have FG := Lib.hid (bcomp FG.out hal)
                    have RA := Lib.hid ((hal.block ga (Array.getElem?_eq_some_iff.1 RA.out).1).trans RA.out)
                    have RB := Lib.hid ra
                    clear hal ra hp
                    generalize w1.alloc (.cells #[.string sn, .int .i64 (1 + 2 * (I5 : Int))] 50) = w5 at *
                    generalize w1.heap.size = gb at *
                    refine mix_now ?_
                    refine mix_step rfl ?_
                    have hsz := FG.out.size
                    refine wpList_append_own _ rfl (.tmp 133) (.tmp 135) 22 rfl W2.heap.size 9 is (.string ⟨#[]⟩) 1 16 Tryd.underlying22 his hzs0 hzs1 hzs2 rfl (by decide) _ _ _ rfl FA.out ⟨ga, 0, none⟩ 1 1 (strCells sn) rfl rfl (many_of RA.out) (by intro u hu; simp [strCells] at hu; subst hu; rfl) (by unfold maxLen; omega) (by omega) hsz ?_
                    intro v' w6 hown' hgrow _
                    obtain ⟨aa', ca', rfl, -⟩ := own_read hown'
                    have hp := (hgrow.block pb (Array.getElem?_eq_some_iff.1 FP.out).1 (fun e => own_ne_cells FA.out FP.out (by decide) e.symm)).trans FP.out
                    refine ⟨fun _ => ⟨_, keepB_of (hp.trans HP5.out.symm)⟩, ?_⟩
                    have FB := Lib.hid (own_other FB.out FA.out (by decide) hgrow)
                    have RB := Lib.hid ((hgrow.block gb (Array.getElem?_eq_some_iff.1 RB.out).1 (fun e => own_ne_cells FA.out RB.out (by decide) e.symm)).trans RB.out)
                    have FG := Lib.hid (FG.out.grown hgrow hsz (own_row_le FA.out))
                    have FP := Lib.hid hp
                    have FA := Lib.hid hown'
                    clear hown' hgrow hp hsz
                    refine mix_one (by simp only [opsOf, List.filterMap_cons, List.filterMap_nil, List.getElem?_toArray, List.getElem?_cons_succ, List.getElem?_cons_zero]; rfl) ⟨_, keepB_of (FP.out.trans HP5.out.symm)⟩ ?_
                    simp only [Act.put, List.setIfInBounds_toArray, List.set_cons_succ, List.set_cons_zero, List.getElem_toArray, List.getElem_cons_succ, List.getElem_cons_zero]
                    change wpQuiet _ _ _ _ [_] _
                    go_big_quiet_step (fail)
                    refine wpQuiet_nil ?_
                    refine mix_step rfl ?_
                    have hsz := FG.out.size
                    refine wpList_append_own _ rfl (.tmp 138) (.tmp 144) 23 rfl W2.heap.size 50 ir (.agg #[.string ⟨#[]⟩, .int .i64 0]) 2 24 Tryd.underlying23 hir hzr0 hzr1 hzr2 rfl (by decide) _ _ _ rfl FB.out ⟨gb, 0, none⟩ 1 1 (arrCells ⟨sn, 1 + 2 * (I5 : Int)⟩) rfl rfl (many_of RB.out) (by intro u hu; simp [arrCells] at hu; rcases hu with rfl | rfl <;> rfl) (by unfold maxLen; omega) (by omega) hsz ?_
                    intro v' w7 hown' hgrow _
                    obtain ⟨ab', cb', rfl, -⟩ := own_read hown'
                    have hp := (hgrow.block pb (Array.getElem?_eq_some_iff.1 FP.out).1 (fun e => own_ne_cells FB.out FP.out (by decide) e.symm)).trans FP.out
                    refine ⟨fun _ => ⟨_, keepB_of (hp.trans HP5.out.symm)⟩, ?_⟩
                    have FA := Lib.hid (own_other FA.out FB.out (by decide) hgrow)
                    have FG := Lib.hid (FG.out.grown hgrow hsz (own_row_le FB.out))
                    have FP := Lib.hid hp
                    have FB := Lib.hid hown'
                    clear hown' hgrow hp hsz
                    refine mix_tail [15, 16, 17] [_, _, _] _ _ rfl rfl ?_
                    have p1 := row_of FP.out 1 (.slice aa I5 ca) rfl
                    have p2 := row_of FP.out 2 (.slice ab I5 cb) rfl
                    have f1 := frozen_of_row w7 pb 1 _ _ FP.out
                    have f2 := frozen_of_row w7 pb 2 _ _ FP.out
                    have e1 := own_ne_cells FA.out FP.out (by decide)
                    have e2 := own_ne_cells FB.out FP.out (by decide)
                    go_wp2_with fail
                    go_meet
                    exact ⟨_, _, ownsRow_setCell_other (ownsRow_setCell_other (by rw [HFS.out]; exact FA.out) e1 _) e1 _, ownsRow_setCell_other (ownsRow_setCell_other (by rw [HFR.out]; exact FB.out) e2 _) e2 _, heap_setCell_same _ _ 2 _ _ _ (heap_setCell_same _ _ 1 _ _ _ FP.out), (FG.out.setCell hpbl _).setCell hpbl _⟩
                · refine mix_step rfl ?_
                  go_wp2_with fail
                  have hal : Below w0.heap.size w0 (w0.alloc (.cells #[.string sn, .int .i64 (1 + 2 * (I5 : Int))] 50)) := (Below.refl _ _).alloc (Nat.le_refl _) _
                  have ra := heap_alloc_new w0 (.cells #[.string sn, .int .i64 (1 + 2 * (I5 : Int))] 50)
                  have hp := (hal.block pb (Array.getElem?_eq_some_iff.1 FP.out).1).trans FP.out
                  refine ⟨fun _ => ⟨_, keepB_of (hp.trans HP5.out.symm)⟩, ?_⟩
                  have FA := Lib.hid (own_below FA.out hal)
                  have FB := Lib.hid (own_below FB.out hal)
                  have FP := Lib.hid hp
                  have FG := Lib.hid (bcomp FG.out hal)
                  have RB := Lib.hid ra
                  clear hal ra hp
                  generalize w0.alloc (.cells #[.string sn, .int .i64 (1 + 2 * (I5 : Int))] 50) = w8 at *
                  generalize w0.heap.size = gb at *
                  refine mix_now ?_
                  refine mix_step rfl ?_
                  go_wp2_with fail
                  have hal : Below w8.heap.size w8 (w8.alloc (.cells #[.string sn] 9)) := (Below.refl _ _).alloc (Nat.le_refl _) _
                  have ra := heap_alloc_new w8 (.cells #[.string sn] 9)
                  have hp := (hal.block pb (Array.getElem?_eq_some_iff.1 FP.out).1).trans FP.out
                  refine ⟨fun _ => ⟨_, keepB_of (hp.trans HP5.out.symm)⟩, ?_⟩
                  have FA := Lib.hid (own_below FA.out hal)
                  have FB := Lib.hid (own_below FB.out hal)
                  have FP := Lib.hid hp
                  have FG := Lib.hid (bcomp FG.out hal)
                  have RB := Lib.hid ((hal.block gb (Array.getElem?_eq_some_iff.1 RB.out).1).trans RB.out)
                  have RA := Lib.hid ra
                  clear hal ra hp
                  generalize w8.alloc (.cells #[.string sn] 9) = w9 at *
                  generalize w8.heap.size = ga at *
                  refine mix_now ?_
                  refine mix_step rfl ?_
                  have hsz := FG.out.size
                  refine wpList_append_own _ rfl (.tmp 133) (.tmp 135) 22 rfl W2.heap.size 9 is (.string ⟨#[]⟩) 1 16 Tryd.underlying22 his hzs0 hzs1 hzs2 rfl (by decide) _ _ _ rfl FA.out ⟨ga, 0, none⟩ 1 1 (strCells sn) rfl rfl (many_of RA.out) (by intro u hu; simp [strCells] at hu; subst hu; rfl) (by unfold maxLen; omega) (by omega) hsz ?_
                  intro v' w10 hown' hgrow _
                  obtain ⟨aa', ca', rfl, -⟩ := own_read hown'
                  have hp := (hgrow.block pb (Array.getElem?_eq_some_iff.1 FP.out).1 (fun e => own_ne_cells FA.out FP.out (by decide) e.symm)).trans FP.out
                  refine ⟨fun _ => ⟨_, keepB_of (hp.trans HP5.out.symm)⟩, ?_⟩
                  have FB := Lib.hid (own_other FB.out FA.out (by decide) hgrow)
                  have RB := Lib.hid ((hgrow.block gb (Array.getElem?_eq_some_iff.1 RB.out).1 (fun e => own_ne_cells FA.out RB.out (by decide) e.symm)).trans RB.out)
                  have FG := Lib.hid (FG.out.grown hgrow hsz (own_row_le FA.out))
                  have FP := Lib.hid hp
                  have FA := Lib.hid hown'
                  clear hown' hgrow hp hsz
                  refine mix_one (by simp only [opsOf, List.filterMap_cons, List.filterMap_nil, List.getElem?_toArray, List.getElem?_cons_succ, List.getElem?_cons_zero]; rfl) ⟨_, keepB_of (FP.out.trans HP5.out.symm)⟩ ?_
                  simp only [Act.put, List.setIfInBounds_toArray, List.set_cons_succ, List.set_cons_zero, List.getElem_toArray, List.getElem_cons_succ, List.getElem_cons_zero]
                  change wpQuiet _ _ _ _ [_] _
                  go_big_quiet_step (fail)
                  refine wpQuiet_nil ?_
                  refine mix_step rfl ?_
                  have hsz := FG.out.size
                  refine wpList_append_own _ rfl (.tmp 138) (.tmp 144) 23 rfl W2.heap.size 50 ir (.agg #[.string ⟨#[]⟩, .int .i64 0]) 2 24 Tryd.underlying23 hir hzr0 hzr1 hzr2 rfl (by decide) _ _ _ rfl FB.out ⟨gb, 0, none⟩ 1 1 (arrCells ⟨sn, 1 + 2 * (I5 : Int)⟩) rfl rfl (many_of RB.out) (by intro u hu; simp [arrCells] at hu; rcases hu with rfl | rfl <;> rfl) (by unfold maxLen; omega) (by omega) hsz ?_
                  intro v' w11 hown' hgrow _
                  obtain ⟨ab', cb', rfl, -⟩ := own_read hown'
                  have hp := (hgrow.block pb (Array.getElem?_eq_some_iff.1 FP.out).1 (fun e => own_ne_cells FB.out FP.out (by decide) e.symm)).trans FP.out
                  refine ⟨fun _ => ⟨_, keepB_of (hp.trans HP5.out.symm)⟩, ?_⟩
                  have FA := Lib.hid (own_other FA.out FB.out (by decide) hgrow)
                  have FG := Lib.hid (FG.out.grown hgrow hsz (own_row_le FB.out))
                  have FP := Lib.hid hp
                  have FB := Lib.hid hown'
                  clear hown' hgrow hp hsz
                  refine mix_tail [15, 16, 17] [_, _, _] _ _ rfl rfl ?_
                  have p1 := row_of FP.out 1 (.slice aa I5 ca) rfl
                  have p2 := row_of FP.out 2 (.slice ab I5 cb) rfl
                  have f1 := frozen_of_row w11 pb 1 _ _ FP.out
                  have f2 := frozen_of_row w11 pb 2 _ _ FP.out
                  have e1 := own_ne_cells FA.out FP.out (by decide)
                  have e2 := own_ne_cells FB.out FP.out (by decide)
                  go_wp2_with fail
                  go_meet
                  exact ⟨_, _, ownsRow_setCell_other (ownsRow_setCell_other (by rw [HFS.out]; exact FA.out) e1 _) e1 _, ownsRow_setCell_other (ownsRow_setCell_other (by rw [HFR.out]; exact FB.out) e2 _) e2 _, heap_setCell_same _ _ 2 _ _ _ (heap_setCell_same _ _ 1 _ _ _ FP.out), (FG.out.setCell hpbl _).setCell hpbl _⟩
              case rest =>
                obtain ⟨va', vb', hown1, hown2, hpb', hb'⟩ := hcut
                obtain ⟨aa', ca', rfl, -⟩ := own_read hown1
                obtain ⟨ab', cb', rfl, -⟩ := own_read hown2
                have hpbl2 : W2.heap.size ≤ wc.heap.size := hb'.size
                have hCL : (cs ++ [sn]).length = I5 + 1 := by rw [List.length_append, HCL.out]; rfl
                have hAL : (ars ++ [(⟨sn, 1 + 2 * (I5 : Int)⟩ : ArrD)]).length = I5 + 1 := by rw [List.length_append, HAL.out]; rfl
                have hcs2 : ∀ s ∈ cs ++ [sn], s.size ≤ maxLen := by
                  intro s hs
                  rcases List.mem_append.1 hs with h | h
                  · exact HCS.out s h
                  · rw [List.mem_singleton] at h; subst h; unfold maxLen; omega
                have has2 : ∀ s ∈ ars ++ [(⟨sn, 1 + 2 * (I5 : Int)⟩ : ArrD)], InI64 s.size ∧ s.name.size ≤ maxLen := by
                  intro s hs
                  rcases List.mem_append.1 hs with h | h
                  · exact HAS.out s h
                  · rw [List.mem_singleton] at h; subst h; exact ⟨by show InI64 (1 + 2 * (I5 : Int)); unfold InI64; omega, by show sn.size ≤ _; unfold maxLen; omega⟩
                have hrc : RdStrs none wc (.slice aa' (I5 + 1) ca') (cs ++ [sn]) := (own_strs (by rw [hCL]; exact hown1) (by rw [hCL]; omega) hcs2).forget
                have hra : RdArrs none wc (.slice ab' (I5 + 1) cb') (ars ++ [(⟨sn, 1 + 2 * (I5 : Int)⟩ : ArrD)]) := (own_arrs (by rw [hAL]; exact hown2) (by rw [hAL]; omega) has2).forget
                have HOW1 := Lib.hid hown1
                have HOW2 := Lib.hid hown2
                have HCL2 := Lib.hid hCL
                have HAL2 := Lib.hid hAL
                have HCS2 := Lib.hid hcs2
                have HAS2 := Lib.hid has2
                have HPW := Lib.hid hpb'
                have HBW := Lib.hid hb'
                have HRC := Lib.hid hrc
                have HRA := Lib.hid hra
                have p1 := row_of hpb' 1 (.slice aa' (I5 + 1) ca') rfl
                clear hCL hAL hcs2 has2 hrc hra hown1 hown2 hpb' hb' HFS HFR HP5 HOA HOB HB HCS HAS HCL HAL
                go_upto_region 30 with fail
                have hb7 := ((Below.refl wc.heap.size wc).alloc (Nat.le_refl _) (.cells #[.string ⟨#[102]⟩, .slice aa' (I5 + 1) ca', .slice none 0 0, .int .i64 0, .int .i64 0] 52)).alloc (by simp) (.cells #[.int .i64 1, .slice none 0 0, .slice none 0 0, .slice (some ⟨wc.heap.size, 0, none⟩) 1 1, .slice none 0 0] 27)
                have g0 := heap_alloc2_old wc (.cells #[.string ⟨#[102]⟩, .slice aa' (I5 + 1) ca', .slice none 0 0, .int .i64 0, .int .i64 0] 52) (.cells #[.int .i64 1, .slice none 0 0, .slice none 0 0, .slice (some ⟨wc.heap.size, 0, none⟩) 1 1, .slice none 0 0] 27)
                have g1 := heap_alloc2_new wc (.cells #[.string ⟨#[102]⟩, .slice aa' (I5 + 1) ca', .slice none 0 0, .int .i64 0, .int .i64 0] 52) (.cells #[.int .i64 1, .slice none 0 0, .slice none 0 0, .slice (some ⟨wc.heap.size, 0, none⟩) 1 1, .slice none 0 0] 27)
                generalize ((wc.alloc (.cells #[.string ⟨#[102]⟩, .slice aa' (I5 + 1) ca', .slice none 0 0, .int .i64 0, .int .i64 0] 52)).alloc (.cells #[.int .i64 1, .slice none 0 0, .slice none 0 0, .slice (some ⟨wc.heap.size, 0, none⟩) 1 1, .slice none 0 0] 27)) = W7 at *
                have hpw : pb < wc.heap.size := (Array.getElem?_eq_some_iff.1 HPW.out).1
                have hp7 := (hb7.block pb hpw).trans HPW.out
                have HL7 := Lib.hid (HL2.out.keep (bcomp HBW.out hb7))
                have i1 : InI64 1 := by unfold InI64; omega
                have HR1 : Hid (RdProg none W7 ⟨1, cs ++ [sn], ars ++ [(⟨sn, 1 + 2 * (I5 : Int)⟩ : ArrD)], [], []⟩ (.slice aa' (I5 + 1) ca') (.slice ab' (I5 + 1) cb') (.slice none 0 0) (.slice none 0 0)) := ⟨HRC.out.keep hb7, HRA.out.keep hb7, rdFuncs_nil _ _, rdInstrs_nil _ _, i1⟩
                have HR2 : Hid (RdProg none W7 ⟨1, cs ++ [sn], [], [], []⟩ (.slice aa' (I5 + 1) ca') (.slice none 0 0) (.slice none 0 0) (.slice none 0 0)) := ⟨HRC.out.keep hb7, rdArrs_nil _ _, rdFuncs_nil _ _, rdInstrs_nil _ _, i1⟩
                have HR3 : Hid (RdProg none W7 ⟨1, [], [], [⟨⟨#[102]⟩, cs ++ [sn], [], 0, 0⟩], []⟩ (.slice none 0 0) (.slice none 0 0) (.slice (some ⟨wc.heap.size, 0, none⟩) 1 1) (.slice none 0 0)) := ⟨rdStrs_nil _ _, rdArrs_nil _ _, rdF (l := [((⟨⟨#[102]⟩, cs ++ [sn], [], 0, 0⟩ : FuncD), (.slice aa' (I5 + 1) ca' : Value), (.slice none 0 0 : Value))]) g0 (by simp) (by intro p hp; rw [List.mem_singleton] at hp; subst hp; exact ⟨HRC.out.keep hb7, rdInstrs_nil _ _, (by show InI64 0; unfold InI64; omega), (by show InI64 0; unfold InI64; omega), (by show (ByteArray.mk #[102]).size ≤ maxLen; decide)⟩), rdInstrs_nil _ _, i1⟩
                have HR4 : Hid (RdProg none W7 ⟨(I5 : Int) * 2, [], [], [], []⟩ (.slice none 0 0) (.slice none 0 0) (.slice none 0 0) (.slice none 0 0)) := ⟨rdStrs_nil _ _, rdArrs_nil _ _, rdFuncs_nil _ _, rdInstrs_nil _ _, (by show InI64 ((I5 : Int) * 2); unfold InI64; omega)⟩
                have p0 := row_of hp7 0 (.int .i64 1) rfl
                have p1 := row_of hp7 1 (.slice aa' (I5 + 1) ca') rfl
                have p2 := row_of hp7 2 (.slice ab' (I5 + 1) cb') rfl
                have p3 := row_of hp7 3 (.slice none 0 0) rfl
                have p4 := row_of hp7 4 (.slice none 0 0) rfl
                have q0 := row_of g1 0 (.int .i64 1) rfl
                have q1 := row_of g1 1 (.slice none 0 0) rfl
                have q2 := row_of g1 2 (.slice none 0 0) rfl
                have q3 := row_of g1 3 (.slice (some ⟨wc.heap.size, 0, none⟩) 1 1) rfl
                have q4 := row_of g1 4 (.slice none 0 0) rfl
                have HB7 := Lib.hid hb7
                have hbc := Below.refl W7.heap.size W7
                clear g0 g1 hp7 hb7 i1 HRC HRA
                go_wp2_with (first
                  | (go_at_call 3; with_reducible refine (checks_walk ⟨1, cs ++ [sn], ars ++ [(⟨sn, 1 + 2 * (I5 : Int)⟩ : ArrD)], [], []⟩ _ _ _ _ _ (HR1.out.keep hbc) (HL7.out.keep hbc)).mono ?_; rintro e wn ⟨rfl, hb⟩; replace hbc := bcomp hbc hb; have p0 := cell_keep hb p0; have p1 := cell_keep hb p1; have p2 := cell_keep hb p2; have p3 := cell_keep hb p3; have p4 := cell_keep hb p4; have q0 := cell_keep hb q0; have q1 := cell_keep hb q1; have q2 := cell_keep hb q2; have q3 := cell_keep hb q3; have q4 := cell_keep hb q4; clear hb)
                  | (go_at_call 3; with_reducible refine (checks_walk ⟨1, cs ++ [sn], [], [], []⟩ _ _ _ _ _ (HR2.out.keep hbc) (HL7.out.keep hbc)).mono ?_; rintro e wn ⟨rfl, hb⟩; replace hbc := bcomp hbc hb; have p0 := cell_keep hb p0; have p1 := cell_keep hb p1; have p2 := cell_keep hb p2; have p3 := cell_keep hb p3; have p4 := cell_keep hb p4; have q0 := cell_keep hb q0; have q1 := cell_keep hb q1; have q2 := cell_keep hb q2; have q3 := cell_keep hb q3; have q4 := cell_keep hb q4; clear hb)
                  | (go_at_call 3; with_reducible refine (checks_walk ⟨1, [], [], [⟨⟨#[102]⟩, cs ++ [sn], [], 0, 0⟩], []⟩ _ _ _ _ _ (HR3.out.keep hbc) (HL7.out.keep hbc)).mono ?_; rintro e wn ⟨rfl, hb⟩; replace hbc := bcomp hbc hb; have p0 := cell_keep hb p0; have p1 := cell_keep hb p1; have p2 := cell_keep hb p2; have p3 := cell_keep hb p3; have p4 := cell_keep hb p4; have q0 := cell_keep hb q0; have q1 := cell_keep hb q1; have q2 := cell_keep hb q2; have q3 := cell_keep hb q3; have q4 := cell_keep hb q4; clear hb)
                  | (go_at_call 3; with_reducible refine (checks_walk ⟨(I5 : Int) * 2, [], [], [], []⟩ _ _ _ _ _ (HR4.out.keep hbc) (HL7.out.keep hbc)).mono ?_; rintro e wn ⟨rfl, hb⟩; replace hbc := bcomp hbc hb; have p0 := cell_keep hb p0; have p1 := cell_keep hb p1; have p2 := cell_keep hb p2; have p3 := cell_keep hb p3; have p4 := cell_keep hb p4; have q0 := cell_keep hb q0; have q1 := cell_keep hb q1; have q2 := cell_keep hb q2; have q3 := cell_keep hb q3; have q4 := cell_keep hb q4; clear hb))
                go_roundw
                case rel =>
                  have hbx := bcomp HB7.out hbc
                  exact ⟨I5 + 1, _, _, _, _, by omega, by go_num, HCL2.out, HAL2.out, own_below HOW1.out hbx, own_below HOW2.out hbx, HCS2.out, HAS2.out, (hbx.block pb hpw).trans HPW.out, bcomp HBW.out hbx⟩
                case measure => simp [intOf]; omega
              --]]
            · have hl6 : ¬ ((I5 : Int) < 34) := by omega
              clear HOA HOB HCS HAS HCL HAL HPB hpb
              obtain ⟨ii, hin, hzn0, hzn1, hzn2⟩ := info_parts infoInstr
              go_upto_region 33 with (refine wpList_make_full _ rfl _ _ 25 rfl W2.heap.size 43 ii (.agg #[.int .u8 0, .int .u8 0, .string ⟨#[]⟩, .string ⟨#[]⟩, .slice none 0 0, .int .i64 0, .int .i64 0]) 7 Tryd.underlying25 hin hzn0 hzn1 .i64 .i64 1024 1024 1024 rfl rfl (by decide) (by decide) (by rw [hzn2]; omega) (by unfold maxLen; omega) hso ?_; intro w6 hown6 hg6)
              have hm6 := own_full hown6
              rw [show (madeCells (Value.agg #[.int .u8 0, .int .u8 0, .string ⟨#[]⟩, .string ⟨#[]⟩, .slice none 0 0, .int .i64 0, .int .i64 0]).cells (1024 * 7)).toList = (haltsP 0).flatMap insCells from made_flat (zI, .slice none 0 0) 1024] at hm6
              have hb6 := HB.out.grown hg6 hso (fun k h => by cases h)
              have hb7 := (Below.refl w6.heap.size w6).alloc (Nat.le_refl _) (.cells #[.int .i64 1, .slice none 0 0, .slice none 0 0, .slice none 0 0, .slice (some ⟨wo.heap.size, 0, none⟩) 1024 1024] 27)
              have g7 := heap_alloc_new w6 (.cells #[.int .i64 1, .slice none 0 0, .slice none 0 0, .slice none 0 0, .slice (some ⟨wo.heap.size, 0, none⟩) 1024 1024] 27)
              have hml : wo.heap.size < w6.heap.size := (Array.getElem?_eq_some_iff.1 hm6).1
              have hm7 := (hb7.block _ hml).trans hm6
              have HB7 := Lib.hid (bcomp hb6 hb7)
              have hq7 : W2.heap.size ≤ w6.heap.size := hb6.size
              generalize w6.alloc (.cells #[.int .i64 1, .slice none 0 0, .slice none 0 0, .slice none 0 0, .slice (some ⟨wo.heap.size, 0, none⟩) 1024 1024] 27) = W7 at *
              have HM7 := Lib.hid hm7
              have HQ7 := Lib.hid g7
              have hqm : w6.heap.size ≠ wo.heap.size := by omega
              generalize w6.heap.size = qb at *
              have hmb : W2.heap.size ≤ wo.heap.size := hso
              generalize wo.heap.size = mb at *
              clear hown6 hg6 hm6 hb6 hb7 g7 hm7 HB
              go_wp2_with fail
              go_loopw [13] (fun ii wr => ∃ I : Nat, I ≤ 1024 ∧ ii = .int .i64 I ∧ wr.heap[qb]? = some (.cells #[.int .i64 1, .slice none 0 0, .slice none 0 0, .slice none 0 0, .slice (some ⟨mb, 0, none⟩) 1024 1024] 27 (0, 0)) ∧ wr.heap[mb]? = some (.cells ((haltsP I).flatMap insCells).toArray 43 (0, 0)) ∧ Below W2.heap.size W2 wr) (fun ii _ => 1024 - (intOf ii).toNat)
              case atStart => exact ⟨0, by omega, rfl, HQ7.out, HM7.out, HB7.out⟩
              case round =>
                obtain ⟨w8, rfl⟩ : ∃ x : World, x = wr := ⟨_, rfl⟩
                obtain ⟨I6, hI6, rfl, hq, hm, hb⟩ := hrel
                clear HQ7 HM7 HB7
                have HQ := Lib.hid hq
                have HM := Lib.hid hm
                have HB := Lib.hid hb
                have p4 := row_of hq 4 (.slice (some ⟨mb, 0, none⟩) 1024 1024) rfl
                by_cases hl7 : I6 < 1024
                · have hl8 : (I6 : Int) < 1024 := by omega
                  have c0 := row_of hm (I6 * 7) (.int .u8 0) (by rw [List.getElem?_toArray]; exact haltsP_cell hl7)
                  have f0 := frozen_of_row w8 mb (I6 * 7) _ _ hm
                  have HPT := Lib.hid (haltsP_put hl7)
                  clear hq hm hb
                  go_wp2_with fail
                  go_roundw
                  case rel =>
                    refine ⟨I6 + 1, by omega, by go_num, (heap_setCell_other _ _ _ _ hqm).trans HQ.out, ?_, HB.out.setCell hmb _⟩
                    rw [← HPT.out]
                    exact heap_setCell_same _ _ (I6 * 7) _ _ _ HM.out
                  case measure => simp [intOf]; omega
                · have hl8 : ¬ ((I6 : Int) < 1024) := by omega
                  have hI : I6 = 1024 := by omega
                  have hm1 : w8.heap[mb]? = some (.cells ((List.replicate 1024 (iHalt, Value.slice none 0 0)).flatMap insCells).toArray 43 (0, 0)) := by rw [← haltsP_end, ← hI]; exact hm
                  have hlen : ((List.replicate 1024 (iHalt, Value.slice none 0 0)).flatMap insCells).length = 1024 * 7 := by rw [flat_length insCells 7 (fun _ => rfl), List.length_replicate]
                  have hown : w8.ownsRow W2.heap.size 43 7 (.slice (some ⟨mb, 0, none⟩) 1024 1024) 1024 ((List.replicate 1024 (iHalt, Value.slice none 0 0)).flatMap insCells) := own_of hm1 hmb hlen (by unfold maxLen; omega)
                  have hhc : ∀ r v, (insCells (iHalt, Value.slice none 0 0))[r]? = some v → ((List.replicate 1024 (iHalt, Value.slice none 0 0)).flatMap insCells).toArray[r]? = some v := fun r v hv => by
                    have hr7 : r < 7 := (List.getElem?_eq_some_iff.1 hv).1
                    have h1 : (List.replicate 1024 (iHalt, Value.slice none 0 0))[0]? = some (iHalt, Value.slice none 0 0) := by rw [List.getElem?_replicate, if_pos (by omega)]
                    have := flat_get insCells 7 (fun _ => rfl) _ 0 r _ h1 hr7
                    rw [Nat.zero_mul, Nat.zero_add] at this
                    rw [List.getElem?_toArray, this]; exact hv
                  have HMC : Hid (∀ r v, (insCells (iHalt, Value.slice none 0 0))[r]? = some v → w8.cell? ⟨mb, r, none⟩ = some v) := fun r v hv => row_of hm1 r v (hhc r v hv)
                  have HOW := Lib.hid hown
                  have HRD := Lib.hid (halts_rd (by omega) hown)
                  have HL8 := Lib.hid (HL2.out.keep hb)
                  generalize hR : (List.replicate 1024 (iHalt, Value.slice none 0 0)).flatMap insCells = RW at *
                  have HRW := Lib.hid hR
                  clear hI hm hm1 hlen hown hhc HM hR
                  have C1 := check_any (pMain (List.replicate 1024 iHalt)) (.slice none 0 0) (.slice none 0 0) (.slice none 0 0) (.slice (some ⟨mb, 0, none⟩) 1024 1024) w8 ⟨rdStrs_nil _ _, rdArrs_nil _ _, rdFuncs_nil _ _, HRD.out, (by show InI64 1; unfold InI64; omega)⟩ HL8.out
                  rw [halts_ok (Nat.le_refl _)] at C1
                  have HC1 : Hid (Calls Tryd.prog 13 #[.agg #[.int .i64 1, .slice none 0 0, .slice none 0 0, .slice none 0 0, .slice (some ⟨mb, 0, none⟩) 1024 1024]] w8 fun e w' => e = .returned (.tuple #[.agg #[.int .i64 0, .int .i64 0], .int .i64 0]) ∧ Below w8.heap.size w8 w') := C1
                  have p0 := row_of hq 0 (.int .i64 1) rfl
                  have p1 := row_of hq 1 (.slice none 0 0) rfl
                  have p2 := row_of hq 2 (.slice none 0 0) rfl
                  have p3 := row_of hq 3 (.slice none 0 0) rfl
                  clear C1 hq hb
                  go_upto_region 38 with (go_at_call 13; refine HC1.out.mono ?_; rintro e w9 ⟨rfl, hb9⟩)
                  have hb10 := bcomp hb9 ((Below.refl w9.heap.size w9).alloc (Nat.le_refl _) (.cells #[.int .i64 0, .int .i64 0] 30))
                  generalize w9.alloc (.cells #[.int .i64 0, .int .i64 0] 30) = W10 at *
                  have HQ10 := Lib.hid ((hb10.block qb (Array.getElem?_eq_some_iff.1 HQ.out).1).trans HQ.out)
                  have HO10 := Lib.hid (own_below HOW.out hb10)
                  have HMC10 : Hid (∀ r v, (insCells (iHalt, Value.slice none 0 0))[r]? = some v → W10.cell? ⟨mb, r, none⟩ = some v) := fun r v hv => cell_keep hb10 (HMC.out r v hv)
                  have HB10 := Lib.hid (bcomp HB.out hb10)
                  have HL10 := Lib.hid (HL8.out.keep hb10)
                  clear hb9 hb10 p0 p1 p2 p3 p4 HQ HOW HMC HB HL8 HC1 HRD
                  refine wp_region_mix (.one [0, 1, 2, 3, 4, 5] 6 (.one [] 7 (tailOf [8, 9]))) (fun j => decide (7 ≤ j)) (by kernel_rfl) (by kernel_rfl) rfl (by kernel_rfl) (fun _ d _ _ _ h => by cases d <;> exact h) ?_
                  have HBd : Hid (Below W10.heap.size W10 W10.drew) := (Below.refl _ _).drew
                  generalize W10.drew = wn at *
                  have l4 := ext_cell (row_of HQ10.out 4 (.slice (some ⟨mb, 0, none⟩) 1024 1024) rfl)
                  have m0 := ext_cell (HMC10.out 0 (.int .u8 11) rfl)
                  have m1 := ext_cell (HMC10.out 1 (.int .u8 0) rfl)
                  have m2 := ext_cell (HMC10.out 2 (.string ⟨#[]⟩) rfl)
                  have m3 := ext_cell (HMC10.out 3 (.string ⟨#[]⟩) rfl)
                  have m4 := ext_cell (HMC10.out 4 (.slice none 0 0) rfl)
                  have m5 := ext_cell (HMC10.out 5 (.int .i64 0) rfl)
                  have m6 := ext_cell (HMC10.out 6 (.int .i64 0) rfl)
                  refine mix_one (by simp only [opsOf, List.filterMap_cons, List.filterMap_nil, List.getElem?_toArray, List.getElem?_cons_succ, List.getElem?_cons_zero]; rfl) ⟨_, ext_of HBd.out⟩ ?_
                  change wpQuiet _ _ _ _ [_, _, _, _, _, _] _
                  (repeat (go_big_quiet_step (fail)))
                  refine wpQuiet_nil ?_
                  clear l4 m0 m1 m2 m3 m4 m5 m6
                  refine mix_step rfl ?_
                  go_wp2_with fail
                  have hbn : Below wn.heap.size wn (wn.alloc (.cells #[.int .u8 11, .int .u8 0, .string ⟨#[]⟩, .string ⟨#[]⟩, .slice none 0 0, .int .i64 0, .int .i64 0] 43)) := (Below.refl _ _).alloc (Nat.le_refl _) _
                  have ra := heap_alloc_new wn (.cells #[.int .u8 11, .int .u8 0, .string ⟨#[]⟩, .string ⟨#[]⟩, .slice none 0 0, .int .i64 0, .int .i64 0] 43)
                  have HBm := Lib.hid (bcomp HBd.out hbn)
                  have hownm := own_below HO10.out HBm.out
                  clear hbn
                  refine ⟨fun _ => ⟨_, ext_of HBm.out⟩, ?_⟩
                  generalize wn.alloc (.cells #[.int .u8 11, .int .u8 0, .string ⟨#[]⟩, .string ⟨#[]⟩, .slice none 0 0, .int .i64 0, .int .i64 0] 43) = wm at *
                  generalize wn.heap.size = gn at *
                  refine mix_now ?_
                  refine mix_step rfl ?_
                  have hqg := (HBm.out.block qb (Array.getElem?_eq_some_iff.1 HQ10.out).1).trans HQ10.out
                  have hsm : W2.heap.size ≤ wm.heap.size := Nat.le_trans HB10.out.size HBm.out.size
                  refine wpList_append_own _ rfl (.tmp 195) (.tmp 200) 25 rfl W2.heap.size 43 ii (.agg #[.int .u8 0, .int .u8 0, .string ⟨#[]⟩, .string ⟨#[]⟩, .slice none 0 0, .int .i64 0, .int .i64 0]) 7 80 Tryd.underlying25 hin hzn0 hzn1 hzn2 rfl (by decide) _ _ _ rfl hownm ⟨gn, 0, none⟩ 1 1 (insCells (iHalt, Value.slice none 0 0)) rfl rfl (many_of ra) (by intro u hu; simp [insCells] at hu; rcases hu with rfl | rfl | rfl | rfl | rfl | rfl | rfl <;> rfl) (by unfold maxLen; omega) (by omega) hsm ?_
                  intro v' w12 hown' hgrow _
                  obtain ⟨a', c', rfl, -⟩ := own_read hown'
                  have hqx := (hgrow.block qb (Array.getElem?_eq_some_iff.1 hqg).1 (fun e => own_ne_cells hownm hqg (by decide) e.symm)).trans hqg
                  have HB12 := Lib.hid ((bcomp HB10.out HBm.out).grown hgrow hsm (own_row_le hownm))
                  refine ⟨fun h => absurd h (by decide), ?_⟩
                  have p4 := row_of hqx 4 (.slice (some ⟨mb, 0, none⟩) 1024 1024) rfl
                  have f4 := frozen_of_row w12 qb 4 _ _ hqx
                  have hnq := own_ne_cells hown' hqx (by decide)
                  have HQX := Lib.hid hqx
                  have HOX := Lib.hid hown'
                  clear hown' hgrow hqg hqx ra hownm hsm
                  refine mix_tail [8, 9] [_, _] _ _ rfl rfl ?_
                  go_upto_region 39 with fail
                  have hq13 : (w12.setCell ⟨qb, 4, none⟩ (.slice a' 1025 c')).heap[qb]? = some (.cells #[.int .i64 1, .slice none 0 0, .slice none 0 0, .slice none 0 0, .slice a' 1025 c'] 27 (0, 0)) := heap_setCell_same _ _ 4 _ _ _ HQX.out
                  have ho13 : (w12.setCell ⟨qb, 4, none⟩ (.slice a' 1025 c')).ownsRow W2.heap.size 43 7 (.slice a' 1025 c') 1025 ((List.replicate 1025 (iHalt, Value.slice none 0 0)).flatMap insCells) := by
                    have h1 := ownsRow_setCell_other HOX.out (a := ⟨qb, 4, none⟩) hnq (.slice a' 1025 c')
                    have h2 : (List.replicate 1025 (iHalt, Value.slice none 0 0)).flatMap insCells = RW ++ insCells (iHalt, Value.slice none 0 0) := by
                      rw [show (1025 : Nat) = 1024 + 1 from rfl, List.replicate_succ', List.flatMap_append, HRW.out]; rfl
                    rw [h2]
                    exact h1
                  have hb13 : Below W2.heap.size W2 (w12.setCell ⟨qb, 4, none⟩ (.slice a' 1025 c')) := HB12.out.setCell hq7 _
                  generalize w12.setCell ⟨qb, 4, none⟩ (.slice a' 1025 c') = W13 at *
                  have HRD := Lib.hid (halts_rd (by omega) ho13)
                  have HL13 := Lib.hid (HL2.out.keep hb13)
                  have C1 := check_any (pMain (List.replicate 1025 iHalt)) (.slice none 0 0) (.slice none 0 0) (.slice none 0 0) (.slice a' 1025 c') W13 ⟨rdStrs_nil _ _, rdArrs_nil _ _, rdFuncs_nil _ _, HRD.out, (by show InI64 1; unfold InI64; omega)⟩ HL13.out
                  rw [halts_long (by omega)] at C1
                  have HC1 : Hid (Calls Tryd.prog 13 #[.agg #[.int .i64 1, .slice none 0 0, .slice none 0 0, .slice none 0 0, .slice a' 1025 c']] W13 fun e w' => e = .returned (.tuple #[.agg #[.int .i64 0, .int .i64 0], .int .i64 5]) ∧ Below W13.heap.size W13 w') := C1
                  have p0 := row_of hq13 0 (.int .i64 1) rfl
                  have p1 := row_of hq13 1 (.slice none 0 0) rfl
                  have p2 := row_of hq13 2 (.slice none 0 0) rfl
                  have p3 := row_of hq13 3 (.slice none 0 0) rfl
                  have p4 := row_of hq13 4 (.slice a' 1025 c') rfl
                  have HB13 := Lib.hid hb13
                  clear C1 hq13 ho13 hb13 f4 HOX HQX HRW
                  go_upto_region 40 with (go_at_call 13; refine HC1.out.mono ?_; rintro e w14 ⟨rfl, hb14⟩)
                  have hb15 := bcomp hb14 ((Below.refl w14.heap.size w14).alloc (Nat.le_refl _) (.cells #[.int .i64 0, .int .i64 0] 30))
                  generalize w14.alloc (.cells #[.int .i64 0, .int .i64 0] 30) = W15 at *
                  clear p0 p1 p2 p3 p4 hb14
                  have HL15 := Lib.hid (HL13.out.keep hb15)
                  go_wp2_with (go_at_call 16; refine (awake_any _ HL15.out).mono ?_; rintro e wz ⟨rfl, hbz⟩)
                  go_ret
                  have hA := bcomp HB13.out (bcomp hb15 hbz)
                  have hB : Below W.heap.size W W2 := bcomp HB1.out HB2.out
                  exact ⟨rfl, bcomp hB hA⟩
end Go.Proofs.YtjdbdoeopobciaaDoor
