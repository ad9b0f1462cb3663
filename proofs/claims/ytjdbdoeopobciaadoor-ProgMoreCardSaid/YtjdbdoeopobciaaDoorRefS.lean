/- Contracts of the reference's names and Sites. Condition: what comes in reads. Contract of the reference's Sites: the different sites of all instructions. Condition: the program reads, and has at most 100000 instructions. -/
import Derived.Test.YtjdbdoeopobciaaDoorFew
import Derived.Test.YtjdbdoeopobciaaDoorSpec
import Derived.Test.YtjdbdoeopobciaaDoorChe
import Derived.Test.YtjdbdoeopobciaaDoorCalm
set_option linter.unnecessarySimpa false
set_option linter.unusedVariables false
set_option linter.unusedSimpArgs false
namespace Go.Proofs.YtjdbdoeopobciaaDoor
open Go.ChangeShapes Go.WideShapes Go.ChangeAt Go.RowKit
theorem firstF_hit {α : Type} {f : List α → α → Option FaultD} {l : List α} {k : Nat} {x : α} {F : FaultD} (h : l[k]? = some x) (hn : firstF f [] (l.take k) = none) (hf : f (l.take k) x = some F) : firstF f [] l = some F := by
  have e : l = l.take k ++ x :: l.drop (k + 1) := by
    have hk : k < l.length := (List.getElem?_eq_some_iff.1 h).1
    rw [← (List.getElem?_eq_some_iff.1 h).2, List.getElem_cons_drop, List.take_append_drop]
  rw [e, firstF_append, hn, Option.none_or, List.nil_append, firstF, hf]
  rfl
theorem firstF_go {α : Type} {f : List α → α → Option FaultD} {l : List α} {k : Nat} {x : α} (h : l[k]? = some x) (hn : firstF f [] (l.take k) = none) (hf : f (l.take k) x = none) : firstF f [] (l.take (k + 1)) = none := by
  rw [List.take_add_one, h, firstF_append, hn, Option.none_or, List.nil_append]
  simp [firstF, hf]
def namesE (l : List ByteArray) : Int := if 32 < l.length then 5 else errOf (declsF l 0 0)
set_option maxRecDepth 100000 in
set_option maxHeartbeats 3200000 in
theorem refDecls (v : Value) (l : List ByteArray) (w : World) (h : RdStrs none w v l) :
    Calls Tryd.prog 36 #[v] w fun e w' => e = .returned (.int .i64 (namesE l)) ∧ Below w.heap.size w w' := by
  obtain ⟨a, c, rfl, ⟨hl, hlc⟩, hr⟩ := id h
  have HR := Lib.hid hr
  have H := Lib.hid h
  clear hr h
  go_enter Tryd.func36, Tryd.ntmps36
  by_cases hlong : 32 < l.length
  · have hlong' : (32 : Int) < (l.length : Int) := by omega
    have HE : Hid (namesE l = 5) := by unfold Hid namesE; rw [if_pos hlong]
    go_wp2_with fail
    go_ret
    exact ⟨by rw [HE.out]; rfl, Below.refl _ _⟩
  · have hlong' : ¬ (32 : Int) < (l.length : Int) := by omega
    have HE : Hid (namesE l = errOf (declsF l 0 0)) := by unfold Hid namesE; rw [if_neg hlong]
    go_wp2_with fail
    go_loopw [3] (fun i wr => ∃ k : Nat, k ≤ l.length ∧ i = .int .i64 k ∧ firstF (fun d s => declF d s 0 0) [] (l.take k) = none ∧ Below w.heap.size w wr) (fun i _ => l.length - (intOf i).toNat)
    case atStart => exact ⟨0, Nat.zero_le _, rfl, rfl, Below.refl _ _⟩
    case round =>
      obtain ⟨k, hk, rfl, hq, hb⟩ := hrel
      have HQ := Lib.hid hq
      have HB := Lib.hid hb
      clear hq hb
      by_cases hlt : k < l.length
      · have hlt' : (k : Int) < (l.length : Int) := by omega
        obtain ⟨x, hx⟩ : ∃ x, l[k]? = some x := ⟨_, List.getElem?_eq_getElem hlt⟩
        obtain ⟨b, o, rfl, _, c0, hsz⟩ := HR.out k x hx
        have c0' := cell_keep HB.out c0
        have C1 := Lib.hid (refNamed x wr hsz)
        have HX := Lib.hid hx
        have HC := Lib.hid c0
        clear hx c0
        cases hn : named x
        · have HV : Hid (errOf (declsF l 0 0) = 4) := by
            unfold Hid declsF
            rw [firstF_hit HX.out HQ.out (F := ⟨0, 0, 4⟩) (by unfold declF; rw [hn]; rfl)]
            rfl
          rw [hn] at C1
          clear hn
          go_wp2_with (go_at_call 63; refine C1.out.mono ?_; rintro e w1 ⟨rfl, hb1⟩)
          go_ret
          exact ⟨by rw [HE.out, HV.out]; rfl, bcomp HB.out hb1⟩
        · have HN := Lib.hid hn
          rw [hn] at C1
          clear hn
          go_upto_region 8 with (go_at_call 63; refine C1.out.mono ?_; rintro e w1 ⟨rfl, hb1⟩)
          have HB1 := Lib.hid (bcomp HB.out hb1)
          clear hb1 c0' C1
          have e0 := fun x => ext_cell (cell_keep HB1.out HC.out) x
          have hcut := (H.out.keep HB1.out).cut (n := k) (by omega)
          have c2 := fun y => refIs (.slice (some ⟨b, o, none⟩) k c) (l.take k) x (ext w1 y) (hcut.keep (ext_below _ _))
          have hkc : k ≤ c := by omega
          cases his : inL x (l.take k)
          · have HV : Hid (firstF (fun d s => declF d s 0 0) [] (l.take (k + 1)) = none) := firstF_go HX.out HQ.out (by unfold declF; rw [HN.out, his]; rfl)
            rw [his] at c2
            have C2 := Lib.hid c2
            clear c2 his hcut
            (refine wp_region_calm (by kernel_rfl) (by kernel_rfl) ?_; (repeat (go_big_quiet_step ((go_at_call 44; exact calls_calm ((C2.out _).mono (fun _ _ hh => ⟨hh.1, hh.2 ▸ Below.refl _ _⟩)))))); refine wpQuiet_nil ?_; intro wc hwc)
            have HB2 := Lib.hid (bcomp HB1.out hwc)
            clear e0
            go_wp2_with fail
            go_roundw
            case rel => exact ⟨k + 1, by omega, by go_num, HV.out, HB2.out⟩
            case measure => simp [intOf]; omega
          · have HV : Hid (errOf (declsF l 0 0) = 8) := by
              unfold Hid declsF
              rw [firstF_hit HX.out HQ.out (F := ⟨0, 0, 8⟩) (by unfold declF; rw [HN.out, his]; rfl)]
              rfl
            rw [his] at c2
            have C2 := Lib.hid c2
            clear c2 his hcut
            (refine wp_region_calm (by kernel_rfl) (by kernel_rfl) ?_; (repeat (go_big_quiet_step ((go_at_call 44; exact calls_calm ((C2.out _).mono (fun _ _ hh => ⟨hh.1, hh.2 ▸ Below.refl _ _⟩)))))); refine wpQuiet_nil ?_; intro wc hwc)
            have HB2 := Lib.hid (bcomp HB1.out hwc)
            clear e0
            go_wp2_with fail
            go_ret
            exact ⟨by rw [HE.out, HV.out]; rfl, HB2.out⟩
      · obtain rfl : k = l.length := by omega
        have HV : Hid (errOf (declsF l 0 0) = 0) := by
          unfold Hid declsF
          have := HQ.out
          rw [List.take_length] at this
          rw [this]; rfl
        go_wp2_with fail
        go_ret
        exact ⟨by rw [HE.out, HV.out]; rfl, HB.out⟩
open Go.ChangeShapes Go.WideShapes Go.ChangeAt Go.RowKit
/-- The instructions of the first i functions, and behind the last one those of main. -/
def preC (p : ProgD) (i : Nat) : List InstrD := codesOf (p.funcs.take i) ++ (if p.funcs.length < i then p.main else [])
theorem codesOf_append (l m : List FuncD) : codesOf (l ++ m) = codesOf l ++ codesOf m := by unfold codesOf; rw [List.flatMap_append]
theorem preC_step {p : ProgD} {i : Nat} (hi : i ≤ p.funcs.length) : preC p (i + 1) = preC p i ++ codeAt p i := by
  unfold preC codeAt
  by_cases h : i < p.funcs.length
  · obtain ⟨f, hf⟩ : ∃ f, p.funcs[i]? = some f := ⟨_, List.getElem?_eq_getElem h⟩
    rw [if_neg (by omega), if_neg (by omega), List.take_add_one, hf, codesOf_append]
    simp [codesOf]
  · obtain rfl : i = p.funcs.length := by omega
    rw [if_pos (by omega), if_neg (by omega), List.take_of_length_le (by omega), List.take_length, List.getElem?_eq_none (by omega)]
    simp
theorem preC_len (p : ProgD) (i : Nat) : (preC p i).length ≤ (codesOf p.funcs).length + p.main.length := by
  unfold preC
  have h : codesOf p.funcs = codesOf (p.funcs.take i) ++ codesOf (p.funcs.drop i) := by rw [← codesOf_append, List.take_append_drop]
  have := congrArg List.length h
  rw [List.length_append] at this
  rw [List.length_append]
  split <;> simp <;> omega
theorem sites_len : ∀ (l : List InstrD) (s : List ByteArray), (sitesOf s l).length ≤ s.length + l.length
  | [], s => by simp [sitesOf]
  | x :: l, s => by
    have h : sitesOf s (x :: l) = sitesOf (if x.kind == 7 then putL x.name s else s) l := rfl
    rw [h]
    have := sites_len l (if x.kind == 7 then putL x.name s else s)
    have h2 : (if x.kind == 7 then putL x.name s else s).length ≤ s.length + 1 := by
      split
      · unfold putL; split <;> simp
      · omega
    simp only [List.length_cons]
    omega
theorem code_step (l : List InstrD) {k : Nat} {x : InstrD} (h : l[k]? = some x) (s : List ByteArray) : sitesOf s (l.take (k + 1)) = if x.kind == 7 then putL x.name (sitesOf s (l.take k)) else sitesOf s (l.take k) := by
  rw [List.take_add_one, h]
  exact sitesOf_snoc _ _ _
set_option maxRecDepth 100000 in
set_option maxHeartbeats 1600000 in
theorem refBody2 (p : ProgD) (cv av fv mv : Value) (i : Nat) (w : World) (h : RdProg none w p cv av fv mv) (hi : i ≤ p.funcs.length) :
    Calls Tryd.prog 28 #[progV p cv av fv mv, .int .i64 i] w fun e w' => ∃ v, e = .returned v ∧ (∀ w0, RdProg none w0 p cv av fv mv → Below w0.heap.size w0 w → RdInstrs none w0 v (codeAt p i)) ∧ Below w.heap.size w w' := by
  obtain ⟨_, _, h3, h4, _⟩ := h
  obtain ⟨a, c, rfl, hl, hr⟩ := h3
  have HR := Lib.hid hr
  have H4 := Lib.hid h4
  obtain ⟨a4, c4, rfl, _⟩ := id h4
  clear hr h4
  by_cases hlt : i < p.funcs.length
  · obtain ⟨x, hx⟩ : ∃ x, p.funcs[i]? = some x := ⟨_, List.getElem?_eq_getElem hlt⟩
    obtain ⟨b, o, pv2, cv2, rfl, _, c0, c1, c2, _, _, hf⟩ := HR.out i x hx
    have HV : Hid (∀ w0, RdProg none w0 p cv av (.slice (some ⟨b, o, none⟩) p.funcs.length c) (.slice a4 p.main.length c4) → Below w0.heap.size w0 w → RdInstrs none w0 cv2 (codeAt p i)) := by
      intro w0 h0 hbw
      obtain ⟨_, _, h3, _, _⟩ := h0
      obtain ⟨a', c', e', _, hr'⟩ := h3
      simp only [Value.slice.injEq] at e'
      obtain ⟨rfl, -, -⟩ := e'
      obtain ⟨b', o', pv', cv', e2, _, _, _, x2, _, _, hf'⟩ := hr' i x hx
      simp only [Option.some.injEq, Addr.mk.injEq, and_true] at e2
      obtain ⟨rfl, rfl⟩ := e2
      rw [cell_keep hbw x2] at c2
      cases c2
      unfold codeAt; rw [hx]; exact hf'.2.1
    obtain ⟨a5, c5, rfl, _⟩ := id hf.2.1
    have hlt2 : (i : Int) < (p.funcs.length : Int) := by omega
    clear hx c0 c1 hf
    go_enter Tryd.func28, Tryd.ntmps28
    go_upto_region 1 with fail
    have hb0 : Below w.heap.size w (w.alloc (.cells #[.int .i64 p.width, cv, av, .slice (some ⟨b, o, none⟩) p.funcs.length c, .slice a4 p.main.length c4] 27)) := (Below.refl _ _).alloc (Nat.le_refl _) _
    have G0 := heap_alloc_new w (.cells #[.int .i64 p.width, cv, av, .slice (some ⟨b, o, none⟩) p.funcs.length c, .slice a4 p.main.length c4] 27)
    generalize w.alloc (.cells #[.int .i64 p.width, cv, av, .slice (some ⟨b, o, none⟩) p.funcs.length c, .slice a4 p.main.length c4] 27) = W1 at *
    have i3 := row_of G0 3 (.slice (some ⟨b, o, none⟩) p.funcs.length c) rfl
    have d2 := cell_keep hb0 c2
    have HB := Lib.hid hb0
    clear G0 hb0 c2
    go_wp2
    go_ret
    exact ⟨_, rfl, HV.out, HB.out⟩
  · obtain rfl : i = p.funcs.length := by omega
    have HV : Hid (∀ w0, RdProg none w0 p cv av (.slice a p.funcs.length c) (.slice a4 p.main.length c4) → Below w0.heap.size w0 w → RdInstrs none w0 (.slice a4 p.main.length c4) (codeAt p p.funcs.length)) := by
      intro w0 h0 _
      unfold codeAt; rw [List.getElem?_eq_none (Nat.le_refl _)]; exact h0.2.2.2.1
    go_enter Tryd.func28, Tryd.ntmps28
    go_upto_region 1 with fail
    have hb0 : Below w.heap.size w (w.alloc (.cells #[.int .i64 p.width, cv, av, .slice a p.funcs.length c, .slice a4 p.main.length c4] 27)) := (Below.refl _ _).alloc (Nat.le_refl _) _
    have G0 := heap_alloc_new w (.cells #[.int .i64 p.width, cv, av, .slice a p.funcs.length c, .slice a4 p.main.length c4] 27)
    generalize w.alloc (.cells #[.int .i64 p.width, cv, av, .slice a p.funcs.length c, .slice a4 p.main.length c4] 27) = W1 at *
    have i3 := row_of G0 3 (.slice a p.funcs.length c) rfl
    have i4 := row_of G0 4 (.slice a4 p.main.length c4) rfl
    have HB := Lib.hid hb0
    clear G0 hb0
    go_wp2
    go_ret
    exact ⟨_, rfl, HV.out, HB.out⟩
set_option maxRecDepth 100000 in
set_option maxHeartbeats 3200000 in
theorem refSites (p : ProgD) (cv av fv mv : Value) (w : World) (h : RdProg none w p cv av fv mv) (hN : (codesOf p.funcs).length + p.main.length ≤ 100000) :
    Calls Tryd.prog 64 #[progV p cv av fv mv] w fun e w' => ∃ v, e = .returned v ∧ RdStrs (some (upFrom w.heap.size)) w' v (sitesOf [] (preC p (p.funcs.length + 1))) ∧ Below w.heap.size w w' := by
  obtain ⟨hrc, hra, hrf, hrm, hrw⟩ := id h
  obtain ⟨ac, kc, rfl, -, -⟩ := id hrc
  obtain ⟨aa, ka, rfl, -, -⟩ := id hra
  obtain ⟨af, kf, rfl, ⟨hlf, -⟩, -⟩ := id hrf
  obtain ⟨am, km, rfl, -, -⟩ := id hrm
  obtain ⟨i0, hi, hz0, hz1, hz2⟩ := info_parts infoStr
  have H := Lib.hid h
  have HLN : Hid (∀ i, (preC p i).length ≤ 100000) := fun i => Nat.le_trans (preC_len p i) hN
  clear h hrc hra hrf hrm hrw hN
  go_enter Tryd.func64, Tryd.ntmps64
  go_wp2_with fail
  have hb0 := (Below.refl w.heap.size w).alloc (Nat.le_refl _) (.cells #[.int .i64 p.width, .slice ac p.chans.length kc, .slice aa p.arrays.length ka, .slice af p.funcs.length kf, .slice am p.main.length km] 27)
  have g0 := heap_alloc_new w (.cells #[.int .i64 p.width, .slice ac p.chans.length kc, .slice aa p.arrays.length ka, .slice af p.funcs.length kf, .slice am p.main.length km] 27)
  generalize w.alloc (.cells #[.int .i64 p.width, .slice ac p.chans.length kc, .slice aa p.arrays.length ka, .slice af p.funcs.length kf, .slice am p.main.length km] 27) = W1 at *
  have G0 := Lib.hid g0
  have HB0 := Lib.hid hb0
  have hs1 : w.heap.size < W1.heap.size := (Array.getElem?_eq_some_iff.1 g0).1
  clear g0 hb0
  go_loopw [3, 4, 5, 6] (fun out ii _ _ wr => ∃ (i : Nat) (S : List ByteArray) (a : Option Addr) (c : Nat), i ≤ p.funcs.length + 1 ∧ ii = .int .i64 i ∧ Hid (S = sitesOf [] (preC p i)) ∧ out = .slice a S.length c ∧ wr.ownsRow W1.heap.size 9 1 (.slice a S.length c) S.length (S.flatMap strCells) ∧ (∀ s ∈ S, s.size ≤ maxLen) ∧ Below W1.heap.size W1 wr) (fun _ ii _ _ _ => p.funcs.length + 1 - (intOf ii).toNat)
  case atStart => exact ⟨0, [], none, 0, by omega, rfl, by unfold Hid preC; simp [codesOf, sitesOf], rfl, World.ownsRow_nil _ _ _ _, (fun s hs => nomatch hs), Below.refl _ _⟩
  case round =>
    obtain ⟨i, S, a, c, hin, rfl, HS, rfl, hown, hok, hb⟩ := hrel
    have HO := Lib.hid hown
    have HK := Lib.hid hok
    have HB := Lib.hid hb
    have hg := (hb.block w.heap.size hs1).trans G0.out
    have hsz := hb.size
    have l0 := row_of hg 0 _ rfl
    have l1 := row_of hg 1 _ rfl
    have l2 := row_of hg 2 _ rfl
    have l3 := row_of hg 3 _ rfl
    have l4 := row_of hg 4 _ rfl
    clear hown hok hb hg
    by_cases hlt : i ≤ p.funcs.length
    · have hlt' : (i : Int) ≤ (p.funcs.length : Int) := by omega
      have HBd := Lib.hid (refBody2 p _ _ _ _ i wr ((H.out.keep HB0.out).keep HB.out) hlt)
      go_upto_region 6 with (go_at_call 28; refine HBd.out.mono ?_; rintro e w5 ⟨bv, rfl, hbr, hb5⟩; obtain ⟨ba, bc, rfl, ⟨hlb, -⟩, hbr⟩ := hbr W1 (H.out.keep HB0.out) HB.out)
      clear l0 l1 l2 l3 l4 HBd
      have HR := Lib.hid hbr
      have HB5 := Lib.hid (HB.out.trans (hb5.mono hsz))
      have HO5 := Lib.hid (own_below HO.out hb5)
      clear hbr hb5 HO HB
      go_wp2_with fail
      go_loopw [3, 6] (fun out kk wi => ∃ (k : Nat) (T : List ByteArray) (a : Option Addr) (c : Nat), k ≤ (codeAt p i).length ∧ kk = .int .i64 k ∧ Hid (T = sitesOf S ((codeAt p i).take k)) ∧ out = .slice a T.length c ∧ wi.ownsRow W1.heap.size 9 1 (.slice a T.length c) T.length (T.flatMap strCells) ∧ (∀ s ∈ T, s.size ≤ maxLen) ∧ Below W1.heap.size W1 wi) (fun _ kk _ => (codeAt p i).length - (intOf kk).toNat)
      case atStart => exact ⟨0, S, a, c, Nat.zero_le _, rfl, by unfold Hid; simp [sitesOf], rfl, HO5.out, HK.out, HB5.out⟩
      case round =>
        obtain ⟨k, T, a', c', hkn, rfl, HT, rfl, hown, hok, hb⟩ := hrel
        obtain ⟨wi, rfl⟩ : ∃ x : World, x = wr := ⟨_, rfl⟩
        have HKT := Lib.hid hok
        have HBI := Lib.hid hb
        have hszi := hb.size
        have hTl : T.length ≤ 100000 := by
          rw [HT.out, HS.out]
          have h1 := sites_len ((codeAt p i).take k) (sitesOf [] (preC p i))
          have h2 := sites_len (preC p i) []
          have h3 := HLN.out (i + 1)
          rw [preC_step hlt, List.length_append] at h3
          simp only [List.length_nil, List.length_take] at h1 h2
          omega
        by_cases hkl : k < (codeAt p i).length
        · have hkl' : (k : Int) < ((codeAt p i).length : Int) := by omega
          obtain ⟨x, hx⟩ : ∃ x, (codeAt p i)[k]? = some x := ⟨_, List.getElem?_eq_getElem hkl⟩
          obtain ⟨b, o, av, rfl, -, c0, -, -, c3, -, -, -, hri⟩ := HR.out k x hx
          have d0 := cell_keep hb c0
          have d3 := cell_keep hb c3
          have hns := hri.2.2.2.2.2.2
          have hrd : RdStrs none wi (.slice a' T.length c') T := (own_strs hown (by omega) hok).forget
          have HIs := Lib.hid (fun (w' : World) (e : w' = wi) => e ▸ refIs (.slice a' T.length c') T x.name wi hrd)
          have HST := Lib.hid (code_step (codeAt p i) hx S)
          clear c0 c3 hri hx hok hb hrd
          by_cases h7 : x.kind = 7
          · have h7b : (x.kind == 7) = true := by simpa using h7
            cases his : inL x.name T
            · have HN : Hid (T ++ [x.name] = sitesOf S ((codeAt p i).take (k + 1))) := by
                unfold Hid
                rw [HST.out, if_pos h7b, ← HT.out]
                unfold putL
                rw [if_neg (by rw [his]; simp)]
              have hxk : x.kind = 7 := h7
              have C := HIs.out wi rfl
              rw [his] at C
              have HC := Lib.hid C
              clear C his HIs HST h7b
              rw [hxk] at d0
              clear h7 hxk
              go_wp2_with (first
                | (go_at_call 44; refine HC.out.mono ?_; rintro e w6 ⟨rfl, rfl⟩)
                | (at_builtin; refine wpList_append_own _ rfl (.tmp 39) (.tmp 45) 22 rfl W1.heap.size 9 i0 (.string ⟨#[]⟩) 1 16 Tryd.underlying22 hi hz0 hz1 hz2 rfl (by decide) _ _ _ rfl (hown.alloc _) ⟨wi.heap.size, 0, none⟩ 1 1 (strCells x.name) rfl rfl (many_new _ _ _) ?c2 ?c3 ?c4 ?c5 ?_))
              case c2 => intro u hu; simp [strCells] at hu; subst hu; rfl
              case c3 => unfold maxLen; omega
              case c4 => omega
              case c5 => first | omega | (simp; omega)
              · intro v' w1 hown' hgrow _
                obtain ⟨a2, c2, rfl, -⟩ := own_read hown'
                have hle := own_row_le hown
                have hb1 := (HBI.out.alloc hszi (.cells (strCells x.name).toArray 9)).grown hgrow (by simp; omega) hle
                have e : T.flatMap strCells ++ strCells x.name = (T ++ [x.name]).flatMap strCells := by simp
                rw [e] at hown'
                have HOW := Lib.hid hown'
                have HBN := Lib.hid hb1
                have hlen : (T ++ [x.name]).length = T.length + 1 := by simp
                clear hown hown' hgrow hle hb1 e
                go_wp2_with fail
                go_roundw
                case rel =>
                  refine ⟨k + 1, T ++ [x.name], a2, c2, by omega, by go_num, HN, by rw [hlen], by rw [hlen]; exact HOW.out, fun s hs => ?_, HBN.out⟩
                  rcases List.mem_append.1 hs with h | h
                  · exact HKT.out s h
                  · rw [List.mem_singleton] at h; subst h; exact hns
                case measure => simp [intOf]; omega
            · have HN : Hid (T = sitesOf S ((codeAt p i).take (k + 1))) := by
                unfold Hid
                rw [HST.out, if_pos h7b, ← HT.out]
                unfold putL
                rw [if_pos his]
              have hxk : x.kind = 7 := h7
              have C := HIs.out wi rfl
              rw [his] at C
              have HC := Lib.hid C
              have HOW := Lib.hid hown
              clear C his HIs HST h7b hown
              rw [hxk] at d0
              clear h7 hxk
              go_wp2_with (go_at_call 44; refine HC.out.mono ?_; rintro e w6 ⟨rfl, rfl⟩)
              go_roundw
              case rel => exact ⟨k + 1, T, a', c', by omega, by go_num, HN, rfl, HOW.out, HKT.out, HBI.out⟩
              case measure => simp [intOf]; omega
          · have h7b : (x.kind == 7) = false := by simpa using h7
            have HN : Hid (T = sitesOf S ((codeAt p i).take (k + 1))) := by
              unfold Hid
              rw [HST.out, h7b]
              exact HT.out
            have HOW := Lib.hid hown
            clear HIs HST hown
            go_wp2_with fail
            go_roundw
            case rel => exact ⟨k + 1, T, a', c', by omega, by go_num, HN, rfl, HOW.out, HKT.out, HBI.out⟩
            case measure => simp [intOf]; omega
        · obtain rfl : k = (codeAt p i).length := by omega
          have HN : Hid (T = sitesOf [] (preC p (i + 1))) := by
            unfold Hid
            rw [HT.out, List.take_length, HS.out, preC_step hlt, sitesOf_append]
          have HOW := Lib.hid hown
          clear hown hok hb
          go_wp2_with fail
          go_roundw
          case rel => exact ⟨i + 1, T, a', c', by omega, by go_num, HN, rfl, HOW.out, HKT.out, HBI.out⟩
          case measure => simp [intOf]; omega
    · obtain rfl : i = p.funcs.length + 1 := by omega
      have hlt' : ¬ ((p.funcs.length : Int) + 1 ≤ (p.funcs.length : Int)) := by omega
      have HV := Lib.hid HS.out
      go_wp2_with fail
      go_ret
      refine ⟨_, rfl, ?_, HB0.out.trans (HB.out.mono HB0.out.size)⟩
      rw [← HV.out]
      have hTl : S.length ≤ 100000 := by
        rw [HV.out]
        have h1 := sites_len (preC p (p.funcs.length + 1)) []
        have h2 := HLN.out (p.funcs.length + 1)
        simp only [List.length_nil] at h1
        omega
      exact (own_strs HO.out (by omega) HK.out).up (Nat.le_of_lt hs1)
end Go.Proofs.YtjdbdoeopobciaaDoor
