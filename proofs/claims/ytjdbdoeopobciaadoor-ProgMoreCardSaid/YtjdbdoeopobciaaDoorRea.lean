/- Contract of the reference's reaches: which functions a function calls, directly or through others. Conditions: the program reads; its functions have different names. -/
import Derived.Test.YtjdbdoeopobciaaDoorQue
set_option linter.unnecessarySimpa false
set_option linter.unusedVariables false
set_option linter.unusedSimpArgs false
namespace Go.Proofs.YtjdbdoeopobciaaDoor
open Go.ChangeShapes Go.WideShapes Go.ChangeAt Go.RowKit
theorem findZ_idx (s : ByteArray) (l : List FuncD) : (∃ y : Nat, idxOf l s = some y ∧ findZ s l = y ∧ y < l.length) ∨ (idxOf l s = none ∧ findZ s l = -1) := by
  unfold findZ idxOf
  cases h : l.findIdx? (fun f => decide (f.name = s)) with
  | none => exact .inr ⟨rfl, rfl⟩
  | some j => exact .inl ⟨j, rfl, rfl, (List.findIdx?_eq_some_iff_getElem.1 h).1⟩
theorem count_cut {l : List Bool} {y : Nat} (h : l[y]? = some false) : (l.set y true).count false + 1 = l.count false := by
  obtain ⟨hy, e⟩ := List.getElem?_eq_some_iff.1 h
  have hpos : 0 < l.count false := List.count_pos_iff.2 (e ▸ List.getElem_mem hy)
  rw [List.count_set hy, e]
  simp
  omega
def boolsO (O : List Bool) : Array Value := (O.map Value.bool).toArray
theorem boolsO_at {O : List Bool} {y : Nat} {b : Bool} (h : O[y]? = some b) : (boolsO O)[y]? = some (.bool b) := by
  unfold boolsO; simp [h]
theorem boolsO_set (O : List Bool) (y : Nat) : (boolsO O).setIfInBounds y (.bool true) = boolsO (O.set y true) := by
  unfold boolsO
  simp [List.map_set]
theorem made_bools (n : Nat) : madeCells #[Value.bool false] n = boolsO (List.replicate n false) := by
  have := toList_madeCells_one (.bool false) n
  unfold boolsO
  rw [List.map_replicate, ← this]
theorem under_ints : Tryd.prog.underlying 108 = some (.slice (Tryd.prog.elem 108)) := by kernel_rfl
theorem size_int (w : World) : (sizeOf (Tryd.prog.elem 108)).run Tryd.prog w = .ok 1 w := by kernel_rfl
set_option maxRecDepth 100000 in
set_option maxHeartbeats 6400000 in
theorem refReaches (p : ProgD) (cv av fv mv : Value) (i : Nat) (f : FuncD) (w : World) (h : RdProg none w p cv av fv mv) (hd : Distinct p.funcs) (hi : p.funcs[i]? = some f) (hl : p.funcs.length ≤ 32) :
    Calls Tryd.prog 67 #[progV p cv av fv mv, .int .i64 i] w fun e w' => ∃ (b : Nat) (O : List Bool), e = .returned (.slice (some ⟨b, 0, none⟩) p.funcs.length p.funcs.length) ∧ w'.heap[b]? = some (.cells (boolsO O) 4 (0, 0)) ∧ O.length = p.funcs.length ∧ (∀ (j : Nat) (g : FuncD), p.funcs[j]? = some g → (O[j]? = some true ↔ Reach p.funcs f.name g.name)) ∧ Below w.heap.size w w' := by
  obtain ⟨hrc, hra, hrf, hrm, hrw⟩ := id h
  obtain ⟨ac, kc, rfl, -, -⟩ := id hrc
  obtain ⟨aa, ka, rfl, -, -⟩ := id hra
  obtain ⟨af, kf, rfl, -, hrfs⟩ := id hrf
  obtain ⟨am, km, rfl, -, -⟩ := id hrm
  obtain ⟨i0, hj, hz0, hz1, hz2⟩ := info_parts infoBool
  obtain ⟨i1, hj1, hy0, hy1, hy2⟩ := info_parts infoInt
  obtain ⟨fs, hfs⟩ : ∃ l, l = p.funcs := ⟨_, rfl⟩
  have H := Lib.hid h
  have HD := Lib.hid hd
  have HI := Lib.hid hi
  have HR := Lib.hid hrfs
  have hlen := hl
  clear h hrc hra hrf hrm hrw hrfs hd hi hfs
  go_enter Tryd.func67, Tryd.ntmps67
  go_upto_region 1 with fail
  have hb0 := (Below.refl w.heap.size w).alloc (Nat.le_refl _) (.cells #[.int .i64 p.width, .slice ac p.chans.length kc, .slice aa p.arrays.length ka, .slice af p.funcs.length kf, .slice am p.main.length km] 27)
  have g0 := heap_alloc_new w (.cells #[.int .i64 p.width, .slice ac p.chans.length kc, .slice aa p.arrays.length ka, .slice af p.funcs.length kf, .slice am p.main.length km] 27)
  have e0 : (w.alloc (.cells #[.int .i64 p.width, .slice ac p.chans.length kc, .slice aa p.arrays.length ka, .slice af p.funcs.length kf, .slice am p.main.length km] 27)).heap.size = w.heap.size + 1 := by
    show (w.heap.push _).size = _
    simp
  generalize w.alloc (.cells #[.int .i64 p.width, .slice ac p.chans.length kc, .slice aa p.arrays.length ka, .slice af p.funcs.length kf, .slice am p.main.length km] 27) = W1 at *
  have l3 := row_of g0 3 _ rfl
  have G0 := Lib.hid g0
  have HB0 := Lib.hid hb0
  have HE0 := Lib.hid e0
  clear g0 hb0 e0
  go_upto_region 2 with (refine wpList_make_row _ rfl _ _ 93 rfl 4 i0 (.bool false) Tryd.underlying93 hj hz0 hz1 rfl .i64 .i64 p.funcs.length rfl rfl ?b1 ?b2 ?_)
  case b1 => rw [hz2]; omega
  case b2 => omega
  have hb1 := (Below.refl W1.heap.size W1).alloc (Nat.le_refl _) (.cells (madeCells #[.bool false] p.funcs.length) 4)
  have g1 := heap_alloc_new W1 (.cells (madeCells #[.bool false] p.funcs.length) 4)
  have e1 : (W1.alloc (.cells (madeCells #[.bool false] p.funcs.length) 4)).heap.size = W1.heap.size + 1 := by
    show (W1.heap.push _).size = _
    simp
  generalize W1.alloc (.cells (madeCells #[.bool false] p.funcs.length) 4) = W2 at *
  rw [made_bools] at g1
  obtain ⟨B, hB⟩ : ∃ b, W1.heap.size = b := ⟨_, rfl⟩
  rw [hB] at g1 e1 ⊢
  have G0' := Lib.hid ((hb1.block w.heap.size (by have := HE0.out; omega)).trans G0.out)
  have HB2 := Lib.hid (HB0.out.trans (hb1.mono (by have := HE0.out; omega)))
  have G1 := Lib.hid g1
  have hB1 : w.heap.size + 1 = B := by rw [← hB]; exact HE0.out.symm
  clear g1 hb1 l3 G0 HB0 HE0 hB
  go_wp2_with fail
  have HQ0 := Lib.hid (Que.start W2 (base := B + 1) (by omega) i)
  have hb3 := (Below.refl W2.heap.size W2).alloc (Nat.le_refl _) (.cells #[.int .i64 i] 3)
  rw [e1] at HQ0
  generalize W2.alloc (.cells #[.int .i64 i] 3) = W3 at *
  have G3 := Lib.hid ((hb3.block w.heap.size (by omega)).trans G0'.out)
  have K3 := Lib.hid ((hb3.block B (by omega)).trans G1.out)
  have HB3 := Lib.hid (HB2.out.trans (hb3.mono (by omega)))
  have hsz3 : B + 1 ≤ W3.heap.size := by have := hb3.size; omega
  clear hb3 G0' G1 HB2
  go_loopg [6, 7, 8, 9] (p.funcs.length + 1) (fun gk todo _ _ _ wr => ∃ (T : List Nat) (O : List Bool), Search p.funcs f i O T none [] ∧ Que wr (B + 1) todo T ∧ wr.heap[B]? = some (.cells (boolsO O) 4 (0, 0)) ∧ wr.heap[w.heap.size]? = some (.cells #[.int .i64 p.width, .slice ac p.chans.length kc, .slice aa p.arrays.length ka, .slice af p.funcs.length kf, .slice am p.main.length km] 27 (0, 0)) ∧ Below w.heap.size w wr ∧ B + 1 ≤ wr.heap.size ∧ T.length + O.count false ≤ gk ∧ gk ≤ p.funcs.length + 1)
  case atStart => exact ⟨[i], List.replicate p.funcs.length false, Search.start HI.out, HQ0.out, K3.out, G3.out, HB3.out, hsz3, by simp [List.count_replicate_self]; omega, Nat.le_refl _⟩
  case round =>
    obtain ⟨wo, rfl⟩ : ∃ x : World, x = wr := ⟨_, rfl⟩
    obtain ⟨go, rfl⟩ : ∃ x : Nat, x = gk := ⟨_, rfl⟩
    obtain ⟨T, O, hsr, hq, hrow, hbox, hb, hsz, hms, hgk⟩ := hrel
    have HS := Lib.hid hsr
    have HQ := Lib.hid hq
    have HRW := Lib.hid hrow
    have HBX := Lib.hid hbox
    have HB := Lib.hid hb
    obtain ⟨ta, tc, hte⟩ := hq.shape
    clear hsr hq hrow hbox hb
    cases T with
    | nil =>
      subst hte
      have HV : Hid (∀ (j : Nat) (g : FuncD), p.funcs[j]? = some g → (O[j]? = some true ↔ Reach p.funcs f.name g.name)) := fun j g hg => HS.out.done HD.out HI.out hg
      go_wp2_with fail
      go_ret
      exact ⟨B, O, rfl, HRW.out, HS.out.len, HV.out, HB.out⟩
    | cons x T =>
      obtain ⟨hxl, -⟩ := HS.out.left x List.mem_cons_self
      obtain ⟨fx, hfx⟩ : ∃ g, p.funcs[x]? = some g := ⟨_, List.getElem?_eq_getElem hxl⟩
      have HFX := Lib.hid hfx
      have HP := Lib.hid HS.out.pop
      obtain ⟨g, o, cap, e9, hcap, hcx, hgb, hq2⟩ := HQ.out.pop
      clear hte
      subst e9
      have HQ2 := Lib.hid hq2
      obtain ⟨fb, fo, pv9, cv9, rfl, -, -, -, y2, -, -, hf9⟩ := HR.out x fx hfx
      obtain ⟨xa, xc, rfl, hlx, -⟩ := id hf9.2.1
      have HCV := Lib.hid hf9.2.1
      have y2' := cell_keep HB.out y2
      have l3 := row_of HBX.out 3 _ rfl
      have e2 := fun z => ext_cell y2' z
      have e3 := fun z => ext_cell l3 z
      have ex := fun z => ext_cell hcx z
      have hxl' : (x : Int) < (p.funcs.length : Int) := by omega
      have hcut := fun w => run_que_cut under_ints size_int g o T.length cap hcap w
      clear hf9 y2 y2' l3 hfx hq2
      go_upto_region 4 with fail
      (refine wp_region_calm (by kernel_rfl) (by kernel_rfl) ?_; (repeat (go_big_quiet_step (fail))); refine wpQuiet_nil ?_; intro wc hwc)
      have HBC := Lib.hid (bcomp HB.out hwc)
      have HQC := Lib.hid (HQ2.out.below hwc)
      have HRC := Lib.hid ((hwc.block B (by omega)).trans HRW.out)
      have HXC := Lib.hid ((hwc.block w.heap.size (by omega)).trans HBX.out)
      have hszc := hwc.size
      obtain ⟨a6, ha6⟩ : ∃ a : Option Addr, (if cap = 1 then some ⟨g, o, none⟩ else some ⟨g, o + 1, none⟩) = a := ⟨_, rfl⟩
      rw [ha6] at HQC hcut
      have HCD : Hid (callees p.funcs x = (callsOf fx.code).filterMap (idxOf p.funcs)) := by unfold Hid callees; rw [HFX.out]
      have hms' : T.length + O.count false + 1 ≤ go := by simp only [List.length_cons] at hms; omega
      clear e2 e3 ex HQ HQ2 HRW HBX HB hwc ha6 hcx hcap hgb hms HS HFX
      go_wp2_with fail
      clear hcut
      obtain ⟨code, hcode⟩ : ∃ c, fx.code = c := ⟨_, rfl⟩
      rw [hcode] at HCV HCD hlx ⊢
      clear hcode
      have HSZ := Lib.hid hlx
      go_loopw [6, 8, 9] (fun todo kk _ wr => ∃ (k : Nat) (T2 : List Nat) (O2 : List Bool), k ≤ code.length ∧ kk = .int .i64 k ∧ Search p.funcs f i O2 T2 (some x) ((callsOf (code.take k)).filterMap (idxOf p.funcs)) ∧ Que wr (B + 1) todo T2 ∧ wr.heap[B]? = some (.cells (boolsO O2) 4 (0, 0)) ∧ wr.heap[w.heap.size]? = some (.cells #[.int .i64 p.width, .slice ac p.chans.length kc, .slice aa p.arrays.length ka, .slice (some ⟨fb, fo, none⟩) p.funcs.length kf, .slice am p.main.length km] 27 (0, 0)) ∧ Below w.heap.size w wr ∧ B + 1 ≤ wr.heap.size ∧ T2.length + O2.count false + 1 ≤ go) (fun _ kk _ _ => code.length - (intOf kk).toNat)
      case atStart => exact ⟨0, T, O, Nat.zero_le _, rfl, HP.out, HQC.out, HRC.out, HXC.out, HBC.out, by omega, hms'⟩
      case round =>
        obtain ⟨wi, rfl⟩ : ∃ y : World, y = wr := ⟨_, rfl⟩
        obtain ⟨k, T2, O2, hk, rfl, hs2, hq2, hr2, hx2, hb2, hsz2, hms2⟩ := hrel
        have HS2 := Lib.hid hs2
        have HQ2 := Lib.hid hq2
        have HR2 := Lib.hid hr2
        have HX2 := Lib.hid hx2
        have HB2 := Lib.hid hb2
        obtain ⟨a7, c7, rfl⟩ := hq2.shape
        clear hs2 hq2 hr2 hx2 hb2 HQC HRC HXC HBC HP hszc hms'
        by_cases hkl : k < code.length
        · have hkl' : (k : Int) < (code.length : Int) := by omega
          obtain ⟨y, hy⟩ : ∃ y, code[k]? = some y := ⟨_, List.getElem?_eq_getElem hkl⟩
          obtain ⟨xa', xc', e8, -, hrc⟩ := id HCV.out
          simp only [Value.slice.injEq] at e8
          obtain ⟨rfl, -, rfl⟩ := e8
          obtain ⟨b, o2, av2, rfl, -, c0, -, -, c3, -⟩ := hrc k y hy
          have d0 := cell_keep HB2.out c0
          have D3 := Lib.hid (cell_keep HB2.out c3)
          have HST := Lib.hid (callsOf_step code y k hy)
          clear c0 c3 hrc
          by_cases h4 : y.kind = 4
          · have h4b : (y.kind == 4) = true := by simp [h4]
            rw [h4] at d0
            have hst := HST.out
            rw [if_pos h4b] at hst
            have HC := refFind p (.slice ac p.chans.length kc) (.slice aa p.arrays.length ka) (.slice (some ⟨fb, fo, none⟩) p.funcs.length kf) (.slice am p.main.length km) y.name
            have HRD := Lib.hid (H.out.keep HB2.out)
            have e0 := fun z => ext_cell (row_of HX2.out 0 _ rfl) z
            have e1 := fun z => ext_cell (row_of HX2.out 1 _ rfl) z
            have e2 := fun z => ext_cell (row_of HX2.out 2 _ rfl) z
            have e3 := fun z => ext_cell (row_of HX2.out 3 _ rfl) z
            have e4 := fun z => ext_cell (row_of HX2.out 4 _ rfl) z
            have e5 := fun z => ext_cell D3.out z
            rcases findZ_idx y.name p.funcs with ⟨u, hu1, hu2, hu3⟩ | ⟨hu1, hu2⟩
            · have HN : Hid ((callsOf (code.take (k + 1))).filterMap (idxOf p.funcs) = (callsOf (code.take k)).filterMap (idxOf p.funcs) ++ [u]) := by
                unfold Hid
                rw [hst, List.filterMap_append]
                simp [hu1]
              have HCL : Hid (u ∈ callees p.funcs x) := by
                unfold Hid
                rw [HCD.out]
                refine List.mem_filterMap.2 ⟨y.name, ?_, hu1⟩
                unfold callsOf
                exact List.mem_map.2 ⟨y, List.mem_filter.2 ⟨List.mem_of_getElem? hy, h4b⟩, rfl⟩
              rw [hu2] at HC
              have C := Lib.hid (fun z => HC (ext wi z) (HRD.out.keep (ext_below _ z)).2.2.1)
              have hul : (u : Int) < (p.funcs.length : Int) := by omega
              obtain ⟨bu, hbu⟩ : ∃ bb, O2[u]? = some bb := ⟨_, List.getElem?_eq_getElem (by rw [HS2.out.len]; exact hu3)⟩
              have HBU := Lib.hid hbu
              have hun : (0 : Int) ≤ (u : Int) := by omega
              clear HC hu1 hu2 hst HST h4 h4b hbu hy
              go_upto_region 10 with fail
              (refine wp_region_calm (by kernel_rfl) (by kernel_rfl) ?_; (repeat (go_big_quiet_step ((go_at_call 83; exact calls_calm (C.out _))))); refine wpQuiet_nil ?_; intro wc hwc)
              have HBN := Lib.hid (bcomp HB2.out hwc)
              have HQN := Lib.hid (HQ2.out.below hwc)
              have hrn := (hwc.block B (by omega)).trans HR2.out
              have HRN := Lib.hid hrn
              have HXN := Lib.hid ((hwc.block w.heap.size (by omega)).trans HX2.out)
              have hszn := hwc.size
              have hcu := row_of hrn u _ (boolsO_at HBU.out)
              have hfu := frozen_of_row wc B u _ _ hrn
              clear e0 e1 e2 e3 e4 e5 hwc C hrn
              cases bu
              · have HS3 := Lib.hid (HS2.out.push HD.out HI.out hu3 HCL.out)
                have HCT := Lib.hid (count_cut HBU.out)
                have hO : T2.length + 1 + (O2.set u true).count false + 1 ≤ go := by have := HCT.out; omega
                have hT : T2.length ≤ 33 := by omega
                have HT1 := Lib.hid (setCell_turned wc ⟨B, u, none⟩ (.bool true))
                have hsc : (wc.setCell ⟨B, u, none⟩ (.bool true)).heap.size = wc.heap.size := by simp
                have HSC := Lib.hid hsc
                have HR5 := Lib.hid (heap_setCell_same wc B u _ _ (.bool true) HRN.out)
                have HQ5 := Lib.hid (HQN.out.turn HT1.out (fun k e => by change k = B at e; omega))
                have HB5 := Lib.hid (below_then HBN.out HT1.out (by omega) (fun k e => by change k = B at e; omega))
                have HX5 := Lib.hid ((HT1.out.block w.heap.size (by omega) (by simp; omega)).trans HXN.out)
                clear hsc
                go_wp2_with (at_builtin; refine wpList_que_append rfl (.tmp 60) (.tmp 62) 108 rfl (base := B + 1) i1 Tryd.underlying108 hj1 hy0 hy1 hy2 rfl (HQ5.out.below ((Below.refl _ _).alloc (Nat.le_refl _) _)) ⟨wc.heap.size, 0, none⟩ 1 u rfl ?n1 ?n2 ?n3 ?_)
                case n2 => omega
                case n3 => have := HSC.out; simp; omega
                · intro v' w6 hq6 hg6
                  have HA := (Below.refl (wc.setCell ⟨B, u, none⟩ (.bool true)).heap.size (wc.setCell ⟨B, u, none⟩ (.bool true))).alloc (Nat.le_refl _) (.cells #[.int .i64 u] 3)
                  have HT6 : Turned (fun k => B + 1 ≤ k) (wc.setCell ⟨B, u, none⟩ (.bool true)) w6 := (Turned.of_below HA).trans (Turned.of_grown hg6 (fun k e => (HQ5.out.lt k e).1))
                  have hs5 := HSC.out
                  have HR6 := Lib.hid ((HT6.block B (by omega) (by omega)).trans HR5.out)
                  have HX6 := Lib.hid ((HT6.block w.heap.size (by omega) (by omega)).trans HX5.out)
                  have HB6 := Lib.hid (below_then HB5.out HT6 (by omega) (fun k e => by omega))
                  have HQ6 := Lib.hid hq6
                  have hz6 := HT6.size
                  rw [boolsO_set] at HR6
                  obtain ⟨a9, c9, rfl⟩ := hq6.shape
                  clear hq6 hg6 HA HT6 hcu hfu
                  go_wp2_with fail
                  go_roundw
                  case rel => exact ⟨k + 1, T2 ++ [u], O2.set u true, by omega, by go_num, by rw [HN.out]; exact HS3.out, HQ6.out, HR6.out, HX6.out, HB6.out, by omega, by simp only [List.length_append, List.length_singleton]; omega⟩
                  case measure => simp [intOf]; omega
              · have HS3 := Lib.hid (HS2.out.skip HBU.out)
                go_wp2_with fail
                go_roundw
                case rel => exact ⟨k + 1, T2, O2, by omega, by go_num, by rw [HN.out]; exact HS3.out, HQN.out, HRN.out, HXN.out, HBN.out, by omega, hms2⟩
                case measure => simp [intOf]; omega
            · have HN : Hid ((callsOf (code.take (k + 1))).filterMap (idxOf p.funcs) = (callsOf (code.take k)).filterMap (idxOf p.funcs)) := by
                unfold Hid
                rw [hst, List.filterMap_append]
                simp [hu1]
              rw [hu2] at HC
              have C := Lib.hid (fun z => HC (ext wi z) (HRD.out.keep (ext_below _ z)).2.2.1)
              clear HC hu1 hu2 hst HST h4 h4b
              go_upto_region 10 with fail
              (refine wp_region_calm (by kernel_rfl) (by kernel_rfl) ?_; (repeat (go_big_quiet_step ((go_at_call 83; exact calls_calm (C.out _))))); refine wpQuiet_nil ?_; intro wc hwc)
              have HBN := Lib.hid (bcomp HB2.out hwc)
              have HQN := Lib.hid (HQ2.out.below hwc)
              have HRN := Lib.hid ((hwc.block B (by omega)).trans HR2.out)
              have HXN := Lib.hid ((hwc.block w.heap.size (by omega)).trans HX2.out)
              have hszn := hwc.size
              clear e0 e1 e2 e3 e4 e5 hwc C
              go_wp2_with fail
              go_roundw
              case rel => exact ⟨k + 1, T2, O2, by omega, by go_num, by rw [HN.out]; exact HS2.out, HQN.out, HRN.out, HXN.out, HBN.out, by omega, hms2⟩
              case measure => simp [intOf]; omega
          · have h4b : (y.kind == 4) = false := by simp [h4]
            have hst := HST.out
            rw [h4b] at hst
            have HN : Hid ((callsOf (code.take (k + 1))).filterMap (idxOf p.funcs) = (callsOf (code.take k)).filterMap (idxOf p.funcs)) := by
              unfold Hid; rw [hst]; simp
            have h4n : (y.kind != 4) = true := by simp [h4]
            clear hst HST h4
            go_wp2_with fail
            go_roundw
            case rel => exact ⟨k + 1, T2, O2, by omega, by go_num, by rw [HN.out]; exact HS2.out, HQ2.out, HR2.out, HX2.out, HB2.out, hsz2, hms2⟩
            case measure => simp [intOf]; omega
        · obtain rfl : k = code.length := by omega
          have HF : Hid (Search p.funcs f i O2 T2 none []) := by
            have := HS2.out
            rw [List.take_length] at this
            exact this.finish (fun y hy => by rw [← HCD.out]; exact hy)
          go_wp2_with fail
          go_roundg (go - 1)
          case measure => omega
          case rel => exact ⟨T2, O2, HF.out, HQ2.out, HR2.out, HX2.out, HB2.out, hsz2, by omega, by omega⟩
end Go.Proofs.YtjdbdoeopobciaaDoor
