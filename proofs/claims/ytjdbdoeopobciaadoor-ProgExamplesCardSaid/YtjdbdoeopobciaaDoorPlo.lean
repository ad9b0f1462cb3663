/- Contract of the reference's Locals: the names in the order of their first use. Conditions: the program reads, and has at most 100000 instructions; the number is an int. The walk of ProgLocals. Conditions: the program reads, the tables are laid, the number is an int. -/
import Derived.Test.YtjdbdoeopobciaaDoorRck
import Derived.Maps.AppendAt
import Derived.Deep.QuietTactic
import Derived.BigQuiet
import Derived.Test.YtjdbdoeopobciaaDoorPck
set_option linter.unnecessarySimpa false
set_option linter.unusedVariables false
set_option linter.unusedSimpArgs false
namespace Go.Proofs.YtjdbdoeopobciaaDoor
open Go.ChangeShapes Go.WideShapes Go.ChangeAt Go.RowKit
def lnL (x : InstrD) (k : Nat) : List ByteArray := x.dst :: (x.args.take k).map (·.name)
theorem lnL_len {x : InstrD} {k : Nat} (h : k ≤ x.args.length) : (lnL x k).length = k + 1 := by simp [lnL]; omega
theorem lnL_snoc {x : InstrD} {k : Nat} {y : ArgD} (h : x.args[k]? = some y) : lnL x (k + 1) = lnL x k ++ [y.name] := by unfold lnL; rw [List.take_add_one, h]; simp
def addsL (ps l out : List ByteArray) : List ByteArray := l.foldl (addF ps) out
theorem addsL_all (ps out : List ByteArray) (x : InstrD) : addsL ps (lnL x x.args.length) out = argsL ps x.args (addF ps out x.dst) := by
  unfold addsL lnL argsL
  rw [List.take_length, List.foldl_cons, List.foldl_map]
theorem addsL_step {ps l out : List ByteArray} {k : Nat} {s : ByteArray} (h : l[k]? = some s) : addsL ps (l.take (k + 1)) out = addF ps (addsL ps (l.take k) out) s := by
  unfold addsL; rw [List.take_add_one, h, List.foldl_append]; rfl
theorem addsL_len (ps : List ByteArray) : ∀ (l out : List ByteArray), (addsL ps l out).length ≤ out.length + l.length
  | [], out => by simp [addsL]
  | a :: r, out => by
    have h1 := addsL_len ps r (addF ps out a)
    have h2 := addF_len ps out a
    show (addsL ps r (addF ps out a)).length ≤ _
    simp only [List.length_cons]
    omega
/-- The block of a row that is owned, and not empty. -/
theorem own_blk {w : World} {base : Nat} {l : List ByteArray} {v : Value} {n : Nat} (h : w.ownsRow base 9 1 v n (l.flatMap strCells)) (hn : 0 < n) :
    ∃ g c cur, v = .slice (some ⟨g, 0, none⟩) n c ∧ base ≤ g ∧ w.heap[g]? = some (.cells cur 9 (0, 0)) ∧ ∀ w' : World, w'.heap[g]? = some (.cells cur 9 (0, 0)) → ∀ j s, l[j]? = some s → w'.cell? ⟨g, j, none⟩ = some (.string s) := by
  obtain ⟨hl, ⟨_, h2⟩ | ⟨g, cap, cur, rfl, hg, hb, _, _, _, ht⟩⟩ := h
  · omega
  · refine ⟨g, cap, cur, rfl, hg, hb, fun w' hw j s hj => ?_⟩
    refine row_of hw j _ ?_
    have hj2 : (l.flatMap strCells)[j]? = some (.string s) := by
      have := flat_get strCells 1 (fun _ => rfl) l j 0 s hj (by omega)
      simpa [strCells] using this
    rw [← ht, List.getElem?_take] at hj2
    split at hj2
    · rw [← Array.getElem?_toList]; exact hj2
    · cases hj2
theorem res_locs (tmps : Array Value) (W : World) (v : Value) (e : Int) (h4 : tmps.getD 4 undef = v) (h5 : tmps.getD 5 undef = .int .i64 e) :
    (results Tryd.f17 tmps).run Tryd.prog W = .ok (.tuple #[v, .int .i64 e]) W := by
  rw [Array.getD_eq_getD_getElem?] at h4 h5
  simp [results, Tryd.results17, go_sem, h4, h5]
theorem body_sizes {p : ProgD} (h : checkF p = none) (f : Int) : (bodyF p f).2.length ≤ 1024 ∧ ∀ x ∈ (bodyF p f).2, x.args.length ≤ 32 := by
  have HN := check_none h
  unfold bodyF
  split
  · exact HN.1
  · split
    · rename_i x hx
      exact (HN.2 x (List.mem_of_getElem? hx)).2
    · simp
set_option maxRecDepth 100000 in
set_option maxHeartbeats 6400000 in
theorem refLocals (p : ProgD) (cv av fv mv : Value) (f : Int) (w : World) (h : RdProg none w p cv av fv mv) (hN : (codesOf p.funcs).length + p.main.length ≤ 100000) (hf : InI64 f) :
    Calls Tryd.prog 17 #[progV p cv av fv mv, .int .i64 f] w fun e w' => ∃ v, e = .returned (.tuple #[v, .int .i64 (localsF p f).2]) ∧ RdStrs (some (upFrom w.heap.size)) w' v (localsF p f).1 ∧ Below w.heap.size w w' := by
  obtain ⟨hrc, hra, hrf, hrm, hrw⟩ := id h
  obtain ⟨ac, kc, rfl, -, -⟩ := id hrc
  obtain ⟨aa, ka, rfl, -, -⟩ := id hra
  obtain ⟨af, kf, rfl, -, hrfs⟩ := id hrf
  obtain ⟨am, km, rfl, -, -⟩ := id hrm
  obtain ⟨i0, hj, hz0, hz1, hz2⟩ := info_parts infoStr
  have H := Lib.hid h
  have HN := Lib.hid hN
  have HRF := Lib.hid hrfs
  have HRM := Lib.hid hrm
  clear h hrc hra hrf hrm hrw hrfs hN
  go_enter Tryd.func17, Tryd.ntmps17
  go_upto_region 1 with fail
  have hb1 := (Below.refl w.heap.size w).alloc (Nat.le_refl _) (.cells #[.int .i64 p.width, .slice ac p.chans.length kc, .slice aa p.arrays.length ka, .slice af p.funcs.length kf, .slice am p.main.length km] 27)
  have q0 := heap_alloc_new w (.cells #[.int .i64 p.width, .slice ac p.chans.length kc, .slice aa p.arrays.length ka, .slice af p.funcs.length kf, .slice am p.main.length km] 27)
  generalize w.alloc (.cells #[.int .i64 p.width, .slice ac p.chans.length kc, .slice aa p.arrays.length ka, .slice af p.funcs.length kf, .slice am p.main.length km] 27) = W at *
  have b0 := row_of q0 0 (.int .i64 p.width) rfl
  have b1 := row_of q0 1 (.slice ac p.chans.length kc) rfl
  have b2 := row_of q0 2 (.slice aa p.arrays.length ka) rfl
  have b3 := row_of q0 3 (.slice af p.funcs.length kf) rfl
  have b4 := row_of q0 4 (.slice am p.main.length km) rfl
  have HB1 := Lib.hid hb1
  have HRD := Lib.hid (H.out.keep hb1)
  clear hb1 q0
  have c1 := refCheck p _ _ _ _ _ HRD.out HN.out
  cases hc : checkF p with
  | some F =>
    rw [hc, refV_some] at c1
    have hF := check_fault hc
    have hne : (F.e != 0) = true := by have := hF.1; simp; omega
    have HC := Lib.hid c1
    have HV : Hid (localsF p f = ([], F.e)) := by show _ = _; unfold localsF; rw [hc]
    clear c1 hc hF
    go_upto_region 2 with (go_at_call 14; refine HC.out.mono ?_; rintro e w1 ⟨rfl, hb2⟩)
    clear b0 b1 b2 b3 b4
    go_wp2_with fail
    refine bodyPost_ret (res_locs _ _ (.slice none 0 0) F.e rfl rfl) rfl ⟨_, by rw [HV.out], by rw [HV.out]; exact rdStrs_nil _ _, ?_⟩
    exact (bcomp HB1.out hb2).alloc (by have := HB1.out.size; have := hb2.size; omega) _
  | none =>
    rw [hc, refV_none] at c1
    have HSZ := Lib.hid (body_sizes hc f)
    have HC := Lib.hid c1
    have HCF := Lib.hid hc
    clear c1 hc
    go_upto_region 2 with (go_at_call 14; refine HC.out.mono ?_; rintro e w1 ⟨rfl, hb2⟩)
    go_upto_region 4 with fail
    have hb3 := hb2.alloc hb2.size (.cells #[.int .i64 0, .int .i64 0] 30)
    generalize w1.alloc (.cells #[.int .i64 0, .int .i64 0] 30) = W2 at *
    have HB3 := Lib.hid (bcomp HB1.out hb3)
    have d3 := cell_keep hb3 b3
    have d4 := cell_keep hb3 b4
    clear b0 b1 b2 b3 b4 hb2 hb3
    have hrange : (f < -1) ∨ (¬ f < -1 ∧ (p.funcs.length : Int) ≤ f) ∨ (¬ f < -1 ∧ ¬ (p.funcs.length : Int) ≤ f) := by omega
    rcases hrange with h1 | ⟨h1, h2⟩ | ⟨h1, h2⟩
    · have HV : Hid (localsF p f = ([], 3)) := by show _ = _; unfold localsF; rw [HCF.out]; simp only; rw [if_pos (.inl h1)]
      go_wp2_with fail
      exact bodyPost_ret (res_locs _ _ (.slice none 0 0) 3 rfl rfl) rfl ⟨_, by rw [HV.out], by rw [HV.out]; exact rdStrs_nil _ _, HB3.out⟩
    · have HV : Hid (localsF p f = ([], 3)) := by show _ = _; unfold localsF; rw [HCF.out]; simp only; rw [if_pos (.inr h2)]
      go_wp2_with fail
      exact bodyPost_ret (res_locs _ _ (.slice none 0 0) 3 rfl rfl) rfl ⟨_, by rw [HV.out], by rw [HV.out]; exact rdStrs_nil _ _, HB3.out⟩
    have HV : Hid (localsF p f = (localsL (bodyF p f).1 (bodyF p f).2 [], 0)) := by show _ = _; unfold localsF; rw [HCF.out]; simp only; rw [if_neg (by omega)]
    have hge : w.heap.size ≤ W2.heap.size := HB3.out.size
    go_upto_if 35 with fail
    go_cut [8, 9] from 10 (fun cc pp wx => RdInstrs none w cc (bodyF p f).2 ∧ RdStrs none w pp (bodyF p f).1 ∧ Below w.heap.size w wx)
    case first =>
      by_cases hneg : f < 0
      · obtain rfl : f = -1 := by omega
        go_wp2_with fail
        go_meet
        exact ⟨HRM.out, rdStrs_nil _ _, HB3.out⟩
      obtain ⟨k, rfl⟩ : ∃ k : Nat, f = k := ⟨f.toNat, by omega⟩
      have hk : k < p.funcs.length := by omega
      obtain ⟨fd, hfd⟩ : ∃ fd, p.funcs[k]? = some fd := ⟨_, List.getElem?_eq_getElem hk⟩
      have hbody : Hid (bodyF p k = (fd.params, fd.code)) := by show _ = _; unfold bodyF; rw [if_neg (by omega)]; simp [hfd]
      obtain ⟨bf, of, pv, fv, rfl, _, -, e1, e2, -, -, hri⟩ := HRF.out k fd hfd
      have HPP := Lib.hid hri.1
      have HCO := Lib.hid hri.2.1
      have r1 := cell_keepB HB3.out e1 (block_lt_of_cell e1)
      have r2 := cell_keepB HB3.out e2 (block_lt_of_cell e2)
      have hklt : (k : Int) < (p.funcs.length : Int) := by omega
      clear e1 e2 hri hfd
      go_wp2_with fail
      go_quiet (fail)
      go_wp2_with fail
      go_meet
      exact ⟨by rw [hbody.out]; exact HCO.out, by rw [hbody.out]; exact HPP.out, below_drewN HB3.out _⟩
    case rest =>
      obtain ⟨hrd, hrp, hb⟩ := hcut
      obtain ⟨acd, kcd, rfl, hcl, hcr⟩ := id hrd
      obtain ⟨apd, kpd, rfl, -, -⟩ := id hrp
      have HPS := Lib.hid hrp
      have HCR := Lib.hid hcr
      have HB := Lib.hid hb
      generalize bodyF p f = B at *
      obtain ⟨ps, code⟩ := B
      have hlc : code.length ≤ 1024 := HSZ.out.1
      simp only at HV HSZ HPS HCR ⊢
      clear hrd hrp hb hcl hcr d3 d4 HRM HRF HRD H HC HCF HB1 HB3
      go_wp2_with fail
      go_loopw [10, 11, 12, 13, 14] (fun ov ii _ _ _ wr => ∃ i : Nat, i ≤ code.length ∧ ii = .int .i64 i ∧ wr.ownsRow w.heap.size 9 1 ov (localsL ps (code.take i) []).length ((localsL ps (code.take i) []).flatMap strCells) ∧ (∀ s ∈ localsL ps (code.take i) [], s.size ≤ maxLen) ∧ Below w.heap.size w wr) (fun _ ii _ _ _ _ => code.length - (intOf ii).toNat)
      case atStart => exact ⟨0, Nat.zero_le _, rfl, World.ownsRow_nil _ _ _ _, (fun s hs => nomatch hs), HB.out⟩
      case round =>
        obtain ⟨wo, rfl⟩ : ∃ x : World, x = wr := ⟨_, rfl⟩
        obtain ⟨i, hi, rfl, hown, hok, hb⟩ := hrel
        have hol : (localsL ps (code.take i) []).length ≤ 33 * i := by
          have := localsL_len ps (code.take i) [] (fun x hx => HSZ.out.2 x (List.mem_of_mem_take hx))
          simp only [List.length_nil, List.length_take, Nat.zero_add] at this
          omega
        have HO := Lib.hid hown
        have HOK := Lib.hid hok
        clear HB
        have HB := Lib.hid hb
        have hszo := hb.size
        obtain ⟨oa, oc, rfl, -⟩ := own_read hown
        clear hown hok hb
        by_cases hlt : i < code.length
        rotate_left
        · obtain rfl : i = code.length := by omega
          have hown := HO.out
          have hok := HOK.out
          rw [List.take_length] at *
          have hlt2 : ¬ ((code.length : Int) < (code.length : Int)) := by omega
          have HW : Hid (RdStrs (some (upFrom w.heap.size)) wo (.slice oa (localsL ps code []).length oc) (localsL ps code [])) := own_strs hown (by omega) hok
          clear hown hok HO HOK
          go_wp2_with fail
          exact bodyPost_ret (res_locs _ _ (.slice oa (localsL ps code []).length oc) 0 rfl rfl) rfl ⟨_, by rw [HV.out], by rw [HV.out]; exact HW.out, HB.out⟩
        have hlt2 : (i : Int) < (code.length : Int) := by omega
        obtain ⟨x, hx⟩ : ∃ x, code[i]? = some x := ⟨_, List.getElem?_eq_getElem hlt⟩
        have HX := Lib.hid hx
        have hxl := HSZ.out.2 x (List.mem_of_getElem? hx)
        obtain ⟨bx, ox, av2, rfl, -, -, -, i2, -, i4, -, -, hri⟩ := HCR.out i x hx
        obtain ⟨aa2, ca2, rfl, -, har⟩ := id hri.1
        have HAR := Lib.hid har
        have hds := hri.2.2.2.2.2.1
        have k2 := cell_keepB HB.out i2 (block_lt_of_cell i2)
        have HK4 := Lib.hid (cell_keepB HB.out i4 (block_lt_of_cell i4))
        have k4 := HK4.out
        generalize hL0 : localsL ps (code.take i) [] = L0 at *
        have HL0 := Lib.hid hL0
        clear hx hri har i2 i4 hL0
        go_upto_region 14 with fail
        have hal : Below wo.heap.size wo (wo.alloc (.cells #[.string x.dst] 9)) := (Below.refl _ _).alloc (Nat.le_refl _) _
        have hone := own_one wo wo.heap.size (.string x.dst) 9 (Nat.le_refl _)
        generalize wo.alloc (.cells #[.string x.dst] 9) = w1 at *
        have HB1 := Lib.hid hal
        have HN1 := Lib.hid hone
        have hs1 := hal.size
        clear hal hone k2 k4
        go_wp2_with fail
        go_loopw [12, 13] (fun nv jj wr => ∃ m : Nat, m ≤ x.args.length ∧ jj = .int .i64 m ∧ wr.ownsRow wo.heap.size 9 1 nv (m + 1) ((lnL x m).flatMap strCells) ∧ Below wo.heap.size wo wr) (fun _ jj _ => x.args.length - (intOf jj).toNat)
        case atStart => exact ⟨0, Nat.zero_le _, rfl, HN1.out, HB1.out⟩
        case round =>
          obtain ⟨wi, rfl⟩ : ∃ x : World, x = wr := ⟨_, rfl⟩
          obtain ⟨m, hm, rfl, hown, hb⟩ := hrel
          have k4 := cell_keep hb HK4.out
          have hszi := hb.size
          have HBI := Lib.hid hb
          by_cases hmt : m < x.args.length
          · have hmt2 : (m : Int) < (x.args.length : Int) := by omega
            obtain ⟨y, hy⟩ : ∃ y, x.args[m]? = some y := ⟨_, List.getElem?_eq_getElem hmt⟩
            obtain ⟨by', oy, rfl, -, z0, -, -, -⟩ := HAR.out m y hy
            have y0 := cell_keep hb (cell_keepB HB.out z0 (block_lt_of_cell z0))
            have HLX : Hid ((lnL x (m + 1)).flatMap strCells = (lnL x m).flatMap strCells ++ strCells y.name) := by
              show _ = _
              rw [lnL_snoc hy]; simp
            clear z0 hy hb
            go_wp2_with (at_builtin; refine wpList_append_own _ rfl (.tmp 70) (.tmp 80) 22 rfl wo.heap.size 9 i0 (.string ⟨#[]⟩) 1 16 Tryd.underlying22 hj hz0 hz1 hz2 rfl (by decide) _ _ _ rfl (hown.alloc _) ⟨wi.heap.size, 0, none⟩ 1 1 (strCells y.name) rfl rfl (many_new _ _ _) ?c2 ?c3 ?c4 ?c5 ?_)
            case c2 => intro u hu; simp [strCells] at hu; subst hu; rfl
            case c3 => unfold maxLen; omega
            case c4 => omega
            case c5 => simp; omega
            · intro v' w2 hown' hgrow _
              rw [← HLX.out] at hown'
              have hb2 := (HBI.out.alloc hszi (.cells (strCells y.name).toArray 9)).grown hgrow (by simp; omega) (own_row_le hown)
              clear hown
              go_wp2_with fail
              go_roundw
              case rel => exact ⟨m + 1, by omega, by go_num, hown', hb2⟩
              case measure => simp [intOf]; omega
          · obtain rfl : m = x.args.length := by omega
            have hmt2 : ¬ ((x.args.length : Int) < (x.args.length : Int)) := by omega
            obtain ⟨gn, cn, cur, rfl, hgn, hgb, hcell⟩ := own_blk hown (by omega)
            have HCELL := Lib.hid hcell
            have HGB := Lib.hid hgb
            have HLN : Hid ((lnL x x.args.length).length = x.args.length + 1) := lnL_len (Nat.le_refl _)
            have HLF := Lib.hid (addsL_all ps L0 x)
            have HST : Hid (localsL ps (code.take (i + 1)) [] = addsL ps (lnL x x.args.length) L0) := by
              unfold Hid
              rw [localsL_step ps code [] i x HX.out, HL0.out, HLF.out]
            have HNO : Hid ((Value.slice oa L0.length oc).ownBlock ≠ some gn) := by
              intro e
              obtain ⟨_, ⟨e1, _⟩ | ⟨g, cap, cur', e1, _, hb', _⟩⟩ := HO.out
              · rw [e1] at e; simp [Value.ownBlock] at e
              · have : g < wo.heap.size := (Array.getElem?_eq_some_iff.1 hb').1
                rw [e1] at e; simp [Value.ownBlock] at e; omega
            have HOI := Lib.hid (own_below HO.out hb)
            have HBW := Lib.hid (HB.out.trans (hb.mono hszo))
            have HNS : Hid (∀ s ∈ lnL x x.args.length, s.size ≤ maxLen) := by
              intro s hs
              unfold lnL at hs
              rcases List.mem_cons.1 hs with rfl | hs
              · exact hds
              · obtain ⟨a, ha, rfl⟩ := List.mem_map.1 hs
                rw [List.take_length] at ha
                obtain ⟨j, hj'⟩ := List.mem_iff_getElem?.1 ha
                obtain ⟨_, _, _, _, _, _, _, hnz⟩ := HAR.out j a hj'
                exact hnz
            generalize lnL x x.args.length = NL at *
            clear hcell hgb hown hb HBI
            go_wp2_with fail
            clear k4
            go_loopw [10, 14] (fun ov ll wr => ∃ l : Nat, l ≤ x.args.length + 1 ∧ ll = .int .i64 l ∧ wr.ownsRow w.heap.size 9 1 ov (addsL ps (NL.take l) L0).length ((addsL ps (NL.take l) L0).flatMap strCells) ∧ (∀ s ∈ addsL ps (NL.take l) L0, s.size ≤ maxLen) ∧ ov.ownBlock ≠ some gn ∧ wr.heap[gn]? = some (.cells cur 9 (0, 0)) ∧ Below w.heap.size w wr) (fun _ ll _ => x.args.length + 1 - (intOf ll).toNat)
            case atStart => exact ⟨0, Nat.zero_le _, rfl, HOI.out, HOK.out, HNO.out, HGB.out, HBW.out⟩
            case round =>
              obtain ⟨l, hl, rfl, hown, hok, hno, hgb, hb⟩ := hrel
              have HOW := Lib.hid hown
              have HOKK := Lib.hid hok
              have HNB := Lib.hid hno
              have HG := Lib.hid hgb
              have HBR := Lib.hid hb
              have hszr := hb.size
              have hll := addsL_len ps (NL.take l) L0
              rw [List.length_take, HLN.out, Nat.min_eq_left hl] at hll
              obtain ⟨oa3, oc3, rfl, -⟩ := own_read hown
              clear hok hno hgb hb
              by_cases hlt3 : l < x.args.length + 1
              rotate_left
              · obtain rfl : l = x.args.length + 1 := by omega
                have hlt4 : ¬ ((x.args.length : Int) + 1 < (x.args.length : Int) + 1) := by omega
                clear hown
                go_wp2_with fail
                have hte : NL.take (x.args.length + 1) = NL := by rw [← HLN.out, List.take_length]
                go_roundw
                case rel =>
                  refine ⟨i + 1, by omega, by go_num, ?_, ?_, HBR.out⟩
                  · rw [HST.out]; have := HOW.out; rw [hte] at this ⊢; exact this
                  · rw [HST.out]; have := HOKK.out; rw [hte] at this; exact this
                case measure => simp [intOf]; omega
              have hlt4 : (l : Int) < (x.args.length : Int) + 1 := by omega
              obtain ⟨s, hs⟩ : ∃ s, NL[l]? = some s := ⟨_, List.getElem?_eq_getElem (by rw [HLN.out]; omega)⟩
              have n0 := HCELL.out _ HG.out l s hs
              have HADD := Lib.hid (addsL_step (ps := ps) (out := L0) hs)
              have hsz := HNS.out s (List.mem_of_getElem? hs)
              generalize hL1 : addsL ps (NL.take l) L0 = L1 at *
              clear hs hL1
              have hI1 := Lib.hid (refIs (.slice apd ps.length kpd) ps s wr (HPS.out.keep HBR.out))
              have hI2 := Lib.hid (refIs (.slice oa3 L1.length oc3) L1 s wr (own_strs HOW.out (by omega) HOKK.out).forget)
              cases hemp : s.toList.isEmpty
              rotate_left
              · have HV1 : Hid (addF ps L1 s = L1) := by show _ = _; unfold addF; rw [hemp]; rfl
                clear hown
                go_wp2_with fail
                go_roundw
                case rel => exact ⟨l + 1, by omega, by go_num, by rw [HADD.out, HV1.out]; exact HOW.out, by rw [HADD.out, HV1.out]; exact HOKK.out, HNB.out, HG.out, HBR.out⟩
                case measure => simp [intOf]; omega
              cases hin1 : inL s ps
              rotate_left
              · have HV1 : Hid (addF ps L1 s = L1) := by show _ = _; unfold addF; rw [hemp, hin1]; rfl
                rw [hin1] at hI1
                clear hown hin1 hI2
                go_wp2_with (go_at_call 44; with_reducible refine hI1.out.mono ?_; rintro e wz ⟨rfl, rfl⟩)
                go_roundw
                case rel => exact ⟨l + 1, by omega, by go_num, by rw [HADD.out, HV1.out]; exact HOW.out, by rw [HADD.out, HV1.out]; exact HOKK.out, HNB.out, HG.out, HBR.out⟩
                case measure => simp [intOf]; omega
              cases hin2 : inL s L1
              rotate_left
              · have HV1 : Hid (addF ps L1 s = L1) := by show _ = _; unfold addF; rw [hemp, hin1, hin2]; rfl
                rw [hin1] at hI1
                rw [hin2] at hI2
                clear hown hin1 hin2
                go_wp2_with (first
                  | (go_at_call 44; with_reducible refine hI1.out.mono ?_; rintro e wz ⟨rfl, rfl⟩)
                  | (go_at_call 44; with_reducible refine hI2.out.mono ?_; rintro e wz ⟨rfl, rfl⟩))
                go_roundw
                case rel => exact ⟨l + 1, by omega, by go_num, by rw [HADD.out, HV1.out]; exact HOW.out, by rw [HADD.out, HV1.out]; exact HOKK.out, HNB.out, HG.out, HBR.out⟩
                case measure => simp [intOf]; omega
              have HV1 : Hid (addF ps L1 s = L1 ++ [s]) := by show _ = _; unfold addF; rw [hemp, hin1, hin2]; rfl
              rw [hin1] at hI1
              rw [hin2] at hI2
              clear hin1 hin2
              go_wp2_with (first
                | (go_at_call 44; with_reducible refine hI1.out.mono ?_; rintro e wz ⟨rfl, rfl⟩)
                | (go_at_call 44; with_reducible refine hI2.out.mono ?_; rintro e wz ⟨rfl, rfl⟩)
                | (at_builtin; refine wpList_append_own_at _ rfl (.tmp 111) (.tmp 116) 22 rfl w.heap.size 9 i0 (.string ⟨#[]⟩) 1 16 Tryd.underlying22 hj hz0 hz1 hz2 rfl (by decide) _ _ _ rfl (HOW.out.alloc _) ⟨wr.heap.size, 0, none⟩ 1 1 (strCells s) rfl rfl (many_new _ _ _) ?d2 ?d3 ?d4 ?d5 ?_))
              case d2 => intro u hu; simp [strCells] at hu; subst hu; rfl
              case d3 => unfold maxLen; omega
              case d4 => omega
              case d5 => simp; omega
              · intro v' w2 hown' hgrow _ hat
                have hal : Below wr.heap.size wr (wr.alloc (.cells (strCells s).toArray 9)) := (Below.refl _ _).alloc (Nat.le_refl _) _
                have hgl := (Array.getElem?_eq_some_iff.1 HG.out).1
                have e5 : (wr.alloc (.cells (strCells s).toArray 9)).heap.size = wr.heap.size + 1 := by
                  show (wr.heap.push _).size = _
                  simp
                have HG2 := Lib.hid ((hgrow.block gn (by simp; omega) (fun e => HNB.out e.symm)).trans ((hal.block gn hgl).trans HG.out))
                have HB2 := Lib.hid ((HBR.out.alloc hszr (.cells (strCells s).toArray 9)).grown hgrow (by simp; omega) (own_row_le HOW.out))
                have HNB2 : Hid (v'.ownBlock ≠ some gn) := by
                  rcases hat with h | h
                  · rw [h]; exact HNB.out
                  · rw [h]; refine fun e => ?_; simp at e; omega
                have HOW2 : Hid (w2.ownsRow w.heap.size 9 1 v' (L1 ++ [s]).length ((L1 ++ [s]).flatMap strCells)) := by
                  have : (L1 ++ [s]).flatMap strCells = L1.flatMap strCells ++ strCells s := by simp
                  rw [this, List.length_append, List.length_singleton]
                  exact hown'
                clear hown hown' hgrow hat hal e5 n0
                go_wp2_with fail
                go_roundw
                case rel =>
                  refine ⟨l + 1, by omega, by go_num, by rw [HADD.out, HV1.out]; exact HOW2.out, ?_, HNB2.out, HG2.out, HB2.out⟩
                  rw [HADD.out, HV1.out]
                  intro t ht
                  rcases List.mem_append.1 ht with ht | ht
                  · exact HOKK.out t ht
                  · rw [List.mem_singleton] at ht; subst ht; exact hsz
                case measure => simp [intOf]; omega
open Go.ChangeShapes Go.WideShapes Go.ChangeAt Go.RowKit
theorem rd_cells {n : Nat} {w : World} {a : Option Addr} {m c : Nat} {l : List ByteArray} (h : RdStrs (some (upFrom n)) w (.slice a m c) l) : ∀ j, j < l.length → ∃ b o cs, a = some ⟨b, o, none⟩ ∧ n ≤ b ∧ w.heap[b]? = some (.cells cs 9 (0, 0)) ∧ o + j < cs.size := by
  obtain ⟨a', c', e, _, hr⟩ := h
  simp only [Value.slice.injEq] at e
  obtain ⟨rfl, -, -⟩ := e
  intro j hj
  obtain ⟨b, o, rfl, hf, hc, _⟩ := hr j _ (List.getElem?_eq_getElem hj)
  obtain ⟨h1, cs, h2⟩ := hf _ rfl
  refine ⟨b, o, cs, rfl, h1, h2, ?_⟩
  rw [cell_of_row w b (o + j) cs _ (0, 0) h2] at hc
  exact (Array.getElem?_eq_some_iff.1 hc).1
set_option maxRecDepth 100000 in
set_option maxHeartbeats 6400000 in
theorem locals_walk (p : ProgD) (cv av fv mv : Value) (f : Int) (W : World) (h : RdProg none W p cv av fv mv) (hf : InI64 f) (hL : Laid W) :
    Calls Tryd.prog 4 #[progV p cv av fv mv, .int .i64 f] W fun e w' => e = .returned (.bool true) ∧ Below W.heap.size W w' := by
  obtain ⟨hrc, hra, hrf, hrm, hrw⟩ := id h
  obtain ⟨ac0, kc0, rfl, -, -⟩ := id hrc
  obtain ⟨aa0, ka0, rfl, -, -⟩ := id hra
  obtain ⟨af0, kf0, rfl, -, -⟩ := id hrf
  obtain ⟨am0, km0, rfl, -, -⟩ := id hrm
  have H := Lib.hid h
  have HL := Lib.hid hL
  clear h hL hrc hra hrf hrm hrw
  go_enter Tryd.func4, Tryd.ntmps4
  go_upto_region 1 with fail
  have hb0 := (Below.refl W.heap.size W).alloc (Nat.le_refl _) (.cells #[.int .i64 p.width, .slice ac0 p.chans.length kc0, .slice aa0 p.arrays.length ka0, .slice af0 p.funcs.length kf0, .slice am0 p.main.length km0] 27)
  have g0 := heap_alloc_new W (.cells #[.int .i64 p.width, .slice ac0 p.chans.length kc0, .slice aa0 p.arrays.length ka0, .slice af0 p.funcs.length kf0, .slice am0 p.main.length km0] 27)
  generalize W.alloc (.cells #[.int .i64 p.width, .slice ac0 p.chans.length kc0, .slice aa0 p.arrays.length ka0, .slice af0 p.funcs.length kf0, .slice am0 p.main.length km0] 27) = W0 at *
  have G0 := Lib.hid g0
  have HB0 := Lib.hid hb0
  have hs0 : W.heap.size < W0.heap.size := (Array.getElem?_eq_some_iff.1 g0).1
  have l0 := row_of g0 0 _ rfl
  have l1 := row_of g0 1 _ rfl
  have l2 := row_of g0 2 _ rfl
  have l3 := row_of g0 3 _ rfl
  have l4 := row_of g0 4 _ rfl
  clear g0 hb0
  have C := few_prog p _ _ _ _ W0 (H.out.keep HB0.out)
  have HC := Lib.hid C
  clear C
  go_upto_region 2 with (first
    | (go_at_call 11; refine HC.out.mono ?_; rintro e w1 ⟨cv', av', fv', mv', rfl, hr, hb1⟩; obtain ⟨r1, r2, r3, r4, r5⟩ := id hr; obtain ⟨ac, kc, rfl, -⟩ := id r1; obtain ⟨aa, ka, rfl, -⟩ := id r2; obtain ⟨af, kf, rfl, -⟩ := id r3; obtain ⟨am, km, rfl, -⟩ := id r4; clear l0 l1 l2 l3 l4 r1 r2 r3 r4 r5; have hg := (hb1.block W.heap.size hs0).trans G0.out)
    | (refine wpList_store_row rfl 27 (.tmp 2) (.tmp 14) rfl W.heap.size #[.int .i64 (fewP p).width, .slice ac (fewP p).chans.length kc, .slice aa (fewP p).arrays.length ka, .slice af (fewP p).funcs.length kf, .slice am (fewP p).main.length km] rfl rfl 27 #[.int .i64 p.width, .slice ac0 p.chans.length kc0, .slice aa0 p.arrays.length ka0, .slice af0 p.funcs.length kf0, .slice am0 p.main.length km0] ?h2 ?s2 ?s3 ?s4 ?_; exact hg; kernel_rfl; kernel_rfl; kernel_rfl))
  simp only [Act.put]
  have hcl := few_size p
  have hfl : (fewP p).funcs.length ≤ 5 := by simp [fewP]; omega
  generalize fewP p = P at *
  have hrow : ∀ b, b ≠ W.heap.size → (w1.setRow W.heap.size #[.int .i64 P.width, .slice ac P.chans.length kc, .slice aa P.arrays.length ka, .slice af P.funcs.length kf, .slice am P.main.length km]).heap[b]? = w1.heap[b]? := fun b hb => setRow_other _ _ _ _ hb
  have HR : Hid (RdProg none (w1.setRow W.heap.size #[.int .i64 P.width, .slice ac P.chans.length kc, .slice aa P.arrays.length ka, .slice af P.funcs.length kf, .slice am P.main.length km]) P (.slice ac P.chans.length kc) (.slice aa P.arrays.length ka) (.slice af P.funcs.length kf) (.slice am P.main.length km)) := (RdProg.same (g' := upFrom W0.heap.size) hr (fun b hb _ => hrow b (by have : W0.heap.size ≤ b := hb; omega)) (fun _ _ h => h)).forget
  have g2 : (w1.setRow W.heap.size #[.int .i64 P.width, .slice ac P.chans.length kc, .slice aa P.arrays.length ka, .slice af P.funcs.length kf, .slice am P.main.length km]).heap[W.heap.size]? = some (.cells #[.int .i64 P.width, .slice ac P.chans.length kc, .slice aa P.arrays.length ka, .slice af P.funcs.length kf, .slice am P.main.length km] 27 (0, 0)) := setRow_heap _ _ _ _ _ _ hg
  have hb2 : Below W.heap.size W (w1.setRow W.heap.size #[.int .i64 P.width, .slice ac P.chans.length kc, .slice aa P.arrays.length ka, .slice af P.funcs.length kf, .slice am P.main.length km]) := below_row (bcomp HB0.out hb1) (Nat.le_refl _) _
  have HB2 := Lib.hid hb2
  have HCL := Lib.hid hcl
  clear hcl hrow hr hg hb1 hb2 G0 HB0 HC H
  generalize w1.setRow W.heap.size #[.int .i64 P.width, .slice ac P.chans.length kc, .slice aa P.arrays.length ka, .slice af P.funcs.length kf, .slice am P.main.length km] = W2 at *
  have hs2 : W.heap.size < W2.heap.size := (Array.getElem?_eq_some_iff.1 g2).1
  have G2 := Lib.hid g2
  have l0 := row_of g2 0 _ rfl
  have l1 := row_of g2 1 _ rfl
  have l2 := row_of g2 2 _ rfl
  have l3 := row_of g2 3 _ rfl
  have l4 := row_of g2 4 _ rfl
  clear g2
  have HL2 := Lib.hid (HL.out.keep HB2.out)
  have HS : Hid (W.heap.size ≤ W2.heap.size) := HB2.out.size
  clear l0 l1 l2 l3 l4
  go_wp2_with fail
  go_loopw [5, 6, 7, 8, 9, 10, 11, 12] (fun kk _ _ _ _ _ _ _ wr => ∃ K : Nat, K ≤ P.funcs.length + 4 ∧ kk = .int .i64 ((K : Int) - 2) ∧ Below W2.heap.size W2 wr) (fun kk _ _ _ _ _ _ _ _ => P.funcs.length + 4 - (intOf kk + 2).toNat)
  case atStart => exact ⟨0, Nat.zero_le _, rfl, Below.refl _ _⟩
  case round =>
    obtain ⟨wo, rfl⟩ : ∃ x : World, x = wr := ⟨_, rfl⟩
    obtain ⟨K, hK, rfl, hb⟩ := hrel
    have HB := Lib.hid hb
    have G := Lib.hid ((hb.block W.heap.size hs2).trans G2.out)
    have hso := hb.size
    clear hb
    have l3 := row_of G.out 3 _ rfl
    by_cases hlt : K < P.funcs.length + 4
    rotate_left
    · obtain rfl : K = P.funcs.length + 4 := by omega
      have hlt2 : ¬ (((P.funcs.length + 4 : Nat) : Int) - 2 ≤ (P.funcs.length : Int) + 1) := by omega
      have HLX := Lib.hid (HL2.out.keep HB.out)
      go_wp2_with (go_at_call 16; refine (awake_any _ HLX.out).mono ?_; rintro e wz ⟨rfl, hbz⟩)
      go_ret
      exact ⟨rfl, (HB2.out.trans (HB.out.mono HS.out)).trans (hbz.mono (Nat.le_trans HS.out hso))⟩
    have hlt2 : ((K : Int) - 2 ≤ (P.funcs.length : Int) + 1) := by omega
    go_upto_if 28 with fail
    go_cut [6] from 15 to 63 (fun nn wx => ∃ n, nn = .int .i64 n ∧ InI64 n ∧ wx = wo)
    case first =>
      by_cases hgt : (P.funcs.length : Int) < (K : Int) - 2
      · go_wp2_with fail
        go_meet
        exact ⟨f, rfl, hf, rfl⟩
      · go_wp2_with fail
        go_meet
        exact ⟨_, rfl, by unfold InI64; omega, rfl⟩
    case rest =>
      obtain ⟨n, rfl, hn, rfl⟩ := hcut
      have l0 := row_of G.out 0 _ rfl
      have l1 := row_of G.out 1 _ rfl
      have l2 := row_of G.out 2 _ rfl
      have l4 := row_of G.out 4 _ rfl
      have HLC := refLocals P (.slice ac P.chans.length kc) (.slice aa P.arrays.length ka) (.slice af P.funcs.length kf) (.slice am P.main.length km) n wc (HR.out.keep HB.out) HCL.out hn
      have HLP := fun w (h : RdProg none w P (.slice ac P.chans.length kc) (.slice aa P.arrays.length ka) (.slice af P.funcs.length kf) (.slice am P.main.length km)) (h2 : Laid w) => locals_any P _ _ _ _ n w h h2 hn
      generalize (localsF P n).1 = Ls at *
      generalize (localsF P n).2 = E at *
      have HLC := Lib.hid HLC
      have HLP := Lib.hid HLP
      go_upto_region 9 with (go_at_call 17; refine HLC.out.mono ?_; rintro e w1 ⟨wv, rfl, hwr, hb1⟩; obtain ⟨wa, wk, rfl, hwl, -⟩ := id hwr)
      have HWR := Lib.hid hwr.forget
      have HB1 := Lib.hid (bcomp HB.out hb1)
      have hs1 := Nat.le_trans hso hb1.size
      have hls := hwl.1
      clear hwr hb1 hwl l0 l1 l2 l3 l4 HLC
      go_wp2_with fail
      go_loopw [9, 10, 11, 12] (fun aa _ _ _ wr => ∃ A : Nat, A ≤ 2 ∧ aa = .int .i64 A ∧ Below w1.heap.size w1 wr) (fun aa _ _ _ _ => 2 - (intOf aa).toNat)
      case atStart => exact ⟨0, by omega, rfl, Below.refl _ _⟩
      case round =>
        obtain ⟨wb, rfl⟩ : ∃ x : World, x = wr := ⟨_, rfl⟩
        obtain ⟨A, hA, rfl, hb⟩ := hrel
        have HBX := Lib.hid hb
        have HBB := Lib.hid (bcomp HB1.out hb)
        have hsb := Nat.le_trans hs1 hb.size
        have GB := (HBB.out.block W.heap.size hs2).trans G2.out
        have l0 := row_of GB 0 _ rfl
        have l1 := row_of GB 1 _ rfl
        have l2 := row_of GB 2 _ rfl
        have l3 := row_of GB 3 _ rfl
        have l4 := row_of GB 4 _ rfl
        clear hb GB
        by_cases hA2 : A < 2
        rotate_left
        · obtain rfl : A = 2 := by omega
          go_wp2_with fail
          go_roundw
          case rel => exact ⟨K + 1, by omega, by go_num, HBB.out⟩
          case measure => simp [intOf]; omega
        have hA3 : (A : Int) < 2 := by omega
        have HLQ := Lib.hid (HLP.out wb (HR.out.keep HBB.out) (HL2.out.keep HBB.out))
        go_upto_region 13 with (go_at_call 18; refine HLQ.out.mono ?_; rintro e w3 ⟨gv, rfl, hgr, hb3⟩; obtain ⟨ga, gk, rfl, -, -⟩ := id hgr)
        have HEQ := equalStrs _ _ Ls Ls w3 hgr.forget (HWR.out.keep (bcomp HBX.out hb3))
        rw [eqL_refl eqS_refl] at HEQ
        have HEQ := Lib.hid HEQ
        have HGR := Lib.hid hgr
        have HB3 := Lib.hid hb3
        clear hgr hb3 HLQ l0 l1 l2 l3 l4
        go_wp2_with (go_at_call 19; refine HEQ.out.mono ?_; rintro e w4 ⟨rfl, hb4⟩)
        have HGC := Lib.hid (rd_cells (HGR.out.keep hb4))
        have HB4 := Lib.hid (bcomp HB3.out hb4)
        clear hb4 HEQ HGR HB3
        go_loopw [12] (fun ii wr => ∃ i : Nat, i ≤ Ls.length ∧ ii = .int .i64 i ∧ (∀ j, j < Ls.length → ∃ b o cs, ga = some ⟨b, o, none⟩ ∧ wb.heap.size ≤ b ∧ wr.heap[b]? = some (.cells cs 9 (0, 0)) ∧ o + j < cs.size) ∧ Below wb.heap.size wb wr) (fun ii _ => Ls.length - (intOf ii).toNat)
        case atStart => exact ⟨0, Nat.zero_le _, rfl, HGC.out, HB4.out⟩
        case round =>
          obtain ⟨i, hi, rfl, hc, hbr⟩ := hrel
          have HC := Lib.hid hc
          have HBR := Lib.hid hbr
          by_cases hil : i < Ls.length
          · obtain ⟨gb, go', cs, rfl, hge, hbk, hcs⟩ := hc i hil
            have hi2 : (i : Int) < (Ls.length : Int) := by omega
            obtain ⟨u, hu⟩ : ∃ u, cs[go' + i]? = some u := ⟨_, Array.getElem?_eq_getElem hcs⟩
            have c0 := row_of hbk (go' + i) u hu
            have f0 := frozen_of_row wr gb (go' + i) _ _ hbk
            have HBK := Lib.hid hbk
            clear hc hbr hu hbk hcs
            go_wp2_with fail
            go_roundw
            case rel =>
              refine ⟨i + 1, by omega, by go_num, fun j hj => ?_, HBR.out.setCell hge _⟩
              obtain ⟨b', o', cs', e, h1, h2, h3⟩ := HC.out j hj
              simp only [Option.some.injEq, Addr.mk.injEq] at e
              obtain ⟨rfl, rfl, -⟩ := e
              exact ⟨gb, go', _, rfl, h1, heap_setCell_same _ _ (go' + i) _ _ _ h2, by simpa using h3⟩
            case measure => simp [intOf]; omega
          · obtain rfl : i = Ls.length := by omega
            have hi2 : ¬ ((Ls.length : Int) < (Ls.length : Int)) := by omega
            clear hc hbr
            go_wp2_with fail
            go_roundw
            case rel => exact ⟨A + 1, by omega, by go_num, bcomp HBX.out HBR.out⟩
            case measure => simp [intOf]; omega
end Go.Proofs.YtjdbdoeopobciaaDoor
