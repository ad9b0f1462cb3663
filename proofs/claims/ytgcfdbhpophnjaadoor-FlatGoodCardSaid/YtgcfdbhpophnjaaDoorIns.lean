/- Contract of (*checker).instrs: the first fault of the instructions of a function by themselves; if there is none, its labels are one more entry of the checker's list, and its sites are among the checker's. Conditions: the checker's block and its maps are what they are named; the instructions read. -/
import Derived.Test.YtgcfdbhpophnjaaDoorForm
import Derived.Test.YtgcfdbhpophnjaaDoorTurn
import Derived.Deep.CutRange
set_option linter.unusedVariables false
set_option linter.unusedSimpArgs false
namespace Go.Proofs.YtgcfdbhpophnjaaDoor
open Go.ChangeShapes Go.WideShapes Go.ChangeAt Go.RowKit
theorem infoNames : (Tryd.prog.info? 108).map (fun i => (i.zero, i.size, i.bytes)) = some (some (.map none), 1, 8) := by kernel_rfl
theorem ok_cases (b main e : Bool) : (b = false) ∨ (b = true ∧ main = false) ∨ (b = true ∧ main = true ∧ e = true) ∨ (b = true ∧ main = true ∧ e = false) := by cases b <;> cases main <;> cases e <;> simp
def okB (x : InstrD) (main : Bool) : Bool := formB x && !(main && x.kind == 12)
theorem kind_cases (z : Int) : ((z == 5) = true) ∨ ((z == 5) = false ∧ (z == 6) = true) ∨ ((z == 5) = false ∧ (z == 6) = false ∧ (z == 2) = true) ∨ ((z == 5) = false ∧ (z == 6) = false ∧ (z == 2) = false ∧ (z == 3) = true) ∨
    ((z == 5) = false ∧ (z == 6) = false ∧ (z == 2) = false ∧ (z == 3) = false ∧ (z == 10) = true) ∨ ((z == 5) = false ∧ (z == 6) = false ∧ (z == 2) = false ∧ (z == 3) = false ∧ (z == 10) = false ∧ (z == 7) = true) ∨
    ((z == 5) = false ∧ (z == 6) = false ∧ (z == 2) = false ∧ (z == 3) = false ∧ (z == 10) = false ∧ (z == 7) = false) := by
  cases z == 5 <;> cases z == 6 <;> cases z == 2 <;> cases z == 3 <;> cases z == 10 <;> cases z == 7 <;> simp
section
variable (chans arrays labels sites : List ByteArray) (main : Bool) (x : InstrD)
theorem instrF_bad (h : okB x main = false) : instrF chans arrays main labels sites x = some ⟨x.line, x.col, 4⟩ := by unfold instrF; unfold okB at h; rw [h]; rfl
theorem instrF_good (h : okB x main = true) : instrF chans arrays main labels sites x = restF chans arrays labels sites x := by unfold instrF; unfold okB at h; rw [h]; rfl
theorem restF_chan (h : (x.kind == 5) = true ∨ (x.kind == 6) = true) : restF chans arrays labels sites x = needF (inL x.name chans) x.line x.col 6 := by
  unfold restF; rw [if_pos (by simpa using h)]
theorem restF_arr (h5 : (x.kind == 5) = false) (h6 : (x.kind == 6) = false) (h : (x.kind == 2) = true ∨ (x.kind == 3) = true) : restF chans arrays labels sites x = needF (inL x.name arrays) x.line x.col 6 := by
  unfold restF; rw [if_neg (by simp at h5 h6; omega), if_pos (by simpa using h)]
theorem restF_lab (h : (x.kind == 10) = true) : restF chans arrays labels sites x = needF (!inL x.name labels) x.line x.col 8 := by
  unfold restF; simp at h; rw [if_neg (by omega), if_neg (by omega), if_pos h]
theorem restF_rel (h : (x.kind == 7) = true) : restF chans arrays labels sites x = needF (inL x.name sites || decide (sites.length < 32)) x.line x.col 5 := by
  unfold restF; simp at h; rw [if_neg (by omega), if_neg (by omega), if_neg (by omega), if_pos h]
theorem restF_no (h5 : (x.kind == 5) = false) (h6 : (x.kind == 6) = false) (h2 : (x.kind == 2) = false) (h3 : (x.kind == 3) = false) (h10 : (x.kind == 10) = false) (h7 : (x.kind == 7) = false) : restF chans arrays labels sites x = none := by
  unfold restF; simp at h5 h6 h2 h3 h10 h7; rw [if_neg (by omega), if_neg (by omega), if_neg (by omega), if_neg (by omega)]
end
theorem labels_step (l : List InstrD) (x : InstrD) (k : Nat) (h : l[k]? = some x) : labelsOf (l.take (k + 1)) = if x.kind == 10 then labelsOf (l.take k) ++ [x.name] else labelsOf (l.take k) := by
  rw [List.take_add_one, h]; exact labelsOf_snoc _ _
theorem sites_step (s : List ByteArray) (l : List InstrD) (x : InstrD) (k : Nat) (h : l[k]? = some x) : sitesOf s (l.take (k + 1)) = if x.kind == 7 then putL x.name (sitesOf s (l.take k)) else sitesOf s (l.take k) := by
  rw [List.take_add_one, h]; exact sitesOf_snoc _ _ _
/-- What holds of a world in which an instruction list is being checked. -/
structure InsAt (w : World) (chans arrays sites : List ByteArray) (bc ba bs lb : Nat) (code : List InstrD) (k : Nat) (wr : World) : Prop where
  turned : Turned (fun i => i = bs) w wr
  kept : Kept w wr
  hc : SetIs wr bc chans
  ha : SetIs wr ba arrays
  hs : SetIs wr bs (sitesOf sites (code.take k))
  hl : SetIs wr lb (labelsOf (code.take k))
theorem InsAt.keep {w : World} {chans arrays sites : List ByteArray} {bc ba bs lb : Nat} {code : List InstrD} {k : Nat} {wr wr' : World} (h : InsAt w chans arrays sites bc ba bs lb code k wr) (b : Below wr.heap.size wr wr') : InsAt w chans arrays sites bc ba bs lb code k wr' :=
  ⟨h.turned.trans (Turned.of_below b), h.kept.trans (Kept.of_below b), h.hc.keep b, h.ha.keep b, h.hs.keep b, h.hl.keep b⟩
theorem InsAt.next {w : World} {chans arrays sites : List ByteArray} {bc ba bs lb : Nat} {code : List InstrD} {k : Nat} {wr : World} (h : InsAt w chans arrays sites bc ba bs lb code k wr) {x : InstrD} (hx : code[k]? = some x) (h10 : (x.kind == 10) = false) (h7 : (x.kind == 7) = false) : InsAt w chans arrays sites bc ba bs lb code (k + 1) wr :=
  ⟨h.turned, h.kept, h.hc, h.ha, by rw [sites_step _ _ _ _ hx, h7]; exact h.hs, by rw [labels_step _ _ _ hx, h10]; exact h.hl⟩
theorem InsAt.label {w : World} {chans arrays sites : List ByteArray} {bc ba bs lb : Nat} {code : List InstrD} {k : Nat} {wr wr' : World} (h : InsAt w chans arrays sites bc ba bs lb code k wr) {x : InstrD} (hx : code[k]? = some x) (h10 : (x.kind == 10) = true) (hn : inL x.name (labelsOf (code.take k)) = false)
    (hlb : w.heap.size ≤ lb) (h1 : lb ≠ bc) (h2 : lb ≠ ba) (h3 : lb ≠ bs) (hs : SetIs wr' lb (putL x.name (labelsOf (code.take k)))) (hg : wr.grownBy wr' (some lb)) : InsAt w chans arrays sites bc ba bs lb code (k + 1) wr' := by
  have ht : Turned (fun i => i = lb) wr wr' := Turned.of_grown hg (fun b e => by cases e; rfl)
  have h7 : (x.kind == 7) = false := by simp at h10 ⊢; omega
  refine ⟨h.turned.step ht (fun i hi e => by omega), h.kept.trans (Kept.of_map hg h.hl), h.hc.turn ht (fun e => h1 e.symm), h.ha.turn ht (fun e => h2 e.symm), ?_, ?_⟩
  · rw [sites_step _ _ _ _ hx, h7]; exact h.hs.turn ht (fun e => h3 e.symm)
  · rw [labels_step _ _ _ hx, h10]; unfold putL at hs; rw [hn] at hs; exact hs
theorem InsAt.site {w : World} {chans arrays sites : List ByteArray} {bc ba bs lb : Nat} {code : List InstrD} {k : Nat} {wr wr' : World} (h : InsAt w chans arrays sites bc ba bs lb code k wr) {x : InstrD} (hx : code[k]? = some x) (h7 : (x.kind == 7) = true)
    (h1 : bc ≠ bs) (h2 : ba ≠ bs) (h3 : lb ≠ bs) (hs : SetIs wr' bs (putL x.name (sitesOf sites (code.take k)))) (hg : wr.grownBy wr' (some bs)) : InsAt w chans arrays sites bc ba bs lb code (k + 1) wr' := by
  have ht : Turned (fun i => i = bs) wr wr' := Turned.of_grown hg (fun b e => by cases e; rfl)
  have h10 : (x.kind == 10) = false := by simp at h7 ⊢; omega
  refine ⟨h.turned.trans ht, h.kept.trans (Kept.of_map hg h.hs), h.hc.turn ht h1, h.ha.turn ht h2, ?_, ?_⟩
  · rw [sites_step _ _ _ _ hx, h7]; exact hs
  · rw [labels_step _ _ _ hx, h10]; exact h.hl.turn ht h3
set_option maxRecDepth 100000 in
set_option maxHeartbeats 25600000 in
theorem instrs_any (cb bc ba bs n base : Nat) (pw line col : Int) (pc pa pf pm mp lv cv : Value) (chans arrays sites : List ByteArray) (ls : List Value) (code : List InstrD) (main : Bool) (w : World)
    (hck : w.heap[cb]? = some (.cells #[.int .i64 pw, pc, pa, pf, pm, .map (some bc), .map (some ba), .map (some bs), mp, lv] 112 (0,0)))
    (hc : SetIs w bc chans) (ha : SetIs w ba arrays) (hs : SetIs w bs sites) (hd1 : bc ≠ bs) (hd2 : ba ≠ bs) (hl : w.ownsRow base 108 1 lv n ls) (hbase : base ≤ w.heap.size) (hn : n ≤ 1000)
    (hcode : RdInstrs none w cv code) (hL : Laid w) :
    Calls Tryd.prog 89 #[.pointer (some ⟨cb, 0, none⟩), cv, .agg #[.int .i64 line, .int .i64 col], .bool main] w fun e w' =>
      e = endF (instrsF chans arrays main sites code line col) ∧ Turned (fun k => k = bs ∨ k = cb ∨ lv.ownBlock = some k) w w' ∧
      (instrsF chans arrays main sites code line col = none → ∃ lb lv', w.heap.size ≤ lb ∧ SetIs w' lb (labelsOf code) ∧ SetIs w' bs (sitesOf sites code) ∧ w'.heap[cb]? = some (.cells #[.int .i64 pw, pc, pa, pf, pm, .map (some bc), .map (some ba), .map (some bs), mp, lv'] 112 (0,0)) ∧ w'.ownsRow base 108 1 lv' (n + 1) (ls ++ [.map (some lb)])) := by
  obtain ⟨a, c, rfl, hlen, hr⟩ := hcode
  obtain ⟨i0, hi, hz0, hz1, hz2⟩ := info_parts infoNames
  have HR := Lib.hid hr
  have HLd := Lib.hid hL
  have HCK := Lib.hid hck
  have HOW := Lib.hid hl
  have HST := Lib.hid (And.intro hc (And.intro ha hs))
  have hmm := @run_makeMap Tryd.prog
  clear hr hL hck hl hc ha hs
  have hcbl : Hid (cb < w.heap.size) := (Array.getElem?_eq_some_iff.1 HCK.out).1
  have hbsl : Hid (bc < w.heap.size ∧ ba < w.heap.size ∧ bs < w.heap.size) := ⟨HST.out.1.lt, HST.out.2.1.lt, HST.out.2.2.lt⟩
  by_cases h1k : code.length ≤ 1024
  rotate_left
  · have hF : Hid (instrsF chans arrays main sites code line col = some ⟨line, col, 5⟩) := by show _ = _; unfold instrsF; rw [decide_eq_false h1k]; rfl
    have h1k2 : decide ((code.length : Int) ≤ 1024) = false := decide_eq_false (by omega)
    clear h1k
    go_enter Tryd.func89, Tryd.ntmps89
    go_wp2_with fail
    refine (need_bad line col 5 _).mono ?_
    rintro e w2 ⟨rfl, hb2⟩
    refine ⟨rfl, by rw [hF.out]; rfl, Turned.of_below (bcomp ((Below.refl _ _).alloc (Nat.le_refl _) _) hb2), fun h => ?_⟩
    rw [hF.out] at h; cases h
  have hF : Hid (instrsF chans arrays main sites code line col = codeF chans arrays main sites code) := by show _ = _; unfold instrsF; rw [decide_eq_true h1k]; rfl
  have h1k2 : (code.length : Int) ≤ 1024 := by omega
  go_enter Tryd.func89, Tryd.ntmps89
  go_wp2_with fail
  refine (need_ok line col 5 _).mono ?_
  rintro e w2 ⟨rfl, hb2⟩
  have HB2 := Lib.hid (bcomp ((Below.refl _ _).alloc (Nat.le_refl _) (.cells #[.int .i64 line, .int .i64 col] 50)) hb2)
  have hsz2 : w.heap.size < w2.heap.size := by have := hb2.size; simp at this; omega
  clear hb2
  go_upto_region 3 with fail
  have HI0 : Hid (InsAt w chans arrays sites bc ba bs w2.heap.size code 0 (w2.alloc (.map #[] 0))) := by
    have hb3 : Below w.heap.size w (w2.alloc (.map #[] 0)) := bcomp HB2.out ((Below.refl _ _).alloc (Nat.le_refl _) _)
    exact ⟨Turned.of_below hb3, Kept.of_below hb3, HST.out.1.keep hb3, HST.out.2.1.keep hb3, HST.out.2.2.keep hb3, SetIs.made w2⟩
  generalize w2.alloc (.map #[] 0) = W3 at *
  obtain ⟨lb, hlb⟩ : ∃ lb, lb = w2.heap.size := ⟨_, rfl⟩
  rw [← hlb] at HI0 hsz2 ⊢
  clear hlb
  have hlbne : Hid (lb ≠ bc ∧ lb ≠ ba ∧ lb ≠ bs ∧ lb ≠ cb) := by have h1 := hcbl.out; have h2 := hbsl.out; refine ⟨?_, ?_, ?_, ?_⟩ <;> omega
  go_wp2
  go_loopw [19] (fun i wr => ∃ k : Nat, k ≤ code.length ∧ i = .int .i64 k ∧ InsAt w chans arrays sites bc ba bs lb code k wr ∧ Hid (codeF chans arrays main sites code = firstF (fun d x => instrF chans arrays main (labelsOf d) (sitesOf sites d) x) (code.take k) (code.drop k))) (fun i _ => code.length - (intOf i).toNat)
  case atStart => exact ⟨0, Nat.zero_le _, rfl, HI0.out, rfl⟩
  case round =>
    obtain ⟨k, hk, rfl, hI, hq⟩ := hrel
    have HI := Lib.hid hI
    clear hI HI0 hmm
    by_cases hlt : k < code.length
    rotate_left
    · obtain rfl : k = code.length := by omega
      have HN : Hid (instrsF chans arrays main sites code line col = none) := by show _ = _; rw [hF.out]; exact firstF_end hq.out
      have hck : wr.heap[cb]? = _ := (HI.out.turned.block cb hcbl.out (fun e => map_ne_cells HST.out.2.2 HCK.out e.symm)).trans HCK.out
      have c9 := row_of hck 9 lv rfl
      have hown : wr.ownsRow base 108 1 lv n ls := own_turn HOW.out HI.out.turned (fun g hg e => own_ne_map HOW.out HST.out.2.2 (by rw [hg, e]))
      have hws := HI.out.turned.size
      have HCW := Lib.hid hck
      clear hck
      have hcw : cb < wr.heap.size := Nat.lt_of_lt_of_le hcbl.out hws
      go_wp2_with (at_builtin; refine wpList_append_own _ rfl (.tmp 109) (.tmp 111) 110 rfl base 108 i0 (.map none) 1 8 Tryd.underlying110 hi hz0 hz1 hz2 rfl (by decide) _ _ _ rfl (hown.alloc _) ⟨wr.heap.size, 0, none⟩ 1 1 [.map (some lb)] rfl rfl (many_new _ _ _) ?c2 ?c3 ?c4 ?c5 ?_)
      case c2 => intro u hu; simp at hu; subst hu; rfl
      case c3 => unfold maxLen; omega
      case c4 => omega
      case c5 => simp; omega
      · intro v' w1 hown' hgrow _
        obtain ⟨av', kv', rfl, _⟩ := own_read hown'
        have hal : Below wr.heap.size wr (wr.alloc (.cells #[.map (some lb)] 108)) := (Below.refl _ _).alloc (Nat.le_refl _) _
        have hne : some cb ≠ lv.ownBlock := fun e => own_ne_cells hown HCW.out (by decide) e.symm
        have hck1 := (hgrow.block cb (by simp; omega) hne).trans ((hal.block cb hcw).trans HCW.out)
        have c9' := row_of hck1 9 lv rfl
        have f9 := frozen_of_row w1 cb 9 _ _ hck1
        have ht1 : Turned (fun k => lv.ownBlock = some k) wr w1 := (Turned.of_below hal).trans (Turned.of_grown hgrow (fun b e => e))
        have K1 := Lib.hid hck1
        have HO := Lib.hid hown'
        have HH := Lib.hid hown
        clear hown' hown hgrow hck1 hal c9
        go_wp2
        go_end0
        have hsc := setCell_turned w1 ⟨cb, 9, none⟩ (.slice av' (n + 1) kv')
        have ht2 : Turned (fun k => k = bs ∨ k = cb ∨ lv.ownBlock = some k) wr (w1.setCell ⟨cb, 9, none⟩ (.slice av' (n + 1) kv')) := (ht1.mono (fun i h => .inr (.inr h))).trans (hsc.mono (fun i h => .inr (.inl h)))
        have hbcb : bs ≠ cb := map_ne_cells HI.out.hs HCW.out
        refine ⟨by rw [HN.out]; rfl, (HI.out.turned.mono (fun i h => .inl h)).step ht2 (fun i _ h => h), fun _ => ⟨lb, .slice av' (n + 1) kv', by omega, ?_, ?_, ?_, ?_⟩⟩
        · have h := HI.out.hl
          rw [List.take_length] at h
          exact (h.turn ht1 (own_ne_map HH.out h)).turn hsc hlbne.out.2.2.2
        · have h := HI.out.hs
          rw [List.take_length] at h
          exact (h.turn ht1 (own_ne_map HH.out h)).turn hsc hbcb
        · exact heap_setCell_same _ _ 9 _ _ _ K1.out
        · refine own_turn HO.out hsc (fun g hg e => ?_)
          exact own_ne_cells HO.out K1.out (by decide) (by rw [hg]; simp only at e; rw [e])
    obtain ⟨x, hx⟩ : ∃ x, code[k]? = some x := ⟨_, List.getElem?_eq_getElem hlt⟩
    obtain ⟨b, o, av2, rfl, _, c0, c1, c2, c3, c4, c5, c6, hri⟩ := HR.out k x hx
    obtain ⟨aa, ca, rfl, _⟩ := id hri.1
    have d0 := HI.out.kept _ _ _ c0
    have d1 := HI.out.kept _ _ _ c1
    have d2 := HI.out.kept _ _ _ c2
    have d3 := HI.out.kept _ _ _ c3
    have d4 := HI.out.kept _ _ _ c4
    have d5 := HI.out.kept _ _ _ c5
    have d6 := HI.out.kept _ _ _ c6
    have HRI := Lib.hid (hri.kept HI.out.kept)
    have hns : x.name.size ≤ maxLen := hri.2.2.2.2.2.2
    have HX := Lib.hid hx
    have hlt2 : (k : Int) < (code.length : Int) := by omega
    have hwsz := HI.out.turned.size
    clear c0 c1 c2 c3 c4 c5 c6 hri hx
    go_upto_region 6 with fail
    have hb4 : Below wr.heap.size wr (wr.alloc (.cells #[.int .u8 x.kind, .int .u8 x.op, .string x.dst,   .string x.name, .slice aa x.args.length ca, .int .i64 x.line, .int .i64 x.col] 60)) := (Below.refl _ _).alloc (Nat.le_refl _) _
    have G4 := heap_alloc_new wr (.cells #[.int .u8 x.kind, .int .u8 x.op, .string x.dst,   .string x.name, .slice aa x.args.length ca, .int .i64 x.line, .int .i64 x.col] 60)
    generalize wr.alloc (.cells #[.int .u8 x.kind, .int .u8 x.op, .string x.dst,   .string x.name, .slice aa x.args.length ca, .int .i64 x.line, .int .i64 x.col] 60) = W4 at *
    have i0' := row_of G4 0 (.int .u8 x.kind) rfl
    have i1' := row_of G4 1 (.int .u8 x.op) rfl
    have i2' := row_of G4 2 (.string x.dst) rfl
    have i3' := row_of G4 3 (.string x.name) rfl
    have i4' := row_of G4 4 (.slice aa x.args.length ca) rfl
    have i5' := row_of G4 5 (.int .i64 x.line) rfl
    have i6' := row_of G4 6 (.int .i64 x.col) rfl
    have HI4 := Lib.hid (HI.out.keep hb4)
    have HRI4 := Lib.hid (HRI.out.keep hb4)
    have HLd4 := Lib.hid ((HLd.out.kept HI.out.kept).keep hb4)
    have HIS := Lib.hid (And.intro i0' (And.intro i3' (And.intro i5' i6')))
    generalize wr.heap.size = wn at *
    clear d0 d1 d2 d3 d4 d5 d6 hb4 G4 HI HRI
    go_cut [33] (fun cc wx => okB x main = true ∧ Below W4.heap.size W4 wx)
    case first =>
      have e0 := ext_cell i0'
      have e1 := ext_cell i1'
      have e2 := ext_cell i2'
      have e3 := ext_cell i3'
      have e4 := ext_cell i4'
      have e5 := ext_cell i5'
      have e6 := ext_cell i6'
      clear i0' i1' i2' i3' i4' i5' i6'
      have c1 := fun (w : World) (h : RdInstr none w x (.slice aa x.args.length ca)) (hL : Laid w) => formed_any x (.slice aa x.args.length ca) w h hL
      have hok : okB x main = (formB x && !(main && x.kind == 12)) := rfl
      rcases ok_cases (formB x) main (x.kind == 12) with h1 | ⟨h1, rfl⟩ | ⟨h1, rfl, h2⟩ | ⟨h1, rfl, h2⟩
      all_goals rw [h1] at c1 hok
      all_goals try rw [h2] at hok
      all_goals simp only [Bool.false_and, Bool.true_and, Bool.not_true, Bool.not_false] at hok
      all_goals have C1 := Lib.hid c1
      all_goals have HK := Lib.hid hok
      all_goals clear c1 hok h1
      · (refine wp_region_calm_tail 13 (by kernel_rfl) (by kernel_rfl) ?_; simp only [List.take_succ_cons, List.take_zero, List.drop_succ_cons, List.drop_zero]; (repeat (go_big_quiet_step ((go_at_call 108; exact calls_calm (C1.out _ (HRI4.out.keep (ext_below _ _)) (HLd4.out.ext _)))))); refine wpQuiet_nil ?_; intro wc hwc)
        go_wp2_with fail
        refine (need_bad x.line x.col 4 _).mono ?_
        rintro e w6 ⟨rfl, hb6⟩
        have hF2 := hF.out.trans (firstF_fault hq.out HX.out (instrF_bad _ _ _ _ _ _ HK.out))
        refine ⟨rfl, by rw [hF2]; rfl, ((HI4.out.keep hwc).keep hb6).turned.mono (fun i h => .inl h), fun h => ?_⟩
        rw [hF2] at h; cases h
      · (refine wp_region_calm_tail 13 (by kernel_rfl) (by kernel_rfl) ?_; simp only [List.take_succ_cons, List.take_zero, List.drop_succ_cons, List.drop_zero]; (repeat (go_big_quiet_step ((go_at_call 108; exact calls_calm (C1.out _ (HRI4.out.keep (ext_below _ _)) (HLd4.out.ext _)))))); refine wpQuiet_nil ?_; intro wc hwc)
        go_wp2_with fail
        refine (need_ok x.line x.col 4 _).mono ?_
        rintro e w6 ⟨rfl, hb6⟩
        go_wp2_with fail
        go_meet
        exact ⟨HK.out, bcomp hwc hb6⟩
      · (refine wp_region_calm_tail 13 (by kernel_rfl) (by kernel_rfl) ?_; simp only [List.take_succ_cons, List.take_zero, List.drop_succ_cons, List.drop_zero]; (repeat (go_big_quiet_step ((go_at_call 108; exact calls_calm (C1.out _ (HRI4.out.keep (ext_below _ _)) (HLd4.out.ext _)))))); refine wpQuiet_nil ?_; intro wc hwc)
        go_wp2_with fail
        refine (need_bad x.line x.col 4 _).mono ?_
        rintro e w6 ⟨rfl, hb6⟩
        have hF2 := hF.out.trans (firstF_fault hq.out HX.out (instrF_bad _ _ _ _ _ _ HK.out))
        refine ⟨rfl, by rw [hF2]; rfl, ((HI4.out.keep hwc).keep hb6).turned.mono (fun i h => .inl h), fun h => ?_⟩
        rw [hF2] at h; cases h
      · (refine wp_region_calm_tail 13 (by kernel_rfl) (by kernel_rfl) ?_; simp only [List.take_succ_cons, List.take_zero, List.drop_succ_cons, List.drop_zero]; (repeat (go_big_quiet_step ((go_at_call 108; exact calls_calm (C1.out _ (HRI4.out.keep (ext_below _ _)) (HLd4.out.ext _)))))); refine wpQuiet_nil ?_; intro wc hwc)
        go_wp2_with fail
        refine (need_ok x.line x.col 4 _).mono ?_
        rintro e w6 ⟨rfl, hb6⟩
        go_wp2_with fail
        go_meet
        exact ⟨HK.out, bcomp hwc hb6⟩
    case rest =>
      obtain ⟨hok, hb5⟩ := hcut
      have HF5 : Hid (instrF chans arrays main (labelsOf (code.take k)) (sitesOf sites (code.take k)) x = restF chans arrays (labelsOf (code.take k)) (sitesOf sites (code.take k)) x) := instrF_good _ _ _ _ _ _ hok
      clear i0' i1' i2' i3' i4' i5' i6' hok
      have i0' := cell_keep hb5 HIS.out.1
      have i3' := cell_keep hb5 HIS.out.2.1
      have i5' := cell_keep hb5 HIS.out.2.2.1
      have i6' := cell_keep hb5 HIS.out.2.2.2
      have HI5 := Lib.hid (HI4.out.keep hb5)
      clear hb5 HI4 HRI4 HLd4 HIS
      generalize wc = W5 at *
      rcases kind_cases x.kind with h5 | ⟨h5, h6⟩ | ⟨h5, h6, h2⟩ | ⟨h5, h6, h2, h3⟩ | ⟨h5, h6, h2, h3, h10⟩ | ⟨h5, h6, h2, h3, h10, h7⟩ | ⟨h5, h6, h2, h3, h10, h7⟩
      · have HK5 := Lib.hid (HI5.out.kept)
        have c5 : W5.cell? ⟨cb, 5, none⟩ = some (.map (some bc)) := HI5.out.turned.cell (row_of HCK.out 5 (.map (some bc)) rfl) (fun e => map_ne_cells HST.out.2.2 HCK.out e.symm)
        have HKF := Lib.hid (restF_chan chans arrays (labelsOf (code.take k)) (sitesOf sites (code.take k)) x (.inl h5))
        cases hin : inL x.name chans
        · have HIN := Lib.hid hin
          have e0 := ext_cell c5
          have e3 := ext_cell i3'
          have e5 := ext_cell i5'
          have e6 := ext_cell i6'
          have hlook := set_look Tryd.underlying9 Tryd.underlying108 names_zero HI5.out.hc x.name hns _ hin
          go_upto_region 10 with fail
          clear hin i3' i5' i6' c5
          (refine wp_region_calm_tail 9 (by kernel_rfl) (by kernel_rfl) ?_; simp only [List.take_succ_cons, List.take_zero, List.drop_succ_cons, List.drop_zero]; (repeat (go_big_quiet_step (fail))); refine wpQuiet_nil ?_; intro wc hwc)
          clear e0 e3 e5 e6 hlook
          go_wp2_with fail
          refine (need_bad x.line x.col 6 _).mono ?_
          rintro e w6 ⟨rfl, hb6⟩
          have hF2 : instrsF chans arrays main sites code line col = some ⟨x.line, x.col, 6⟩ := by rw [hF.out]; exact firstF_fault hq.out HX.out (by rw [HF5.out, HKF.out, HIN.out]; rfl)
          refine ⟨rfl, by rw [hF2]; rfl, ((HI5.out.keep hwc).keep hb6).turned.mono (fun i h => .inl h), fun h => ?_⟩
          rw [hF2] at h; cases h
        · have HIN := Lib.hid hin
          have e0 := ext_cell c5
          have e3 := ext_cell i3'
          have e5 := ext_cell i5'
          have e6 := ext_cell i6'
          have hlook := set_look Tryd.underlying9 Tryd.underlying108 names_zero HI5.out.hc x.name hns _ hin
          go_upto_region 10 with fail
          clear hin i3' i5' i6' c5
          (refine wp_region_calm_tail 9 (by kernel_rfl) (by kernel_rfl) ?_; simp only [List.take_succ_cons, List.take_zero, List.drop_succ_cons, List.drop_zero]; (repeat (go_big_quiet_step (fail))); refine wpQuiet_nil ?_; intro wc hwc)
          clear e0 e3 e5 e6 hlook
          go_wp2_with fail
          refine (need_ok x.line x.col 6 _).mono ?_
          rintro e w6 ⟨rfl, hb6⟩
          have hQ : Hid (codeF chans arrays main sites code = firstF (fun d x => instrF chans arrays main (labelsOf d) (sitesOf sites d) x) (code.take (k + 1)) (code.drop (k + 1))) := by
            exact firstF_ok hq.out HX.out (by rw [HF5.out, HKF.out, HIN.out]; rfl)
          have HJ := Lib.hid (((HI5.out.keep hwc).keep hb6).next HX.out (by have := h5; simp at this ⊢; omega) (by have := h5; simp at this ⊢; omega))
          go_wp2_with fail
          go_roundw
          case rel => exact ⟨k + 1, by omega, by go_num, HJ.out, hQ⟩
          case measure => simp [intOf]; omega
      · have HK5 := Lib.hid (HI5.out.kept)
        have c5 : W5.cell? ⟨cb, 5, none⟩ = some (.map (some bc)) := HI5.out.turned.cell (row_of HCK.out 5 (.map (some bc)) rfl) (fun e => map_ne_cells HST.out.2.2 HCK.out e.symm)
        have HKF := Lib.hid (restF_chan chans arrays (labelsOf (code.take k)) (sitesOf sites (code.take k)) x (.inr h6))
        cases hin : inL x.name chans
        · have HIN := Lib.hid hin
          have e0 := ext_cell c5
          have e3 := ext_cell i3'
          have e5 := ext_cell i5'
          have e6 := ext_cell i6'
          have hlook := set_look Tryd.underlying9 Tryd.underlying108 names_zero HI5.out.hc x.name hns _ hin
          go_upto_region 10 with fail
          clear hin i3' i5' i6' c5
          (refine wp_region_calm_tail 9 (by kernel_rfl) (by kernel_rfl) ?_; simp only [List.take_succ_cons, List.take_zero, List.drop_succ_cons, List.drop_zero]; (repeat (go_big_quiet_step (fail))); refine wpQuiet_nil ?_; intro wc hwc)
          clear e0 e3 e5 e6 hlook
          go_wp2_with fail
          refine (need_bad x.line x.col 6 _).mono ?_
          rintro e w6 ⟨rfl, hb6⟩
          have hF2 : instrsF chans arrays main sites code line col = some ⟨x.line, x.col, 6⟩ := by rw [hF.out]; exact firstF_fault hq.out HX.out (by rw [HF5.out, HKF.out, HIN.out]; rfl)
          refine ⟨rfl, by rw [hF2]; rfl, ((HI5.out.keep hwc).keep hb6).turned.mono (fun i h => .inl h), fun h => ?_⟩
          rw [hF2] at h; cases h
        · have HIN := Lib.hid hin
          have e0 := ext_cell c5
          have e3 := ext_cell i3'
          have e5 := ext_cell i5'
          have e6 := ext_cell i6'
          have hlook := set_look Tryd.underlying9 Tryd.underlying108 names_zero HI5.out.hc x.name hns _ hin
          go_upto_region 10 with fail
          clear hin i3' i5' i6' c5
          (refine wp_region_calm_tail 9 (by kernel_rfl) (by kernel_rfl) ?_; simp only [List.take_succ_cons, List.take_zero, List.drop_succ_cons, List.drop_zero]; (repeat (go_big_quiet_step (fail))); refine wpQuiet_nil ?_; intro wc hwc)
          clear e0 e3 e5 e6 hlook
          go_wp2_with fail
          refine (need_ok x.line x.col 6 _).mono ?_
          rintro e w6 ⟨rfl, hb6⟩
          have hQ : Hid (codeF chans arrays main sites code = firstF (fun d x => instrF chans arrays main (labelsOf d) (sitesOf sites d) x) (code.take (k + 1)) (code.drop (k + 1))) := by
            exact firstF_ok hq.out HX.out (by rw [HF5.out, HKF.out, HIN.out]; rfl)
          have HJ := Lib.hid (((HI5.out.keep hwc).keep hb6).next HX.out (by have := h6; simp at this ⊢; omega) (by have := h6; simp at this ⊢; omega))
          go_wp2_with fail
          go_roundw
          case rel => exact ⟨k + 1, by omega, by go_num, HJ.out, hQ⟩
          case measure => simp [intOf]; omega
      · have HK5 := Lib.hid (HI5.out.kept)
        have c5 : W5.cell? ⟨cb, 6, none⟩ = some (.map (some ba)) := HI5.out.turned.cell (row_of HCK.out 6 (.map (some ba)) rfl) (fun e => map_ne_cells HST.out.2.2 HCK.out e.symm)
        have HKF := Lib.hid (restF_arr chans arrays (labelsOf (code.take k)) (sitesOf sites (code.take k)) x h5 h6 (.inl h2))
        cases hin : inL x.name arrays
        · have HIN := Lib.hid hin
          have e0 := ext_cell c5
          have e3 := ext_cell i3'
          have e5 := ext_cell i5'
          have e6 := ext_cell i6'
          have hlook := set_look Tryd.underlying9 Tryd.underlying108 names_zero HI5.out.ha x.name hns _ hin
          go_upto_region 13 with fail
          clear hin i3' i5' i6' c5
          (refine wp_region_calm_tail 9 (by kernel_rfl) (by kernel_rfl) ?_; simp only [List.take_succ_cons, List.take_zero, List.drop_succ_cons, List.drop_zero]; (repeat (go_big_quiet_step (fail))); refine wpQuiet_nil ?_; intro wc hwc)
          clear e0 e3 e5 e6 hlook
          go_wp2_with fail
          refine (need_bad x.line x.col 6 _).mono ?_
          rintro e w6 ⟨rfl, hb6⟩
          have hF2 : instrsF chans arrays main sites code line col = some ⟨x.line, x.col, 6⟩ := by rw [hF.out]; exact firstF_fault hq.out HX.out (by rw [HF5.out, HKF.out, HIN.out]; rfl)
          refine ⟨rfl, by rw [hF2]; rfl, ((HI5.out.keep hwc).keep hb6).turned.mono (fun i h => .inl h), fun h => ?_⟩
          rw [hF2] at h; cases h
        · have HIN := Lib.hid hin
          have e0 := ext_cell c5
          have e3 := ext_cell i3'
          have e5 := ext_cell i5'
          have e6 := ext_cell i6'
          have hlook := set_look Tryd.underlying9 Tryd.underlying108 names_zero HI5.out.ha x.name hns _ hin
          go_upto_region 13 with fail
          clear hin i3' i5' i6' c5
          (refine wp_region_calm_tail 9 (by kernel_rfl) (by kernel_rfl) ?_; simp only [List.take_succ_cons, List.take_zero, List.drop_succ_cons, List.drop_zero]; (repeat (go_big_quiet_step (fail))); refine wpQuiet_nil ?_; intro wc hwc)
          clear e0 e3 e5 e6 hlook
          go_wp2_with fail
          refine (need_ok x.line x.col 6 _).mono ?_
          rintro e w6 ⟨rfl, hb6⟩
          have hQ : Hid (codeF chans arrays main sites code = firstF (fun d x => instrF chans arrays main (labelsOf d) (sitesOf sites d) x) (code.take (k + 1)) (code.drop (k + 1))) := by
            exact firstF_ok hq.out HX.out (by rw [HF5.out, HKF.out, HIN.out]; rfl)
          have HJ := Lib.hid (((HI5.out.keep hwc).keep hb6).next HX.out (by have := h2; simp at this ⊢; omega) (by have := h2; simp at this ⊢; omega))
          go_wp2_with fail
          go_roundw
          case rel => exact ⟨k + 1, by omega, by go_num, HJ.out, hQ⟩
          case measure => simp [intOf]; omega
      · have HK5 := Lib.hid (HI5.out.kept)
        have c5 : W5.cell? ⟨cb, 6, none⟩ = some (.map (some ba)) := HI5.out.turned.cell (row_of HCK.out 6 (.map (some ba)) rfl) (fun e => map_ne_cells HST.out.2.2 HCK.out e.symm)
        have HKF := Lib.hid (restF_arr chans arrays (labelsOf (code.take k)) (sitesOf sites (code.take k)) x h5 h6 (.inr h3))
        cases hin : inL x.name arrays
        · have HIN := Lib.hid hin
          have e0 := ext_cell c5
          have e3 := ext_cell i3'
          have e5 := ext_cell i5'
          have e6 := ext_cell i6'
          have hlook := set_look Tryd.underlying9 Tryd.underlying108 names_zero HI5.out.ha x.name hns _ hin
          go_upto_region 13 with fail
          clear hin i3' i5' i6' c5
          (refine wp_region_calm_tail 9 (by kernel_rfl) (by kernel_rfl) ?_; simp only [List.take_succ_cons, List.take_zero, List.drop_succ_cons, List.drop_zero]; (repeat (go_big_quiet_step (fail))); refine wpQuiet_nil ?_; intro wc hwc)
          clear e0 e3 e5 e6 hlook
          go_wp2_with fail
          refine (need_bad x.line x.col 6 _).mono ?_
          rintro e w6 ⟨rfl, hb6⟩
          have hF2 : instrsF chans arrays main sites code line col = some ⟨x.line, x.col, 6⟩ := by rw [hF.out]; exact firstF_fault hq.out HX.out (by rw [HF5.out, HKF.out, HIN.out]; rfl)
          refine ⟨rfl, by rw [hF2]; rfl, ((HI5.out.keep hwc).keep hb6).turned.mono (fun i h => .inl h), fun h => ?_⟩
          rw [hF2] at h; cases h
        · have HIN := Lib.hid hin
          have e0 := ext_cell c5
          have e3 := ext_cell i3'
          have e5 := ext_cell i5'
          have e6 := ext_cell i6'
          have hlook := set_look Tryd.underlying9 Tryd.underlying108 names_zero HI5.out.ha x.name hns _ hin
          go_upto_region 13 with fail
          clear hin i3' i5' i6' c5
          (refine wp_region_calm_tail 9 (by kernel_rfl) (by kernel_rfl) ?_; simp only [List.take_succ_cons, List.take_zero, List.drop_succ_cons, List.drop_zero]; (repeat (go_big_quiet_step (fail))); refine wpQuiet_nil ?_; intro wc hwc)
          clear e0 e3 e5 e6 hlook
          go_wp2_with fail
          refine (need_ok x.line x.col 6 _).mono ?_
          rintro e w6 ⟨rfl, hb6⟩
          have hQ : Hid (codeF chans arrays main sites code = firstF (fun d x => instrF chans arrays main (labelsOf d) (sitesOf sites d) x) (code.take (k + 1)) (code.drop (k + 1))) := by
            exact firstF_ok hq.out HX.out (by rw [HF5.out, HKF.out, HIN.out]; rfl)
          have HJ := Lib.hid (((HI5.out.keep hwc).keep hb6).next HX.out (by have := h3; simp at this ⊢; omega) (by have := h3; simp at this ⊢; omega))
          go_wp2_with fail
          go_roundw
          case rel => exact ⟨k + 1, by omega, by go_num, HJ.out, hQ⟩
          case measure => simp [intOf]; omega
      · have HKF := Lib.hid (restF_lab chans arrays (labelsOf (code.take k)) (sitesOf sites (code.take k)) x h10)
        cases hin : inL x.name (labelsOf (code.take k))
        · have HIN := Lib.hid hin
          clear hin
          go_wp2_with (at_lookup; refine wpList_set_lookup rfl _ _ _ rfl _ _ Tryd.underlying9 Tryd.underlying108 (names_zero _) lb (labelsOf (code.take k)) rfl x.name rfl hns HI5.out.hl ?_; rw [HIN.out])
          refine (need_ok x.line x.col 8 _).mono ?_
          rintro e w6 ⟨rfl, hb6⟩
          have j3 := cell_keep hb6 i3'
          have HI6 := Lib.hid (HI5.out.keep hb6)
          clear hb6
          go_wp2_with (at_mapUpdate; refine wpList_set_store rfl _ _ _ _ rfl _ _ Tryd.underlying9 Tryd.underlying108 lb (labelsOf (code.take k)) rfl x.name rfl rfl hns HI6.out.hl ?_; intro w7 hs7 hg7 hz7)
          have hQ : Hid (codeF chans arrays main sites code = firstF (fun d x => instrF chans arrays main (labelsOf d) (sitesOf sites d) x) (code.take (k + 1)) (code.drop (k + 1))) := by
            exact firstF_ok hq.out HX.out (by rw [HF5.out, HKF.out, HIN.out]; rfl)
          have HJ := Lib.hid (HI6.out.label HX.out h10 HIN.out (by omega) hlbne.out.1 hlbne.out.2.1 hlbne.out.2.2.1 hs7 hg7)
          go_roundw
          case rel => exact ⟨k + 1, by omega, by go_num, HJ.out, hQ⟩
          case measure => simp [intOf]; omega
        · have HIN := Lib.hid hin
          clear hin
          go_wp2_with (at_lookup; refine wpList_set_lookup rfl _ _ _ rfl _ _ Tryd.underlying9 Tryd.underlying108 (names_zero _) lb (labelsOf (code.take k)) rfl x.name rfl hns HI5.out.hl ?_; rw [HIN.out])
          refine (need_bad x.line x.col 8 _).mono ?_
          rintro e w6 ⟨rfl, hb6⟩
          have hF2 : instrsF chans arrays main sites code line col = some ⟨x.line, x.col, 8⟩ := by rw [hF.out]; exact firstF_fault hq.out HX.out (by rw [HF5.out, HKF.out, HIN.out]; rfl)
          refine ⟨rfl, by rw [hF2]; rfl, (HI5.out.keep hb6).turned.mono (fun i h => .inl h), fun h => ?_⟩
          rw [hF2] at h; cases h
      · have c5 : W5.cell? ⟨cb, 7, none⟩ = some (.map (some bs)) := HI5.out.turned.cell (row_of HCK.out 7 (.map (some bs)) rfl) (fun e => map_ne_cells HST.out.2.2 HCK.out e.symm)
        have I3 := Lib.hid i3'
        have HKF := Lib.hid (restF_rel chans arrays (labelsOf (code.take k)) (sitesOf sites (code.take k)) x h7)
        cases hin : inL x.name (sitesOf sites (code.take k))
        rotate_left
        · have HIN := Lib.hid hin
          have e0 := ext_cell c5
          have e3 := ext_cell i3'
          have e5 := ext_cell i5'
          have e6 := ext_cell i6'
          have hlook := set_look Tryd.underlying9 Tryd.underlying108 names_zero HI5.out.hs x.name hns _ hin
          go_upto_region 18 with fail
          clear hin i3' i5' i6'
          (refine wp_region_calm_tail 17 (by kernel_rfl) (by kernel_rfl) ?_; simp only [List.take_succ_cons, List.take_zero, List.drop_succ_cons, List.drop_zero]; (repeat (go_big_quiet_step (fail))); refine wpQuiet_nil ?_; intro wc hwc)
          clear e0 e3 e5 e6 hlook
          go_wp2_with fail
          refine (need_ok x.line x.col 5 _).mono ?_
          rintro e w6 ⟨rfl, hb6⟩
          have HI6 := Lib.hid ((HI5.out.keep hwc).keep hb6)
          have f5 := ext_cell (cell_keep (bcomp hwc hb6) c5)
          have f3 := ext_cell (cell_keep (bcomp hwc hb6) I3.out)
          clear c5
          go_upto_region 19 with fail
          (refine wp_region_calm_tail 6 (by kernel_rfl) (by kernel_rfl) ?_; simp only [List.take_succ_cons, List.take_zero, List.drop_succ_cons, List.drop_zero]; (repeat (go_big_quiet_step (fail))); refine wpQuiet_nil ?_; intro wc hwc)
          have HI7 := Lib.hid (HI6.out.keep hwc)
          clear f5 f3
          go_wp2_with (at_mapUpdate; refine wpList_set_store rfl _ _ _ _ rfl _ _ Tryd.underlying9 Tryd.underlying108 bs (sitesOf sites (code.take k)) rfl x.name rfl rfl hns HI7.out.hs ?_; intro w7 hs7 hg7 hz7)
          have hQ : Hid (codeF chans arrays main sites code = firstF (fun d x => instrF chans arrays main (labelsOf d) (sitesOf sites d) x) (code.take (k + 1)) (code.drop (k + 1))) := by
            exact firstF_ok hq.out HX.out (by rw [HF5.out, HKF.out, HIN.out]; rfl)
          have HJ := Lib.hid (HI7.out.site HX.out h7 hd1 hd2 hlbne.out.2.2.1 hs7 hg7)
          go_roundw
          case rel => exact ⟨k + 1, by omega, by go_num, HJ.out, hQ⟩
          case measure => simp [intOf]; omega
        by_cases h32 : (sitesOf sites (code.take k)).length < 32
        · have HIN := Lib.hid hin
          have e0 := ext_cell c5
          have e3 := ext_cell i3'
          have e5 := ext_cell i5'
          have e6 := ext_cell i6'
          have hlook := set_look Tryd.underlying9 Tryd.underlying108 names_zero HI5.out.hs x.name hns _ hin
          have h33 : ((sitesOf sites (code.take k)).length : Int) < 32 := by omega
          have hlen2 := set_len (P := Tryd.prog) Tryd.underlying108 HI5.out.hs 3
          have HW := Lib.hid h32
          clear h32
          go_upto_region 18 with fail
          clear hin i3' i5' i6'
          (refine wp_region_calm_tail 17 (by kernel_rfl) (by kernel_rfl) ?_; simp only [List.take_succ_cons, List.take_zero, List.drop_succ_cons, List.drop_zero]; (repeat (go_big_quiet_step (fail))); refine wpQuiet_nil ?_; intro wc hwc)
          clear e0 e3 e5 e6 hlook
          go_wp2_with fail
          refine (need_ok x.line x.col 5 _).mono ?_
          rintro e w6 ⟨rfl, hb6⟩
          clear hlen2 h33
          have HI6 := Lib.hid ((HI5.out.keep hwc).keep hb6)
          have f5 := ext_cell (cell_keep (bcomp hwc hb6) c5)
          have f3 := ext_cell (cell_keep (bcomp hwc hb6) I3.out)
          clear c5
          go_upto_region 19 with fail
          (refine wp_region_calm_tail 6 (by kernel_rfl) (by kernel_rfl) ?_; simp only [List.take_succ_cons, List.take_zero, List.drop_succ_cons, List.drop_zero]; (repeat (go_big_quiet_step (fail))); refine wpQuiet_nil ?_; intro wc hwc)
          have HI7 := Lib.hid (HI6.out.keep hwc)
          clear f5 f3
          go_wp2_with (at_mapUpdate; refine wpList_set_store rfl _ _ _ _ rfl _ _ Tryd.underlying9 Tryd.underlying108 bs (sitesOf sites (code.take k)) rfl x.name rfl rfl hns HI7.out.hs ?_; intro w7 hs7 hg7 hz7)
          have hQ : Hid (codeF chans arrays main sites code = firstF (fun d x => instrF chans arrays main (labelsOf d) (sitesOf sites d) x) (code.take (k + 1)) (code.drop (k + 1))) := by
            exact firstF_ok hq.out HX.out (by rw [HF5.out, HKF.out, HIN.out, decide_eq_true HW.out]; rfl)
          have HJ := Lib.hid (HI7.out.site HX.out h7 hd1 hd2 hlbne.out.2.2.1 hs7 hg7)
          go_roundw
          case rel => exact ⟨k + 1, by omega, by go_num, HJ.out, hQ⟩
          case measure => simp [intOf]; omega
        · have HIN := Lib.hid hin
          have e0 := ext_cell c5
          have e3 := ext_cell i3'
          have e5 := ext_cell i5'
          have e6 := ext_cell i6'
          have hlook := set_look Tryd.underlying9 Tryd.underlying108 names_zero HI5.out.hs x.name hns _ hin
          have h33 : decide (((sitesOf sites (code.take k)).length : Int) < 32) = false := decide_eq_false (by omega)
          have hlen2 := set_len (P := Tryd.prog) Tryd.underlying108 HI5.out.hs 3
          have HW := Lib.hid h32
          clear h32
          go_upto_region 18 with fail
          clear hin i3' i5' i6'
          (refine wp_region_calm_tail 17 (by kernel_rfl) (by kernel_rfl) ?_; simp only [List.take_succ_cons, List.take_zero, List.drop_succ_cons, List.drop_zero]; (repeat (go_big_quiet_step (fail))); refine wpQuiet_nil ?_; intro wc hwc)
          clear e0 e3 e5 e6 hlook
          go_wp2_with fail
          refine (need_bad x.line x.col 5 _).mono ?_
          rintro e w6 ⟨rfl, hb6⟩
          have hF2 : instrsF chans arrays main sites code line col = some ⟨x.line, x.col, 5⟩ := by rw [hF.out]; exact firstF_fault hq.out HX.out (by rw [HF5.out, HKF.out, HIN.out, decide_eq_false HW.out]; rfl)
          refine ⟨rfl, by rw [hF2]; rfl, ((HI5.out.keep hwc).keep hb6).turned.mono (fun i h => .inl h), fun h => ?_⟩
          rw [hF2] at h; cases h
      · have HKF := Lib.hid (restF_no chans arrays (labelsOf (code.take k)) (sitesOf sites (code.take k)) x h5 h6 h2 h3 h10 h7)
        have hQ : Hid (codeF chans arrays main sites code = firstF (fun d x => instrF chans arrays main (labelsOf d) (sitesOf sites d) x) (code.take (k + 1)) (code.drop (k + 1))) := by
          exact firstF_ok hq.out HX.out (by rw [HF5.out, HKF.out])
        have HJ := Lib.hid (HI5.out.next HX.out h10 h7)
        go_wp2_with fail
        go_roundw
        case rel => exact ⟨k + 1, by omega, by go_num, HJ.out, hQ⟩
        case measure => simp [intOf]; omega
end Go.Proofs.YtgcfdbhpophnjaaDoor
