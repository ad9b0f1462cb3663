/- Contract of package script's sites. Conditions: the program reads as one; it has not too many instructions. The policy of a string under way: its block, the bytes, and a row that grows. Plain lemmas. Conditions: each theorem's own. -/
import Derived.Test.YtfdinncgncbmfaaGreatDoorScV
import Derived.Test.YtfdinncgncbmfaaGreatDoorScN
set_option linter.unusedVariables false
set_option linter.unusedSimpArgs false
set_option linter.unnecessarySimpa false
namespace Go.Proofs.YtfdinncgncbmfaaGreatDoor
open Go.ChangeShapes Go.WideShapes Go.ChangeAt Go.RowKit
theorem own_rowY {w : World} {base : Nat} {e : TypeId} {size : Nat} {v : Value} {n : Nat} {xs : List Value} (h : w.ownsRow base e size v n xs) {b : Nat} (hb : v.ownBlock = some b) : ∃ cs, w.heap[b]? = some (.cells cs e (0, 0)) := by
  obtain ⟨hl, h | ⟨g, cap, cur, rfl, hg, hc, hr⟩⟩ := h
  · obtain ⟨rfl, -⟩ := h
    simp [Value.ownBlock] at hb
  · simp only [Value.ownBlock, Option.some.injEq] at hb
    subst hb
    exact ⟨cur, hc⟩
/-- The sites under way: the cell of the set, the cell of the slice, the set, the slice's row. -/
structure SY (w0 w : World) (base gm gs mb : Nat) (S L : List ByteArray) : Prop where
  cm : w.heap[gm]? = some (.cells #[.map (some mb)] 98 (0, 0))
  co : ∃ ov, w.heap[gs]? = some (.cells #[ov] 23 (0, 0)) ∧ w.ownsRow base 9 1 ov L.length (L.flatMap strCells)
  st : SetIs w mb S
  hgm : base ≤ gm
  below : Below base w0 w
  hb : base ≤ w0.heap.size
  hm : base ≤ mb
  hgs : base ≤ gs
section
variable {w0 w w' : World} {base gm gs mb : Nat} {S S' L : List ByteArray}
theorem SY.later (h : SY w0 w base gm gs mb S L) (k : Below w.heap.size w w') : SY w0 w' base gm gs mb S L := by
  obtain ⟨ov, h1, h2⟩ := h.co
  exact ⟨(k.block gm (Array.getElem?_eq_some_iff.1 h.cm).1).trans h.cm, ⟨ov, (k.block gs (Array.getElem?_eq_some_iff.1 h1).1).trans h1, own_below h2 k⟩, h.st.keep k, h.hgm, h.below.trans (k.mono (Nat.le_trans h.hb h.below.size)), h.hb, h.hm, h.hgs⟩
theorem not_set {w : World} {b : Nat} {cs : Array Value} {T : TypeId} {S : List ByteArray} {mb : Nat} (h : w.heap[b]? = some (.cells cs T (0, 0))) (hs : SetIs w mb S) : b ≠ mb := by
  intro e
  obtain ⟨es, ck, h1, -⟩ := hs
  rw [e, h1] at h
  cases h
/-- One more is put into the set. -/
theorem SY.mark (h : SY w0 w base gm gs mb S L) (hs : SetIs w' mb S') (hg : w.grownBy w' (some mb)) : SY w0 w' base gm gs mb S' L := by
  obtain ⟨ov, h1, h2⟩ := h.co
  have n1 := not_set h.cm h.st
  have n2 := not_set h1 h.st
  have t := Trn.of_grown (S := fun b => b = mb) hg (fun b e => by cases e; rfl)
  refine ⟨t.heap h.cm n1, ⟨ov, t.heap h1 n2, own_trn h2 t (fun k hk e => ?_)⟩, hs, h.hgm, h.below.trans (t.below base (Nat.le_trans h.hb h.below.size) (fun i hi e => by have := h.hm; have e' : i = mb := e; omega)), h.hb, h.hm, h.hgs⟩
  obtain ⟨cs, hc⟩ := own_rowY h2 hk
  exact not_set hc h.st e
theorem not_ownY {w : World} {base : Nat} {e T : TypeId} {size : Nat} {v : Value} {n : Nat} {xs : List Value} {b : Nat} {cs : Array Value} (h : w.ownsRow base e size v n xs) (hb : w.heap[b]? = some (.cells cs T (0, 0))) (hT : e ≠ T) : v.ownBlock ≠ some b := by
  intro e1
  obtain ⟨ds, h1⟩ := own_rowY h e1
  rw [h1] at hb
  simp only [Option.some.injEq, Obj.cells.injEq] at hb
  exact hT hb.2.1
/-- The row grows, and is put into its cell. -/
theorem SY.grow {ov ov' : Value} {n : ByteArray} (h : SY w0 w base gm gs mb S L) (h1 : w.heap[gs]? = some (.cells #[ov] 23 (0, 0))) (h2 : w.ownsRow base 9 1 ov L.length (L.flatMap strCells)) (hg : w.grownBy w' ov.ownBlock) (ho : w'.ownsRow base 9 1 ov' (L.length + 1) (L.flatMap strCells ++ [.string n])) :
    SY w0 (w'.setCell ⟨gs, 0, none⟩ ov') base gm gs mb S (L ++ [n]) := by
  have t := Trn.of_grown (S := fun b => ov.ownBlock = some b) hg (fun b e => e)
  have g1 := t.heap h1 (not_ownY h2 h1 (by decide))
  have gc := t.heap h.cm (not_ownY h2 h.cm (by decide))
  have hsc := setCell_trn w' ⟨gs, 0, none⟩ ov'
  have hne : gm ≠ gs := by
    intro e
    have hc := h.cm
    rw [e, h1] at hc
    simp only [Option.some.injEq, Obj.cells.injEq] at hc
    exact absurd hc.2.1 (by decide)
  have hnm := not_set h1 h.st
  have hb1 := heap_setCell_same w' gs 0 _ _ ov' g1
  simp only [List.setIfInBounds_toArray, List.set_cons_zero] at hb1
  refine ⟨hsc.heap gc hne, ⟨ov', hb1, ?_⟩, ?_, h.hgm, (h.below.grown hg (Nat.le_trans h.hb h.below.size) (own_row_le h2)).setCell h.hgs _, h.hb, h.hm, h.hgs⟩
  · have := own_trn ho hsc (fun k hk e => not_ownY ho g1 (by decide) (by have e' : k = gs := e; rw [← e']; exact hk))
    simpa [strCells] using this
  · refine (h.st.at (t.block mb h.st.lt (fun e => ?_))).at (heap_setCell_other w' ⟨gs, 0, none⟩ mb ov' (by show ¬ mb = gs; exact fun e => hnm e.symm))
    obtain ⟨cs, hc⟩ := own_rowY h2 e
    exact not_set hc h.st rfl
end
theorem sitesY_step {s : List ByteArray} {l : List InstrD} {i : Nat} {x : InstrD} (h : l[i]? = some x) : sitesOf s (l.take (i + 1)) = if x.kind == 7 then putL x.name (sitesOf s (l.take i)) else sitesOf s (l.take i) := by
  rw [List.take_add_one, h]
  exact sitesOf_snoc s _ x
theorem sitesY_len (s : List ByteArray) (l : List InstrD) : (sitesOf s l).length ≤ s.length + l.length := by
  induction l generalizing s with
  | nil => simp [sitesOf]
  | cons x r ih =>
    have := ih (if x.kind == 7 then putL x.name s else s)
    have h2 : (if x.kind == 7 then putL x.name s else s).length ≤ s.length + 1 := by
      split
      · unfold putL; split <;> simp
      · omega
    show (sitesOf (if x.kind == 7 then putL x.name s else s) r).length ≤ _
    simp only [List.length_cons]
    omega
theorem instrs_at {lo : Option (Nat → Prop)} {w : World} {v : Value} {l : List InstrD} (h : RdInstrs lo w v l) {i : Nat} {s : InstrD} (hi : l[i]? = some s) : ∃ b o c av, v = .slice (some ⟨b, o, none⟩) l.length c ∧ w.cell? ⟨b, o + i * 7, none⟩ = some (.int .u8 s.kind) ∧ w.cell? ⟨b, o + i * 7 + 1, none⟩ = some (.int .u8 s.op) ∧ w.cell? ⟨b, o + i * 7 + 2, none⟩ = some (.string s.dst) ∧ w.cell? ⟨b, o + i * 7 + 3, none⟩ = some (.string s.name) ∧ w.cell? ⟨b, o + i * 7 + 4, none⟩ = some av ∧ w.cell? ⟨b, o + i * 7 + 5, none⟩ = some (.int .i64 s.line) ∧ w.cell? ⟨b, o + i * 7 + 6, none⟩ = some (.int .i64 s.col) ∧ RdInstr lo w s av := by
  obtain ⟨a, c, rfl, -, hr⟩ := h
  obtain ⟨b, o, av, rfl, -, h0, h1, h2, h3, h4, h5, h6, h7⟩ := hr i s hi
  exact ⟨b, o, c, av, rfl, h0, h1, h2, h3, h4, h5, h6, h7⟩
theorem infoStrY : (Tryz.prog.info? 9).map (fun i => (i.zero, i.size, i.bytes)) = some (some (.string ⟨#[]⟩), 1, 16) := by kernel_rfl
set_option maxRecDepth 100000 in
set_option maxHeartbeats 3200000 in
theorem sites1_any (v : Value) (l : List InstrD) (w0 w : World) (gm gs mb : Nat) (S : List ByteArray) (h : SY w0 w w0.heap.size gm gs mb S S) (hr : RdInstrs none w0 v l) (hl : S.length + l.length ≤ 100000000) :
    Calls Tryz.prog 43 #[v, .pointer (some ⟨gm, 0, none⟩), .pointer (some ⟨gs, 0, none⟩)] w fun e w' => e = .returned (.tuple #[]) ∧ SY w0 w' w0.heap.size gm gs mb (sitesOf S l) (sitesOf S l) := by
  obtain ⟨a, c, rfl, -, -⟩ := id hr
  obtain ⟨iS, hiS, hzS0, hzS1, hzS2⟩ := info_parts infoStrY
  have H := Lib.hid h
  have HR := Lib.hid hr
  clear h hr
  go_enter Tryz.func43, Tryz.ntmps43
  go_wp2_with fail
  go_loopw [5, 8] (fun _ v wr => ∃ i : Nat, i ≤ l.length ∧ v = .int .i64 i ∧ SY w0 wr w0.heap.size gm gs mb (sitesOf S (l.take i)) (sitesOf S (l.take i))) (fun _ v _ => l.length - (intOf v).toNat)
  case atStart => exact ⟨0, Nat.zero_le _, rfl, H.out⟩
  case round =>
    obtain ⟨i, hi, rfl, hs⟩ := hrel
    obtain ⟨w1, rfl⟩ : ∃ x : World, x = wr := ⟨_, rfl⟩
    have HS := Lib.hid hs
    clear hs
    by_cases hlt : i < l.length
    · have hlt1 : (i : Int) < (l.length : Int) := by omega
      obtain ⟨x, hx⟩ : ∃ x, l[i]? = some x := ⟨_, List.getElem?_eq_getElem hlt⟩
      obtain ⟨T, hT⟩ : ∃ T, sitesOf S (l.take i) = T := ⟨_, rfl⟩
      rw [hT] at HS
      have hTl : T.length ≤ 100000000 := by rw [← hT]; have := sitesY_len S (l.take i); simp at this; omega
      have HST : Hid (sitesOf S (l.take (i + 1)) = if x.kind == 7 then putL x.name T else T) := by show _ = _; rw [sitesY_step hx, hT]
      obtain ⟨b, o, c', av, he, q0, q1, q2, q3, q4, q5, q6, hri⟩ := instrs_at (HR.out.keep HS.out.below) hx
      simp only [Value.slice.injEq, true_and] at he
      obtain ⟨rfl, rfl⟩ := he
      obtain ⟨ra, rc, rfl, -⟩ := id hri.1
      have hnz : x.name.size ≤ maxLen := hri.2.2.2.2.2.2
      have hal := (Below.refl w1.heap.size w1).alloc (Nat.le_refl _) (.cells #[.int .u8 x.kind, .int .u8 x.op, .string x.dst, .string x.name, .slice ra x.args.length rc, .int .i64 x.line, .int .i64 x.col] 44)
      have HX := Lib.hid (heap_alloc_new w1 (.cells #[.int .u8 x.kind, .int .u8 x.op, .string x.dst, .string x.name, .slice ra x.args.length rc, .int .i64 x.line, .int .i64 x.col] 44))
      have HS1 := Lib.hid (HS.out.later hal)
      clear hal hx hT hri
      go_upto_region 3 with fail
      clear q0 q1 q2 q3 q4 q5 q6
      generalize w1.alloc (.cells #[.int .u8 x.kind, .int .u8 x.op, .string x.dst, .string x.name, .slice ra x.args.length rc, .int .i64 x.line, .int .i64 x.col] 44) = W at *
      generalize w1.heap.size = xb at *
      have p0 := row_of HX.out 0 _ rfl
      have p3 := row_of HX.out 3 _ rfl
      have pm := row_of HS1.out.cm 0 _ rfl
      have hz : (zeroValue 4).run Tryz.prog W = .ok (.bool false) W := by kernel_rfl
      have hlk := SetIs.lookup (P := Tryz.prog) (t := 98) Tryz.underlying9 Tryz.underlying98 hz HS1.out.st x.name hnz
      by_cases hk : x.kind = 7
      · have hk1 : (x.kind == 7) = true := by simp [hk]
        obtain ⟨bi, hbi⟩ : ∃ b, inL x.name T = b := ⟨_, rfl⟩
        rw [hbi] at hlk
        have HBI := Lib.hid hbi
        clear hbi hk hz
        cases bi
        · obtain ⟨w2, e2, hset, hgr, hsz2⟩ := SetIs.store (P := Tryz.prog) (t := 98) Tryz.underlying9 Tryz.underlying98 HS1.out.st x.name hnz
          have HS2 := Lib.hid (HS1.out.mark hset hgr)
          have hxm := not_set HX.out HS1.out.st
          have HX2 := Lib.hid ((hgr.block xb (Array.getElem?_eq_some_iff.1 HX.out).1 (fun e => hxm (by simpa using e))).trans HX.out)
          have HPT : Hid (putL x.name T = T ++ [x.name]) := by show _ = _; unfold putL; rw [HBI.out, if_neg (by simp)]
          rw [HPT.out] at HS2
          obtain ⟨ov, ho1, ho2⟩ := HS2.out.co
          obtain ⟨oa, oc, rfl, -⟩ := own_read ho2
          have HO1 := Lib.hid ho1
          have HO2 := Lib.hid ho2
          have u3 := row_of HX2.out 3 _ rfl
          have us := row_of ho1 0 _ rfl
          have hal := (Below.refl w2.heap.size w2).alloc (Nat.le_refl _) (.cells (strCells x.name).toArray 9)
          have HS3 := Lib.hid (HS2.out.later hal)
          have HO3 := Lib.hid (own_below ho2 hal)
          have HO4 := Lib.hid ((hal.block gs (Array.getElem?_eq_some_iff.1 ho1).1).trans ho1)
          have hw02 : w0.heap.size ≤ (w2.alloc (.cells (strCells x.name).toArray 9)).heap.size := HS3.out.below.size
          clear hset hgr hsz2 hxm ho1 ho2 hal
          go_wp2_with (at_builtin; refine wpList_append_own _ rfl (.tmp 25) (.tmp 28) 23 rfl w0.heap.size 9 iS (.string ⟨#[]⟩) 1 16 Tryz.underlying23 hiS hzS0 hzS1 hzS2 rfl (by decide) _ _ _ rfl HO3.out ⟨w2.heap.size, 0, none⟩ 1 1 (strCells x.name) rfl rfl (many_new _ _ _) ?pa1 ?pb1 ?pc1 ?pd1 ?_)
          case pa1 => intro u hu; simp [strCells] at hu; subst hu; rfl
          case pb1 => unfold maxLen; omega
          case pc1 => omega
          case pd1 => exact hw02
          · intro v' w4 hown' hgrow _
            obtain ⟨xa, xc, rfl, _⟩ := own_read hown'
            have hg4 := (Trn.of_grown (S := fun b => (Value.slice oa T.length oc).ownBlock = some b) hgrow (fun b e => e)).heap HO4.out (not_ownY HO3.out HO4.out (by decide))
            have HS5 := Lib.hid (HS3.out.grow HO4.out HO3.out hgrow hown')
            have c0 := row_of hg4 0 _ rfl
            have f0 := frozen_of_row w4 gs 0 _ _ hg4
            clear hown' hgrow hg4 u3 us p0 p3 pm hlk
            go_wp2_with fail
            clear c0 f0
            go_roundw
            case rel => exact ⟨i + 1, by omega, by go_num, by rw [HST.out, hk1, if_pos rfl, HPT.out]; exact HS5.out⟩
            case measure => simp [intOf]; omega
        · have HPT : Hid (putL x.name T = T) := by show _ = _; unfold putL; rw [HBI.out, if_pos rfl]
          go_wp2_with fail
          go_roundw
          case rel => exact ⟨i + 1, by omega, by go_num, by rw [HST.out, hk1, if_pos rfl, HPT.out]; exact HS1.out⟩
          case measure => simp [intOf]; omega
      · have hk1 : (x.kind == 7) = false := by simp [hk]
        clear hk hz
        go_wp2_with fail
        go_roundw
        case rel => exact ⟨i + 1, by omega, by go_num, by rw [HST.out, hk1]; simpa using HS1.out⟩
        case measure => simp [intOf]; omega
    · obtain rfl : i = l.length := by omega
      have hlt1 : ¬ ((l.length : Nat) : Int) < (l.length : Int) := by omega
      rw [List.take_length] at HS
      go_wp2_with fail
      go_end0
      exact ⟨rfl, HS.out⟩
theorem funs_take {l : List FuncD} {j : Nat} {f : FuncD} (h : l[j]? = some f) : (l.take (j + 1)).flatMap (·.code) = (l.take j).flatMap (·.code) ++ f.code := by
  rw [List.take_add_one, h]
  simp
theorem flat_le (l : List FuncD) (j : Nat) : ((l.take j).flatMap (·.code)).length ≤ (l.flatMap (·.code)).length := by
  have h : (l.take j).flatMap (·.code) ++ (l.drop j).flatMap (·.code) = l.flatMap (·.code) := by rw [← List.flatMap_append, List.take_append_drop]
  rw [← h, List.length_append]
  omega
set_option maxRecDepth 100000 in
set_option maxHeartbeats 3200000 in
/-- **sites** returns the names of the sites, in a row of its own. -/
theorem sites_any (p : ProgD) (cv av fv mv : Value) (w : World) (h : RdProg none w p cv av fv mv) (hl : (allCode p).length ≤ 100000000) :
    Calls Tryz.prog 23 #[progV p cv av fv mv] w fun e w' => ∃ v, e = .returned v ∧ w'.ownsRow w.heap.size 9 1 v (sitesAll p).length ((sitesAll p).flatMap strCells) ∧ Below w.heap.size w w' := by
  obtain ⟨hrc, hra, hrf, hrm, hrw⟩ := id h
  obtain ⟨ac, kc, rfl, -, -⟩ := id hrc
  obtain ⟨aa, ka, rfl, -, -⟩ := id hra
  obtain ⟨af, kf, rfl, hfb, -⟩ := id hrf
  have hfl : p.funcs.length ≤ 1759218604390 := by have := hfb.1; omega
  obtain ⟨am, km, rfl, -, -⟩ := id hrm
  have hal := (Below.refl w.heap.size w).alloc (Nat.le_refl _) (.cells #[.int .i64 p.width, .slice ac p.chans.length kc, .slice aa p.arrays.length ka, .slice af p.funcs.length kf, .slice am p.main.length km] 28)
  have HBX := Lib.hid (heap_alloc_new w (.cells #[.int .i64 p.width, .slice ac p.chans.length kc, .slice aa p.arrays.length ka, .slice af p.funcs.length kf, .slice am p.main.length km] 28))
  have HF := Lib.hid (hrf.keep hal)
  have HM := Lib.hid (hrm.keep hal)
  have HB0 := Lib.hid hal
  have hs0 : (w.alloc (.cells #[.int .i64 p.width, .slice ac p.chans.length kc, .slice aa p.arrays.length ka, .slice af p.funcs.length kf, .slice am p.main.length km] 28)).heap.size = w.heap.size + 1 := by simp
  have HLN := Lib.hid hl
  have hll : (allCode p).length = (p.funcs.flatMap (·.code)).length + p.main.length := by unfold allCode; rw [List.length_append]
  have HLL := Lib.hid hll
  have hmf : ∀ (fn : Fn) (first cap : Array Value) (z : World), (Instr.makeFunc fn first cap).run Tryz.prog z = .ok (.func fn first cap) z := fun _ _ _ _ => rfl
  have hmm := @run_makeMap Tryz.prog
  clear hfb h hrc hra hrf hrm hrw hal hl hll
  go_enter Tryz.func23, Tryz.ntmps23
  go_upto_region 1 with fail
  generalize w.alloc (.cells #[.int .i64 p.width, .slice ac p.chans.length kc, .slice aa p.arrays.length ka, .slice af p.funcs.length kf, .slice am p.main.length km] 28) = w0 at *
  obtain ⟨pb, hpb⟩ : ∃ x, w.heap.size = x := ⟨_, rfl⟩
  rw [hpb] at HBX hs0
  try rw [hpb]
  have HPB := Lib.hid hpb
  have HS0 := Lib.hid hs0
  clear hpb hs0
  go_upto_region 4 with fail
  have k1 := (Below.refl w0.heap.size w0).alloc (Nat.le_refl _) (.cells #[.slice none 0 0] 23)
  have e1 : (w0.alloc (.cells #[.slice none 0 0] 23)).heap.size = w0.heap.size + 1 := by simp
  have k2 := (Below.refl _ (w0.alloc (.cells #[.slice none 0 0] 23))).alloc (Nat.le_refl _) (.map #[] 0)
  have e2 : ((w0.alloc (.cells #[.slice none 0 0] 23)).alloc (.map #[] 0)).heap.size = w0.heap.size + 1 + 1 := by simp
  have k3 := (Below.refl _ ((w0.alloc (.cells #[.slice none 0 0] 23)).alloc (.map #[] 0))).alloc (Nat.le_refl _) (.cells #[.map (some (w0.heap.size + 1))] 98)
  have m1 := heap_alloc_new w0 (.cells #[.slice none 0 0] 23)
  have m2 := SetIs.made (w0.alloc (.cells #[.slice none 0 0] 23))
  rw [e1] at m2
  have m3 := heap_alloc_new ((w0.alloc (.cells #[.slice none 0 0] 23)).alloc (.map #[] 0)) (.cells #[.map (some (w0.heap.size + 1))] 98)
  rw [e2] at m3
  have HS : Hid (SY w0 (((w0.alloc (.cells #[.slice none 0 0] 23)).alloc (.map #[] 0)).alloc (.cells #[.map (some (w0.heap.size + 1))] 98)) w0.heap.size (w0.heap.size + 1 + 1) w0.heap.size (w0.heap.size + 1) [] []) :=
    ⟨m3, ⟨_, ((bcomp k2 k3).block w0.heap.size (by omega)).trans m1, World.ownsRow_nil _ _ _ _⟩, m2.keep k3, by omega, bcomp (bcomp k1 k2) k3, Nat.le_refl _, by omega, Nat.le_refl _⟩
  clear k1 k2 k3 m1 m2 m3 e1 e2 hmm hmf
  generalize ((w0.alloc (.cells #[.slice none 0 0] 23)).alloc (.map #[] 0)).alloc (.cells #[.map (some (w0.heap.size + 1))] 98) = w1 at *
  obtain ⟨gm, hgm⟩ : ∃ x, w0.heap.size + 1 + 1 = x := ⟨_, rfl⟩
  obtain ⟨mb, hmb⟩ : ∃ x, w0.heap.size + 1 = x := ⟨_, rfl⟩
  obtain ⟨gs, hgs⟩ : ∃ x, w0.heap.size = x := ⟨_, rfl⟩
  have HS' : Hid (SY w0 w1 w0.heap.size gm gs mb [] []) := by show SY _ _ _ _ _ _ _ _; rw [← hgm, ← hmb, ← hgs]; exact HS.out
  rw [hgm]
  try rw [hmb]
  try rw [hgs]
  have hpw : pb < w0.heap.size := by have := HS0.out; omega
  clear HS hgm hmb hgs
  have hbx1 := (HS'.out.below.block pb hpw).trans HBX.out
  have b3 := row_of hbx1 3 _ rfl
  clear hbx1
  go_upto_region 5 with fail
  clear b3
  go_loopw [7, 13] (fun _ v wr => ∃ j : Nat, j ≤ p.funcs.length ∧ v = .int .i64 j ∧ SY w0 wr w0.heap.size gm gs mb (sitesOf [] ((p.funcs.take j).flatMap (·.code))) (sitesOf [] ((p.funcs.take j).flatMap (·.code)))) (fun _ v _ => p.funcs.length - (intOf v).toNat)
  case atStart => exact ⟨0, Nat.zero_le _, rfl, HS'.out⟩
  case round =>
    obtain ⟨j, hj, rfl, hs⟩ := hrel
    obtain ⟨w2, rfl⟩ : ∃ x : World, x = wr := ⟨_, rfl⟩
    have HS := Lib.hid hs
    clear hs
    by_cases hlt : j < p.funcs.length
    · have hlt1 : (j : Int) < (p.funcs.length : Int) := by omega
      have HJL : Hid (j + 1 ≤ p.funcs.length) := hlt
      obtain ⟨f, hf⟩ : ∃ f, p.funcs[j]? = some f := ⟨_, List.getElem?_eq_getElem hlt⟩
      obtain ⟨_, _, he, -, hr⟩ := HF.out.keep HS.out.below
      simp only [Value.slice.injEq, true_and] at he
      obtain ⟨rfl, rfl⟩ := he
      obtain ⟨b, o, pv, cv2, rfl, -, q0, q1, q2, q3, q4, hfun⟩ := hr j f hf
      obtain ⟨pa, pc, rfl, -, -⟩ := id hfun.1
      obtain ⟨ca, cc, rfl, -, -⟩ := id hfun.2.1
      have HFC : Hid (RdInstrs none w0 (.slice ca f.code.length cc) f.code) := by
        obtain ⟨_, _, he', -, hr'⟩ := HF.out
        simp only [Value.slice.injEq, true_and] at he'
        obtain ⟨rfl, rfl⟩ := he'
        obtain ⟨b', o', pv', cv', he2, -, -, -, p2, -, -, hfun'⟩ := hr' j f hf
        simp only [Option.some.injEq, Addr.mk.injEq, and_true] at he2
        obtain ⟨rfl, rfl⟩ := he2
        have h2 := (HS.out.below.cell (block_lt_of_cell p2)).trans p2
        rw [q2] at h2
        rw [Option.some.inj h2]
        exact hfun'.2.1
      obtain ⟨T, hT⟩ : ∃ T, sitesOf [] ((p.funcs.take j).flatMap (·.code)) = T := ⟨_, rfl⟩
      rw [hT] at HS
      have HST : Hid (sitesOf [] ((p.funcs.take (j + 1)).flatMap (·.code)) = sitesOf T f.code) := by show _ = _; rw [funs_take hf, sitesOf_append, hT]
      have hTl : T.length + f.code.length ≤ 100000000 := by
        rw [← hT]
        have h1 := sitesY_len [] ((p.funcs.take j).flatMap (·.code))
        have h2 := flat_le p.funcs (j + 1)
        rw [funs_take hf, List.length_append] at h2
        have h3 := HLN.out
        have h4 := HLL.out
        simp only [List.length_nil] at h1
        omega
      have hal := (Below.refl w2.heap.size w2).alloc (Nat.le_refl _) (.cells #[.string f.name, .slice pa f.params.length pc, .slice ca f.code.length cc, .int .i64 f.line, .int .i64 f.col] 56)
      have HX := Lib.hid (heap_alloc_new w2 (.cells #[.string f.name, .slice pa f.params.length pc, .slice ca f.code.length cc, .int .i64 f.line, .int .i64 f.col] 56))
      have HC := Lib.hid (sites1_any (.slice ca f.code.length cc) f.code w0 _ gm gs mb T (HS.out.later hal) HFC.out hTl)
      clear hal hf hr hfun hT
      go_wp2_with (go_at_call 43; refine HC.out.mono ?_; rintro e z ⟨rfl, hz⟩)
      go_roundw
      case rel => exact ⟨j + 1, HJL.out, by go_num, by rw [HST.out]; exact hz⟩
      case measure => have hjl := HJL.out; simp [intOf]; omega
    · have hlt1 : ¬ (j : Int) < (p.funcs.length : Int) := by omega
      have hje : p.funcs.take j = p.funcs := List.take_of_length_le (by omega)
      rw [hje] at HS
      have hTl : (sitesOf [] (p.funcs.flatMap (·.code))).length + p.main.length ≤ 100000000 := by
        have h1 := sitesY_len [] (p.funcs.flatMap (·.code))
        have h3 := HLN.out
        have h4 := HLL.out
        simp only [List.length_nil] at h1
        omega
      have HC := Lib.hid (sites1_any (.slice am p.main.length km) p.main w0 w2 gm gs mb _ HS.out HM.out hTl)
      have HALL : Hid (sitesAll p = sitesOf (sitesOf [] (p.funcs.flatMap (·.code))) p.main) := by show _ = _; unfold sitesAll allCode; rw [sitesOf_append]
      have hbx1 := (HS.out.below.block pb hpw).trans HBX.out
      have b4 := row_of hbx1 4 _ rfl
      clear hje hbx1
      go_wp2_with (go_at_call 43; refine HC.out.mono ?_; rintro e z ⟨rfl, hz⟩; obtain ⟨ov, ho1, ho2⟩ := hz.co; have u0 := row_of ho1 0 _ rfl; have HZ := Lib.hid hz; have HO := Lib.hid ho2; clear hz ho1 ho2)
      go_ret
      refine ⟨_, rfl, ?_, HB0.out.trans (HZ.out.below.mono HB0.out.size)⟩
      rw [HALL.out]
      have hge : w.heap.size ≤ w0.heap.size := HB0.out.size
      obtain ⟨hl2, h | ⟨g, cap, cur, rfl, hg2, hc2, hr2⟩⟩ := HO.out
      · exact ⟨hl2, .inl h⟩
      · exact ⟨hl2, .inr ⟨g, cap, cur, rfl, Nat.le_trans hge hg2, hc2, hr2⟩⟩
open Go.ChangeShapes Go.WideShapes Go.ChangeAt Go.RowKit
/-- In a loop that makes one row of the policy: w6 is the world in which it began. -/
structure QL (w6 : World) (qb sb : Nat) (w : World) (cells : Array Value) (T : TypeId) (k : Nat) (v : Value) (n : Nat) (rows : List Value) (l : List UInt8) : Prop where
  box : w.heap[qb]? = some (.cells cells 34 (0, 0))
  src : SrcAt w sb l
  own : w.ownsRow w6.heap.size T k v n rows
  tr : Trn (fun x => x = qb ∨ x = sb) w6 w
  hq : qb < w6.heap.size
  hs : sb < w6.heap.size
  hne : qb ≠ sb
section
variable {w6 w w' : World} {qb sb : Nat} {cells : Array Value} {T : TypeId} {k : Nat} {v : Value} {n : Nat} {rows : List Value} {l l' : List UInt8}
theorem QL.start (hb : w.heap[qb]? = some (.cells cells 34 (0, 0))) (hs : SrcAt w sb l) (hne : qb ≠ sb) (T : TypeId) (k : Nat) : QL w qb sb w cells T k (.slice none 0 0) 0 [] l :=
  ⟨hb, hs, World.ownsRow_nil _ _ _ _, Trn.refl _ _, (Array.getElem?_eq_some_iff.1 hb).1, hs.lt, hne⟩
theorem QL.later (h : QL w6 qb sb w cells T k v n rows l) (b : Below w.heap.size w w') : QL w6 qb sb w' cells T k v n rows l :=
  ⟨(b.block qb (Array.getElem?_eq_some_iff.1 h.box).1).trans h.box, (b.block sb h.src.lt).trans h.src, own_below h.own b, h.tr.trans (Trn.of_below b), h.hq, h.hs, h.hne⟩
theorem QL.bytes (h : QL w6 qb sb w cells T k v n rows l) (t : Trn (fun x => x = sb) w w') (hs : SrcAt w' sb l') : QL w6 qb sb w' cells T k v n rows l' := by
  have h1 := h.hs
  exact ⟨t.heap h.box h.hne, hs, own_trn h.own t (fun b hb e => by have := own_ge h.own hb; have e' : b = sb := e; omega), h.tr.trans (t.mono fun i e => .inr e), h.hq, h.hs, h.hne⟩
/-- The row grows, and is put into the block. -/
theorem QL.grow {v' : Value} {more : List Value} {i : Nat} (h : QL w6 qb sb w cells T k v n rows l) (hg : w.grownBy w' v.ownBlock) (ho : w'.ownsRow w6.heap.size T k v' (n + 1) (rows ++ more)) :
    QL w6 qb sb (w'.setCell ⟨qb, i, none⟩ v') (cells.setIfInBounds i v') T k v' (n + 1) (rows ++ more) l := by
  have h1 := h.hq
  have h2 := h.hs
  have t := Trn.of_grown (S := fun b => v.ownBlock = some b) hg (fun b e => e)
  have hsc := setCell_trn w' ⟨qb, i, none⟩ v'
  have hbx := t.heap h.box (fun e => by have := own_ge h.own e; omega)
  have hsr : SrcAt w' sb l := t.heap h.src (fun e => by have := own_ge h.own e; omega)
  have hb1 := heap_setCell_same w' qb i _ _ v' hbx
  exact ⟨by simpa using hb1, hsc.heap hsr (fun e => h.hne (show sb = qb from e).symm), own_trn ho hsc (fun b hb e => by have := own_ge ho hb; have e' : b = qb := e; omega), (h.tr.step t (fun j hj e => by have := own_ge h.own e; omega)).step hsc (fun j hj e => .inl e), h.hq, h.hs, h.hne⟩
/-- A cell of the block is written. -/
theorem QL.put {u : Value} {i : Nat} (h : QL w6 qb sb w cells T k v n rows l) : QL w6 qb sb (w.setCell ⟨qb, i, none⟩ u) (cells.setIfInBounds i u) T k v n rows l := by
  have h1 := h.hq
  have hsc := setCell_trn w ⟨qb, i, none⟩ u
  have hb1 := heap_setCell_same w qb i _ _ u h.box
  exact ⟨by simpa using hb1, hsc.heap h.src (fun e => h.hne (show sb = qb from e).symm), own_trn h.own hsc (fun b hb e => by have := own_ge h.own hb; have e' : b = qb := e; omega), h.tr.step hsc (fun j hj e => .inl e), h.hq, h.hs, h.hne⟩
end
theorem rdZ_row {α : Type} {f : α → List Value} {k : Nat} (hf : ∀ x, (f x).length = k) {w : World} {g : Nat} {T : TypeId} {l : List α} (h : w.heap[g]? = some (.cells (l.flatMap f).toArray T (0, 0))) (hl : l.length ≤ 1000000000) : RdZ f k w (.slice (some ⟨g, 0, none⟩) l.length l.length) l := by
  refine ⟨_, _, rfl, ⟨hl, Nat.le_refl _⟩, fun i x hi => ⟨g, 0, rfl, fun j u hj => ?_⟩⟩
  have hjk : j < k := by have := (List.getElem?_eq_some_iff.1 hj).1; rw [hf] at this; exact this
  have e := flat_get f k hf l i j x hi hjk
  rw [Nat.zero_add]
  exact row_of h (i * k + j) u (by simpa using e.trans hj)
theorem infoBindZ : (Tryz.prog.info? 76).map (fun i => (i.zero, i.size, i.bytes)) = some (some (.agg #[.string ⟨#[]⟩, .int .i64 0]), 2, 24) := by kernel_rfl
/-- A slice's block lies behind b. -/
def OffZ (b : Nat) (v : Value) : Prop := ∀ a n c, v = .slice (some a) n c → b < a.block
/-- A slice that reads as a list, in a block behind b. -/
def SetZ {α : Type} (f : α → List Value) (k b : Nat) (w : World) (v : Value) (l : List α) : Prop := RdZ f k w v l ∧ OffZ b v
theorem SetZ.trn {α : Type} {f : α → List Value} {k b : Nat} {S : Nat → Prop} {w w' : World} {v : Value} {l : List α} (h : SetZ f k b w v l) (t : Trn S w w') (hs : ∀ i, S i → i ≤ b) : SetZ f k b w' v l := by
  obtain ⟨⟨a, c, rfl, hl, hr⟩, ho⟩ := h
  refine ⟨⟨a, c, rfl, hl, fun i x hi => ?_⟩, ho⟩
  obtain ⟨g, o, rfl, hc⟩ := hr i x hi
  have hg : b < g := ho _ _ _ rfl
  refine ⟨g, o, rfl, fun j u hj => ?_⟩
  have h1 := hc j u hj
  have h2 := t.block g (block_lt_of_cell h1) (fun e => by have := hs _ e; omega)
  simpa [World.cell?, h2] using h1
theorem SetZ.own {α : Type} {f : α → List Value} {k : Nat} {e : TypeId} {w : World} {base b : Nat} {v : Value} {l : List α} (hf : ∀ x, (f x).length = k) (h : w.ownsRow base e k v l.length (l.flatMap f)) (hl : l.length ≤ 1000000000) (hk : 0 < k) (hb : b < base) : SetZ f k b w v l := by
  refine ⟨RdZ.own hf h hl hk, fun a n c hv => ?_⟩
  obtain ⟨-, h | ⟨g, cap, cur, rfl, hg, -⟩⟩ := h
  · obtain ⟨rfl, -⟩ := h
    cases hv
  · cases hv
    exact Nat.lt_of_lt_of_le hb hg
theorem SetZ.strs {b : Nat} {w : World} {v : Value} {l : List ByteArray} (h : SetZ strCells 1 b w v l) (hs : ∀ s ∈ l, s.size ≤ maxLen) : RdStrs none w v l := by
  obtain ⟨⟨a, c, rfl, ⟨hl, hc⟩, hr⟩, -⟩ := h
  refine ⟨a, c, rfl, ⟨by omega, hc⟩, fun i s hi => ?_⟩
  obtain ⟨g, o, rfl, hq⟩ := hr i s hi
  exact ⟨g, o, rfl, Free.none _ _ _, by simpa using hq 0 _ rfl, hs s (List.mem_of_getElem? hi)⟩
theorem two_step {α : Type} {l : List α} {i : Nat} {x : α} (h : l[i]? = some x) : l.take (i + 1) = l.take i ++ [x] := by rw [List.take_add_one, h]; rfl
end Go.Proofs.YtfdinncgncbmfaaGreatDoor
