/- The walk of ProgRenames. Conditions: the program reads as one; the number is an int; the tables are as laid. -/
import Derived.Test.YteeebofjlchndaaDoorRnM
import Derived.Test.YteeebofjlchndaaDoorAwa
import Derived.Test.YteeebofjlchndaaDoorFeP
import Derived.Deep.CutBlock
import Derived.Deep.CutRange
set_option linter.unusedVariables false
set_option linter.unusedSimpArgs false
set_option linter.unnecessarySimpa false
namespace Go.Proofs.YteeebofjlchndaaDoor
open Go.ChangeShapes Go.WideShapes Go.ChangeAt Go.RowKit
set_option maxRecDepth 100000 in
set_option maxHeartbeats 1600000 in
theorem has_any (v : Value) (l : List ByteArray) (s : ByteArray) (w : World) (h : RdStrs none w v l) :
    Calls Tryd.prog 9 #[v, .string s] w fun e w' => e = .returned (.bool (inL s l)) ∧ w = w' := by
  obtain ⟨a, c, rfl, hl, hr⟩ := h
  have HR := Lib.hid hr
  clear hr
  go_enter Tryd.func9, Tryd.ntmps9
  go_wp2
  go_loop [5] (fun i => ∃ k : Nat, k ≤ l.length ∧ i = .int .i64 k ∧ Hid (∀ (j : Nat) x, j < k → l[j]? = some x → (x.toList == s.toList) = false)) (fun i => l.length - (intOf i).toNat)
  case atStart => exact ⟨0, Nat.zero_le _, rfl, fun j x h => by omega⟩
  case round =>
    obtain ⟨k, hk, rfl, hq⟩ := hrel
    by_cases hlt : k < l.length
    · obtain ⟨x, hx⟩ : ∃ x, l[k]? = some x := ⟨_, List.getElem?_eq_getElem hlt⟩
      obtain ⟨b, o, rfl, _, c0, _⟩ := HR.out k x hx
      have HX := Lib.hid hx
      have hlt2 : (k : Int) < (l.length : Int) := by omega
      clear hx
      cases he : (x.toList == s.toList)
      · have HE := Lib.hid he
        go_wp2
        go_round
        case rel =>
          refine ⟨k + 1, by omega, by go_num, fun j y hj hy => ?_⟩
          rcases Nat.lt_or_ge j k with h | h
          · exact hq.out j y h hy
          · obtain rfl : j = k := by omega
            rw [HX.out] at hy; cases hy; exact HE.out
        case measure => simp [intOf]; omega
      · have HV := Lib.hid (inL_hit HX.out he)
        go_wp2
        go_ret
        exact ⟨by rw [HV.out]; rfl, rfl⟩
    · obtain rfl : k = l.length := by omega
      have HV := Lib.hid (inL_none (s := s) (l := l) (fun j x h => hq.out j x (List.getElem?_eq_some_iff.1 h).1 h))
      go_wp2
      go_ret
      exact ⟨by rw [HV.out]; rfl, rfl⟩
set_option maxRecDepth 100000 in
theorem mod_more (n m : Int) (hn : InI64 n) (hm : 1 ≤ m ∧ m ≤ 1000) (w : World) : Calls Tryd.prog 8 #[.int .i64 n, .int .i64 m] w fun e w' => ∃ r, e = .returned (.int .i64 r) ∧ 0 ≤ r ∧ r < m ∧ Below w.heap.size w w' := by
  obtain ⟨hm1, hm2⟩ := hm
  unfold InI64 at hn
  have h1 : ¬ m < 1 := by omega
  have h0 : ¬ m = 0 := by omega
  have hb1 : -m < n.tmod m := by
    have := Int.tmod_lt_of_pos (-n) (show 0 < m by omega)
    rw [Int.neg_tmod] at this
    omega
  have hb2 : n.tmod m < m := Int.tmod_lt_of_pos n (by omega)
  go_enter Tryd.func8, Tryd.ntmps8
  go_wp2_with fail
  go_ret
  exact ⟨_, rfl, Int.emod_nonneg _ h0, Int.emod_lt_of_pos _ (by omega), Below.refl _ _⟩
theorem few_main_len (p : ProgD) : (fewP p).main.length ≤ 30 := by
  show (fewL p.main).length ≤ 30
  unfold fewL
  simp
  omega
/-- While main is renamed in place. -/
structure RN (o F : ByteArray) (main : List InstrD) (m zs qb : Nat) (QC : Obj) (W3 wr : World) (mv : Value) (M : List InstrD) (i : Nat) : Prop where
  rd : RdInstrs (some (within m zs)) wr mv M
  eq : M.map (renI o F) = main.map (renI o F)
  done : ∀ (t : Nat) (x : InstrD), t < i → M[t]? = some x → CleanI o x x.args.length
  box : wr.heap[qb]? = some QC
  below : Below m W3 wr
theorem RN.len {o F : ByteArray} {main : List InstrD} {m zs qb : Nat} {QC : Obj} {W3 wr : World} {mv : Value} {M : List InstrD} {i : Nat} (h : RN o F main m zs qb QC W3 wr mv M i) : M.length = main.length := by
  have := congrArg List.length h.eq
  simpa using this
theorem RN.keep {o F : ByteArray} {main : List InstrD} {m zs qb : Nat} {QC : Obj} {W3 wr w' : World} {mv : Value} {M : List InstrD} {i : Nat} (h : RN o F main m zs qb QC W3 wr mv M i) (hb : Below wr.heap.size wr w') (hm : m ≤ wr.heap.size) : RN o F main m zs qb QC W3 w' mv M i :=
  ⟨h.rd.keep hb, h.eq, h.done, (hb.block qb (Array.getElem?_eq_some_iff.1 h.box).1).trans h.box, h.below.trans (hb.mono hm)⟩
theorem RN.dst {o F : ByteArray} {main : List InstrD} {m zs qb mb mo n c : Nat} {QC : Obj} {W3 wr : World} {M : List InstrD} {i : Nat} {x : InstrD} (hFo : ¬ F = o) (hF : F.size ≤ maxLen) (hq : zs ≤ qb) (h : RN o F main m zs qb QC W3 wr (.slice (some ⟨mb, mo, none⟩) n c) M i) (hx : M[i]? = some x) (hd : x.dst = o) :
    RN o F main m zs qb QC W3 (putS wr mb (mo + i * 7 + 2) (.string F)) (.slice (some ⟨mb, mo, none⟩) n c) (M.set i { x with dst := F }) i := by
  have hg : within m zs mb := by
    obtain ⟨_, _, e, -, hr⟩ := h.rd
    simp only [Value.slice.injEq] at e
    obtain ⟨rfl, -, -⟩ := e
    obtain ⟨b', o', av, e2, hf, -⟩ := hr i x hx
    simp only [Option.some.injEq, Addr.mk.injEq, and_true] at e2
    obtain ⟨rfl, rfl⟩ := e2
    exact (hf _ rfl).1
  refine ⟨h.rd.putDst hx hF, (dst_ren hFo hx hd).trans h.eq, fun t y ht hy => ?_, (heap_setCell_other _ _ _ _ (by have := hg.2; show ¬ qb = mb; omega)).trans h.box, h.below.setCell hg.1 _⟩
  rw [List.getElem?_set, if_neg (by omega)] at hy
  exact h.done t y ht hy
theorem RN.arg {o F : ByteArray} {main : List InstrD} {m zs qb mb mo n c b y : Nat} {QC : Obj} {W3 wr : World} {M : List InstrD} {i j : Nat} {x : InstrD} {cs : Array Value} {oo n2 c2 : Nat} (hFo : ¬ F = o) (hF : F.size ≤ maxLen) (hq : zs ≤ qb) (h : RN o F main m zs qb QC W3 wr (.slice (some ⟨mb, mo, none⟩) n c) M i) (hx : M[i]? = some x)
    (hcl : CleanI o x j) (hb : wr.heap[b]? = some (.cells cs 43 (0, 0))) (hg : within m zs b) (hc : wr.cell? ⟨b, y, none⟩ = some (.string o)) (hcell : wr.cell? ⟨mb, mo + i * 7 + 4, none⟩ = some (.slice (some ⟨b, oo, none⟩) n2 c2)) (hy : oo + j * 2 = y) :
    ∃ M' x', RN o F main m zs qb QC W3 (putS wr b y (.string F)) (.slice (some ⟨mb, mo, none⟩) n c) M' i ∧ M'[i]? = some x' ∧ x'.args.length = x.args.length ∧ CleanI o x' (j + 1) := by
  obtain ⟨M', hM, hl, ht⟩ := RdInstrs.putArg h.rd hb hc hF
  have hi : i < M.length := (List.getElem?_eq_some_iff.1 hx).1
  obtain ⟨x', hx'⟩ : ∃ x', M'[i]? = some x' := ⟨_, List.getElem?_eq_getElem (by omega)⟩
  have h0 := ht i x x' hx hx'
  refine ⟨M', x', ⟨hM, ?_, fun t z' hti hz' => ?_, (heap_setCell_other _ _ _ _ (by have := hg.2; show ¬ qb = b; omega)).trans h.box, h.below.setCell hg.1 _⟩, hx', h0.1.2.2.2.2.2.2.1, ?_⟩
  · rw [← h.eq]
    apply List.ext_getElem?
    intro t
    rw [List.getElem?_map, List.getElem?_map]
    cases hz : M[t]? with
    | none =>
      have : M'[t]? = none := by rw [List.getElem?_eq_none_iff] at hz ⊢; omega
      rw [this]
    | some z =>
      have htl := (List.getElem?_eq_some_iff.1 hz).1
      obtain ⟨z', hz'⟩ : ∃ z', M'[t]? = some z' := ⟨_, List.getElem?_eq_getElem (by omega)⟩
      rw [hz', Option.map_some, Option.map_some, turnI_ren hFo (ht t z z' hz hz').1]
  · have htl : t < M.length := by rw [← hl]; exact (List.getElem?_eq_some_iff.1 hz').1
    obtain ⟨z, hz⟩ : ∃ z, M[t]? = some z := ⟨_, List.getElem?_eq_getElem htl⟩
    have h1 := ht t z z' hz hz'
    rw [h1.1.2.2.2.2.2.2.1]
    exact (h.done t z hti hz).turn hFo h1.1
  · have h1 := hcl.turn hFo h0.1
    refine ⟨h1.1, fun u a hu ha => ?_⟩
    rcases Nat.lt_or_ge u j with hlt | hge
    · exact h1.2 u a hlt ha
    · obtain rfl : u = j := by omega
      rw [h0.2 u a oo n2 c2 hcell hy ha]
      exact hFo
set_option maxRecDepth 100000 in
set_option maxHeartbeats 12800000 in
theorem renames_walk (p : ProgD) (cv av fv mv : Value) (k : Int) (w : World) (h : RdProg none w p cv av fv mv) (hk : InI64 k) (hL : Laid w) :
    Calls Tryd.prog 3 #[progV p cv av fv mv, .int .i64 k] w fun e w' => e = .returned (.bool true) ∧ Below w.heap.size w w' := by
  have AW : ∀ z, Laid z → Hid (Calls Tryd.prog 7 #[] z fun e w' => e = .returned (.bool true) ∧ Below z.heap.size z w') := fun z hz => awake_any z hz
  obtain ⟨xc, yc, rfl, -, -⟩ := id h.1
  obtain ⟨xa, ya, rfl, -, -⟩ := id h.2.1
  obtain ⟨xf, yf, rfl, -, -⟩ := id h.2.2.1
  obtain ⟨xm, ym, rfl, -, -⟩ := id h.2.2.2.1
  have H := Lib.hid h
  have HLD := Lib.hid hL
  have HKI := Lib.hid hk
  have hb0 := (Below.refl w.heap.size w).alloc (Nat.le_refl _) (.cells #[.int .i64 p.width, .slice xc p.chans.length yc, .slice xa p.arrays.length ya, .slice xf p.funcs.length yf, .slice xm p.main.length ym] 27)
  have hn0 := heap_alloc_new w (.cells #[.int .i64 p.width, .slice xc p.chans.length yc, .slice xa p.arrays.length ya, .slice xf p.funcs.length yf, .slice xm p.main.length ym] 27)
  have hs0 : (w.alloc (.cells #[.int .i64 p.width, .slice xc p.chans.length yc, .slice xa p.arrays.length ya, .slice xf p.funcs.length yf, .slice xm p.main.length ym] 27)).heap.size = w.heap.size + 1 := by simp
  have HB0 := Lib.hid hb0
  have HN0 := Lib.hid hn0
  clear h hk hL hb0 hn0
  go_enter Tryd.func3, Tryd.ntmps3
  go_upto_region 1 with fail
  generalize w.alloc (.cells #[.int .i64 p.width, .slice xc p.chans.length yc, .slice xa p.arrays.length ya, .slice xf p.funcs.length yf, .slice xm p.main.length ym] 27) = W0 at *
  obtain ⟨r, hr⟩ : ∃ r, w.heap.size = r := ⟨_, rfl⟩
  rw [hr] at HN0 hs0
  try rw [hr]
  have HRR := Lib.hid hr
  have HS0 := Lib.hid hs0
  clear hr hs0
  have HFW := Lib.hid (few_prog p _ _ _ _ W0 (H.out.keep HB0.out))
  have p0 := row_of HN0.out 0 _ rfl
  have p1 := row_of HN0.out 1 _ rfl
  have p2 := row_of HN0.out 2 _ rfl
  have p3 := row_of HN0.out 3 _ rfl
  have p4 := row_of HN0.out 4 _ rfl
  obtain ⟨P, hP⟩ : ∃ P, fewP p = P := ⟨_, rfl⟩
  rw [hP] at HFW
  have HPM : Hid (P.main.length ≤ 30) := by show _ ≤ _; rw [← hP]; exact few_main_len p
  clear hP
  go_upto_region 2 with (first | (go_at_call 5; refine HFW.out.mono ?_; rintro e z ⟨cv, av, fv, mv, rfl, hr, hz⟩; obtain ⟨ac, kc, rfl, -, -⟩ := id hr.1; obtain ⟨aa, ka, rfl, -, -⟩ := id hr.2.1; obtain ⟨af, kf, rfl, -, -⟩ := id hr.2.2.1; obtain ⟨am, km, rfl, -, -⟩ := id hr.2.2.2.1; have HRF := Lib.hid hr; have HBZ := Lib.hid hz; have HNZ := Lib.hid ((hz.block r (Array.getElem?_eq_some_iff.1 HN0.out).1).trans HN0.out); clear hr hz) | (refine wpList_store_row rfl 27 (.tmp 2) (.tmp 15) rfl r #[.int .i64 P.width, .slice ac P.chans.length kc, .slice aa P.arrays.length ka, .slice af P.funcs.length kf, .slice am P.main.length km] rfl rfl 27 #[.int .i64 p.width, .slice xc p.chans.length yc, .slice xa p.arrays.length ya, .slice xf p.funcs.length yf, .slice xm p.main.length ym] HNZ.out (by as_aux_lemma => kernel_rfl) (by as_aux_lemma => kernel_rfl) (by as_aux_lemma => kernel_rfl) ?_))
  clear p0 p1 p2 p3 p4 HFW
  have hbz := bcomp HB0.out HBZ.out
  have HB1 : Hid (Below w.heap.size w (z.setRow r #[.int .i64 P.width, .slice ac P.chans.length kc, .slice aa P.arrays.length ka, .slice af P.funcs.length kf, .slice am P.main.length km])) := below_row hbz (by have := HRR.out; omega) _
  have hoth : ∀ b, upFrom W0.heap.size b → (z.setRow r #[.int .i64 P.width, .slice ac P.chans.length kc, .slice aa P.arrays.length ka, .slice af P.funcs.length kf, .slice am P.main.length km]).heap[b]? = z.heap[b]? := fun b hb => setRow_other _ _ _ _ (by have h1 : W0.heap.size ≤ b := hb; have := HS0.out; omega)
  have HRP : Hid (RdProg none (z.setRow r #[.int .i64 P.width, .slice ac P.chans.length kc, .slice aa P.arrays.length ka, .slice af P.funcs.length kf, .slice am P.main.length km]) P (.slice ac P.chans.length kc) (.slice aa P.arrays.length ka) (.slice af P.funcs.length kf) (.slice am P.main.length km)) :=
    ⟨(RdStrs.same HRF.out.1 (fun b hb _ => hoth b hb) (fun _ _ h => h)).forget, (RdArrs.same HRF.out.2.1 (fun b hb _ => hoth b hb) (fun _ _ h => h)).forget, (RdFuncs.same HRF.out.2.2.1 (fun b hb _ => hoth b hb) (fun _ _ h => h)).forget, (RdInstrs.same HRF.out.2.2.2.1 (fun b hb _ => hoth b hb) (fun _ _ h => h)).forget, HRF.out.2.2.2.2⟩
  have HN1 : Hid ((z.setRow r #[.int .i64 P.width, .slice ac P.chans.length kc, .slice aa P.arrays.length ka, .slice af P.funcs.length kf, .slice am P.main.length km]).heap[r]? = some (.cells #[.int .i64 P.width, .slice ac P.chans.length kc, .slice aa P.arrays.length ka, .slice af P.funcs.length kf, .slice am P.main.length km] 27 (0, 0))) := setRow_heap _ _ _ _ _ _ HNZ.out
  clear hbz hoth HRF HBZ HNZ HB0 HN0 H
  generalize z.setRow r #[.int .i64 P.width, .slice ac P.chans.length kc, .slice aa P.arrays.length ka, .slice af P.funcs.length kf, .slice am P.main.length km] = W1 at *
  have HL1 := Lib.hid (HLD.out.keep HB1.out)
  have hlc := locals_any P _ _ _ _ (-1) W1 HRP.out HL1.out (by unfold InI64; omega)
  have p0 := row_of HN1.out 0 _ rfl
  have p1 := row_of HN1.out 1 _ rfl
  have p2 := row_of HN1.out 2 _ rfl
  have p3 := row_of HN1.out 3 _ rfl
  have p4 := row_of HN1.out 4 _ rfl
  have hlf0 : checkF P = none → localsF P (-1) = (localsL [] P.main [], 0) := fun hc => by
    unfold localsF
    rw [hc]
    simp only
    rw [if_neg (by omega)]
    rfl
  cases hc : checkF P with
  | some G =>
    have hlf : localsF P (-1) = ([], G.e) := by unfold localsF; rw [hc]
    rw [hlf] at hlc
    have HLOC := Lib.hid hlc
    have hG := (check_fault hc).1
    have hG0 : ¬ G.e = 0 := by omega
    clear hlc hlf hlf0 hc hG
    go_wp2_with (first | (go_at_call 6; refine HLOC.out.mono ?_; rintro e z2 ⟨lv, rfl, hrl, hz2⟩; obtain ⟨la, lcp, rfl, -, -⟩ := id hrl; have HRL := Lib.hid hrl; have HZ2 := Lib.hid hz2; clear hrl hz2) | (go_at_call 7; refine (AW _ (HL1.out.keep HZ2.out)).out.mono ?_; rintro e z3 ⟨rfl, hz3⟩))
    go_ret
    exact ⟨rfl, bcomp (bcomp HB1.out HZ2.out) hz3⟩
  | none =>
  have hlf := hlf0 hc
  rw [hlf] at hlc
  obtain ⟨L, hLL⟩ : ∃ L, localsL [] P.main [] = L := ⟨_, rfl⟩
  rw [hLL] at hlc
  have HLOC := Lib.hid hlc
  have hLlen : L.length ≤ 1000 := by
    have h1 := localsL_len [] P.main [] (check_none hc).1.2
    have h2 := HPM.out
    rw [hLL] at h1
    simp only [List.length_nil] at h1
    omega
  have HLNM : Hid (∀ t ∈ L, named t = true) := fun t ht => locals_named hc (by rw [hLL]; exact ht)
  have HLND : Hid L.Nodup := by show L.Nodup; rw [← hLL]; exact locals_nodup _
  have HDIF : Hid (∀ o ∈ L, ¬ freshN = o → eqProgN P (renP o freshN P) = false) := fun o ho hF => ren_differs hF (by rw [hLL]; exact ho)
  have HREN : Hid (∀ o ∈ L, freshN ∉ L → localsF (renP o freshN P) (-1) = (L.map (renS o freshN), 0)) := fun o ho hF => by
    have hno := locals_named hc (by rw [hLL]; exact ho)
    have h1 := ren_check hno fresh_named P
    rw [hc] at h1
    unfold localsF
    rw [h1]
    simp only
    rw [if_neg (by omega)]
    have h2 := ren_locals hno fresh_named P.main (by rw [hLL]; exact hF)
    rw [hLL] at h2
    exact congrArg (·, (0 : Int)) h2
  have HNEM : Hid (∀ o ∈ L, ∃ x, x ∈ P.main) := fun o ho => by
    obtain ⟨x, hx, -⟩ := locals_from (l := P.main) (by rw [hLL]; exact ho)
    exact ⟨x, hx⟩
  clear hlc hlf hlf0 hc hLL
  by_cases hne : L = []
  · subst hne
    go_wp2_with (first | (go_at_call 6; refine HLOC.out.mono ?_; rintro e z2 ⟨lv, rfl, hrl, hz2⟩; obtain ⟨la, lcp, rfl, -, -⟩ := id hrl; have HRL := Lib.hid hrl; have HZ2 := Lib.hid hz2; clear hrl hz2) | (go_at_call 7; refine (AW _ (HL1.out.keep HZ2.out)).out.mono ?_; rintro e z3 ⟨rfl, hz3⟩))
    go_ret
    exact ⟨rfl, bcomp (bcomp HB1.out HZ2.out) hz3⟩
  have hL1 : 1 ≤ L.length := by cases L with | nil => exact absurd rfl hne | cons a b => simp
  have hL0 : ¬ (L.length : Int) = 0 := by omega
  clear hne
  have HMOD := fun z : World => Lib.hid (mod_more k L.length HKI.out (by omega) z)
  go_upto_region 7 with (first | (go_at_call 6; refine HLOC.out.mono ?_; rintro e z2 ⟨lv, rfl, hrl, hz2⟩; obtain ⟨la, lcp, rfl, -, -⟩ := id hrl; have HRL := Lib.hid hrl; have HZ2 := Lib.hid hz2; clear hrl hz2) | (go_at_call 8; refine (HMOD _).out.mono ?_; rintro e z3 ⟨rr, rfl, hr0, hr1, hz3⟩; have HZ3 := Lib.hid hz3; clear hz3))
  clear p0 p1 p2 p3 p4 HLOC HMOD
  obtain ⟨rn, rfl⟩ : ∃ n : Nat, rr = n := ⟨rr.toNat, by omega⟩
  have hrn : rn < L.length := by omega
  have hrnI : (rn : Int) < (L.length : Int) := hr1
  clear hr0 hr1
  obtain ⟨o, ho⟩ : ∃ o, L[rn]? = some o := ⟨_, List.getElem?_eq_getElem hrn⟩
  have HO := Lib.hid ho
  have HOM : Hid (o ∈ L) := List.mem_of_getElem? ho
  obtain ⟨_, _, e0, -, hlr⟩ := id HRL.out
  simp only [Value.slice.injEq, true_and] at e0
  obtain ⟨rfl, rfl⟩ := e0
  obtain ⟨lb, lo, rfl, hfl, hlc0, hosz⟩ := hlr rn o ho
  have HFL := Lib.hid hfl
  have HLC0 := Lib.hid hlc0
  clear ho hlr hfl hlc0
  have HRL3 := Lib.hid (HRL.out.keep HZ3.out)
  have HHAS := Lib.hid (has_any _ L freshN z3 HRL3.out.forget)
  have HL3 := Lib.hid (HL1.out.keep (bcomp HZ2.out HZ3.out))
  have HB3 := Lib.hid (bcomp (bcomp HB1.out HZ2.out) HZ3.out)
  by_cases hF : inL freshN L = true
  · rw [hF] at HHAS
    clear hF
    go_wp2_with (first | (go_at_call 9; refine HHAS.out.mono ?_; rintro e z4 ⟨rfl, rfl⟩) | (go_at_call 7; refine (AW _ HL3.out).out.mono ?_; rintro e z5 ⟨rfl, hz5⟩))
    go_ret
    exact ⟨rfl, bcomp HB3.out hz5⟩
  have hF2 : inL freshN L = false := by simpa using hF
  rw [hF2] at HHAS
  have HFL2 : Hid (freshN ∉ L) := fun h => hF (inL_mem.2 h)
  have HFO : Hid (¬ freshN = o) := fun h => HFL2.out (by rw [h]; exact HOM.out)
  clear hF hF2
  have HN3 := Lib.hid (((bcomp HZ2.out HZ3.out).block r (Array.getElem?_eq_some_iff.1 HN1.out).1).trans HN1.out)
  have HRP3 := Lib.hid (HRP.out.keep (bcomp HZ2.out HZ3.out))
  have HCPY := Lib.hid (copyProg P _ _ _ _ z3 HRP3.out)
  have p0 := row_of HN3.out 0 _ rfl
  have p1 := row_of HN3.out 1 _ rfl
  have p2 := row_of HN3.out 2 _ rfl
  have p3 := row_of HN3.out 3 _ rfl
  have p4 := row_of HN3.out 4 _ rfl
  have hsz23 := HZ3.out.size
  have hlb2 : lb < z2.heap.size := block_lt_of_cell HLC0.out
  go_upto_region 10 with (first | (go_at_call 9; refine HHAS.out.mono ?_; rintro e z4 ⟨rfl, rfl⟩) | (go_at_call 10; refine HCPY.out.mono ?_; rintro e z5 ⟨cv', av', fv', mv', m, rfl, h1, h2, h3, h4, hm, hz5⟩; obtain ⟨bc, lc, rfl, -, -⟩ := id h1; obtain ⟨ba, la2, rfl, -, -⟩ := id h2; obtain ⟨bf, lf, rfl, -, -⟩ := id h3; obtain ⟨bm, lm, rfl, -, -⟩ := id h4; have HC1 := Lib.hid h1; have HC2 := Lib.hid h2; have HC3 := Lib.hid h3; have HC4 := Lib.hid h4; have HM := Lib.hid hm; have HZ5 := Lib.hid hz5; clear h1 h2 h3 h4 hm hz5))
  clear p0 p1 p2 p3 p4 HHAS HCPY
  have hal := (Below.refl z5.heap.size z5).alloc (Nat.le_refl _) (.cells #[.int .i64 P.width, .slice bc P.chans.length lc, .slice ba P.arrays.length la2, .slice bf P.funcs.length lf, .slice bm P.main.length lm] 27)
  have hnw := heap_alloc_new z5 (.cells #[.int .i64 P.width, .slice bc P.chans.length lc, .slice ba P.arrays.length la2, .slice bf P.funcs.length lf, .slice bm P.main.length lm] 27)
  obtain ⟨zs, hzs⟩ : ∃ x, z5.heap.size = x := ⟨_, rfl⟩
  have HD1' := Lib.hid (HC1.out.keep hal)
  have HD2' := Lib.hid (HC2.out.keep hal)
  have HD3' := Lib.hid (HC3.out.keep hal)
  have hin : RdInstrs (some (within m zs)) (z5.alloc (.cells #[.int .i64 P.width, .slice bc P.chans.length lc, .slice ba P.arrays.length la2, .slice bf P.funcs.length lf, .slice bm P.main.length lm] 27)) (.slice bm P.main.length lm) P.main := by rw [← hzs]; exact HC4.out.inside.keep hal
  have HIN := Lib.hid hin
  have HBW := Lib.hid (bcomp (bcomp HB3.out HZ5.out) hal)
  have HB35 := Lib.hid (bcomp HZ5.out hal)
  rw [hzs] at hnw
  try rw [hzs]
  have HQC := Lib.hid hnw
  have hszw : zs ≤ (z5.alloc (.cells #[.int .i64 P.width, .slice bc P.chans.length lc, .slice ba P.arrays.length la2, .slice bf P.funcs.length lf, .slice bm P.main.length lm] 27)).heap.size := by rw [← hzs]; exact hal.size
  have HMW0 : Hid (m ≤ zs) := by
    show m ≤ zs
    obtain ⟨x, hx⟩ := HNEM.out o HOM.out
    obtain ⟨t, ht⟩ := List.mem_iff_getElem?.1 hx
    obtain ⟨_, _, -, -, hr⟩ := HIN.out
    obtain ⟨b', o', av', -, hf', -⟩ := hr t x ht
    have := (hf' _ rfl).1
    exact Nat.le_of_lt (Nat.lt_of_le_of_lt this.1 this.2)
  have HZQ : Hid (zs = zs) := rfl
  clear hal hnw hin HC1 HC2 HC3 HC4
  generalize z5.alloc (.cells #[.int .i64 P.width, .slice bc P.chans.length lc, .slice ba P.arrays.length la2, .slice bf P.funcs.length lf, .slice bm P.main.length lm] 27) = W3 at *
  have hlm : lb < m := by have := HM.out; omega
  have HLC : Hid (∀ wr, Below m W3 wr → wr.cell? ⟨lb, lo + rn, none⟩ = some (.string o)) := fun wr hb => by
    have h1 := cell_keep HB35.out (cell_keep HZ3.out HLC0.out)
    exact (hb.cell hlm).trans h1
  obtain ⟨qb, hqb⟩ : ∃ x, zs = x := ⟨_, rfl⟩
  have HZQ2 := Lib.hid hqb
  have HQC2 : Hid (W3.heap[qb]? = some (.cells #[.int .i64 P.width, .slice bc P.chans.length lc, .slice ba P.arrays.length la2, .slice bf P.funcs.length lf, .slice bm P.main.length lm] 27 (0, 0))) := by show _ = _; rw [← hqb]; exact HQC.out
  have HRN0 : Hid (RN o freshN P.main m zs qb (.cells #[.int .i64 P.width, .slice bc P.chans.length lc, .slice ba P.arrays.length la2, .slice bf P.funcs.length lf, .slice bm P.main.length lm] 27 (0, 0)) W3 W3 (.slice bm P.main.length lm) P.main 0) := ⟨HIN.out, rfl, fun t x ht => by omega, HQC2.out, Below.refl _ _⟩
  have hmW : m ≤ W3.heap.size := Nat.le_trans HMW0.out hszw
  try rw [hqb]
  clear hqb
  have HMWW := Lib.hid hmW
  rw [show (⟨#[102, 114, 101, 115, 104, 95, 118, 97, 114, 105, 97, 98, 108, 101, 95, 111, 102, 95, 116, 104, 101, 95, 115, 116, 97, 116, 101, 109, 101, 110, 116]⟩ : ByteArray) = freshN from rfl]
  go_upto_region 11 with fail
  go_loopw [10, 11, 12] (fun v _ _ wr => ∃ (i : Nat) (M : List InstrD), i ≤ P.main.length ∧ v = .int .i64 i ∧ RN o freshN P.main m zs qb (.cells #[.int .i64 P.width, .slice bc P.chans.length lc, .slice ba P.arrays.length la2, .slice bf P.funcs.length lf, .slice bm P.main.length lm] 27 (0, 0)) W3 wr (.slice bm P.main.length lm) M i) (fun v _ _ _ => P.main.length - (intOf v).toNat)
  case atStart => exact ⟨0, P.main, Nat.zero_le _, rfl, HRN0.out⟩
  case round =>
    obtain ⟨i, M, hi, rfl, hrn1⟩ := hrel
    obtain ⟨w5, rfl⟩ : ∃ x : World, x = wr := ⟨_, rfl⟩
    have HRN := Lib.hid hrn1
    have hml := hrn1.len
    have hpm30 : P.main.length ≤ 30 := HPM.out
    have g4 := row_of hrn1.box 4 _ rfl
    have hmw5 : m ≤ w5.heap.size := Nat.le_trans hmW hrn1.below.size
    clear hrn1
    by_cases hlt : i < P.main.length
    · have hlt1 : (i : Int) < (P.main.length : Int) := by omega
      obtain ⟨x, hx⟩ : ∃ x, M[i]? = some x := ⟨_, List.getElem?_eq_getElem (by omega)⟩
      obtain ⟨_, _, e2, -, hr2⟩ := HRN.out.rd
      simp only [Value.slice.injEq] at e2
      obtain ⟨rfl, -, -⟩ := e2
      obtain ⟨mb, mo, av3, rfl, hf3, -, -, q2, -, q4, -, -, hri3⟩ := hr2 i x hx
      have HX := Lib.hid hx
      have HF3 := Lib.hid hf3
      have HQ2 := Lib.hid q2
      have el := HLC.out w5 HRN.out.below
      have HMW : Hid (m ≤ w5.heap.size ∧ True) := ⟨hmw5, trivial⟩
      clear hr2 hri3 hx hf3 q4
      go_upto_region 14 with fail
      have e2 := ext_cell q2
      have el' := ext_cell el
      by_cases hd : x.dst = o
      · have hdb : (x.dst.toList == o.toList) = true := by rw [hd]; simp
        have HDO := Lib.hid hd
        clear hd
        (refine wp_region_calm (by kernel_rfl) (by kernel_rfl) ?_; (repeat (go_big_quiet_step (fail))); refine wpQuiet_nil ?_; intro wc hwc)
        clear e2 el' el q2 g4
        have c2 := cell_keep hwc HQ2.out
        have f2 := (HF3.out.keep (block_lt_of_cell HQ2.out) hwc).frozen (mo + i * 7 + 2)
        have HRNd := Lib.hid (RN.dst HFO.out fresh_size (Nat.le_of_eq HZQ2.out) (HRN.out.keep hwc HMW.out.1) HX.out HDO.out)
        have hszc : m ≤ wc.heap.size := Nat.le_trans HMW.out.1 hwc.size
        clear hwc
        go_upto_region 16 with fail
        clear c2 f2
        have HX1 : Hid ((M.set i { x with dst := freshN })[i]? = some { x with dst := freshN }) := by show _ = _; rw [List.getElem?_set, if_pos rfl, if_pos (List.getElem?_eq_some_iff.1 HX.out).1]
        have HRN1 := Lib.hid HRNd.out
        simp only [putS] at HRN1
        have HD1 : Hid (¬ ({ x with dst := freshN } : InstrD).dst = o) := HFO.out
        obtain ⟨X1, hX1⟩ : ∃ X, ({ x with dst := freshN } : InstrD) = X := ⟨_, rfl⟩
        rw [hX1] at HX1 HD1 HRN1
        obtain ⟨na, hna⟩ : ∃ n, X1.args.length = n := ⟨_, rfl⟩
        have HNA := Lib.hid hna
        clear hX1 hna HRNd hszc
        generalize (wc.setCell ⟨mb, mo + i * 7 + 2, none⟩ (.string freshN)) = w5b at *
        go_upto_region 17 with fail
        have hna0 : X1.args.length = na := HNA.out
        go_loopw [12] (fun v wr => ∃ (j : Nat) (M : List InstrD) (x2 : InstrD), j ≤ na ∧ v = .int .i64 j ∧ RN o freshN P.main m zs qb (.cells #[.int .i64 P.width, .slice bc P.chans.length lc, .slice ba P.arrays.length la2, .slice bf P.funcs.length lf, .slice (some ⟨mb, mo, none⟩) P.main.length lm] 27 (0, 0)) W3 wr (.slice (some ⟨mb, mo, none⟩) P.main.length lm) M i ∧ M[i]? = some x2 ∧ x2.args.length = na ∧ CleanI o x2 j) (fun v _ => na - (intOf v).toNat)
        case atStart => exact ⟨0, _, X1, Nat.zero_le _, rfl, HRN1.out, HX1.out, hna0, ⟨HD1.out, fun u a hu => by omega⟩⟩
        case round =>
          obtain ⟨j, M2, x2, hj, rfl, hrn2, hx2, hna2, hcl2⟩ := hrel
          obtain ⟨w6, rfl⟩ : ∃ x : World, x = wr := ⟨_, rfl⟩
          have HRN2 := Lib.hid hrn2
          have HX2 := Lib.hid hx2
          have HCL2 := Lib.hid hcl2
          have HNA2 := Lib.hid hna2
          obtain ⟨_, _, e2, -, hr2⟩ := hrn2.rd
          simp only [Value.slice.injEq] at e2
          obtain ⟨rfl, -, -⟩ := e2
          obtain ⟨b3, o3, av3, e3, hf3, -, -, -, -, q4, -, -, hri3⟩ := hr2 i x2 hx2
          simp only [Option.some.injEq, Addr.mk.injEq, and_true] at e3
          obtain ⟨rfl, rfl⟩ := e3
          obtain ⟨ab, ac, rfl, ⟨hnb1, -⟩, har⟩ := id hri3.1
          rw [hna2] at q4 hnb1
          have hnab : na ≤ 140737488351232 := by omega
          clear hnb1
          have HAR := Lib.hid har
          have HQ4 := Lib.hid q4
          clear hr2 hri3 har hrn2 hx2 hcl2 hna2
          by_cases hjl : j < na
          · have hjl1 : (j : Int) < (na : Int) := by omega
            obtain ⟨a, ha⟩ : ∃ a, x2.args[j]? = some a := ⟨_, List.getElem?_eq_getElem (by have := HNA2.out; omega)⟩
            obtain ⟨gb, go, rfl, hfa, n0, -, -, -⟩ := HAR.out j a ha
            have HFA := Lib.hid hfa
            have HN0' := Lib.hid n0
            have HAA := Lib.hid ha
            have el := HLC.out w6 HRN2.out.below
            go_upto_region 19 with fail
            have e4 := ext_cell q4
            have en := ext_cell n0
            have el' := ext_cell el
            clear ha hfa
            by_cases hn : a.name = o
            · have hnb : (a.name.toList == o.toList) = true := by rw [hn]; simp
              have HN := Lib.hid hn
              clear hn
              (refine wp_region_calm (by kernel_rfl) (by kernel_rfl) ?_; (repeat (go_big_quiet_step (fail))); refine wpQuiet_nil ?_; intro wc hwc)
              clear e4 en el' el q4 n0
              have c4 := cell_keep hwc HQ4.out
              have cn := cell_keep hwc HN0'.out
              have fn := (HFA.out.keep (block_lt_of_cell HN0'.out) hwc).frozen (go + j * 2)
              have hkk := HRN2.out.keep hwc (Nat.le_trans HMWW.out HRN2.out.below.size)
              have hgg := (HFA.out _ rfl).1
              obtain ⟨csA, hcsA⟩ := (HFA.out _ rfl).2
              have hbA := (hwc.block gb (block_lt_of_cell HN0'.out)).trans hcsA
              have hnm : wc.cell? ⟨gb, go + j * 2, none⟩ = some (.string o) := by rw [cn, HN.out]
              have HARG := Lib.hid (RN.arg (oo := go) (y := go + j * 2) HFO.out fresh_size (Nat.le_of_eq HZQ2.out) hkk HX2.out HCL2.out hbA hgg hnm c4 rfl)
              clear hkk hgg hcsA hbA hnm
              go_wp2_with fail
              clear c4 cn fn
              go_roundw
              case rel =>
                obtain ⟨M3, x3, h1, h2, h3, h4⟩ := HARG.out
                exact ⟨j + 1, M3, x3, by omega, by go_num, h1, h2, by rw [h3]; exact HNA2.out, h4⟩
              case measure => simp [intOf]; omega
            · have hnb : (a.name.toList == o.toList) = false := toList_ne hn
              have HN := Lib.hid hn
              clear hn
              (refine wp_region_calm (by kernel_rfl) (by kernel_rfl) ?_; (repeat (go_big_quiet_step (fail))); refine wpQuiet_nil ?_; intro wc hwc)
              clear e4 en el' el q4 n0
              have HKK := Lib.hid (HRN2.out.keep hwc (Nat.le_trans HMWW.out HRN2.out.below.size))
              clear hwc
              go_wp2_with fail
              go_roundw
              case rel =>
                refine ⟨j + 1, M2, x2, by omega, by go_num, HKK.out, HX2.out, HNA2.out, HCL2.out.1, fun u b hu hb => ?_⟩
                rcases Nat.lt_or_ge u j with hlt2 | hge
                · exact HCL2.out.2 u b hlt2 hb
                · obtain rfl : u = j := by omega
                  rw [HAA.out] at hb
                  cases hb
                  exact HN.out
              case measure => simp [intOf]; omega
          · have hjl1 : ¬ (j : Int) < (na : Int) := by omega
            obtain rfl : j = na := by omega
            go_wp2_with fail
            go_roundw
            case rel =>
              refine ⟨i + 1, M2, by omega, by go_num, HRN2.out.rd, HRN2.out.eq, fun t z ht hz => ?_, HRN2.out.box, HRN2.out.below⟩
              rcases Nat.lt_or_ge t i with hlt2 | hge
              · exact HRN2.out.done t z hlt2 hz
              · obtain rfl : t = i := by omega
                rw [HX2.out] at hz
                cases hz
                rw [HNA2.out]
                exact HCL2.out
            case measure => simp [intOf]; omega
      · have hdb : (x.dst.toList == o.toList) = false := toList_ne hd
        have HD1 := Lib.hid hd
        clear hd
        (refine wp_region_calm (by kernel_rfl) (by kernel_rfl) ?_; (repeat (go_big_quiet_step (fail))); refine wpQuiet_nil ?_; intro wc hwc)
        clear e2 el' el q2 g4
        have HRN1 := Lib.hid (HRN.out.keep hwc HMW.out.1)
        obtain ⟨X1, rfl⟩ : ∃ X, X = x := ⟨_, rfl⟩
        have HX1 := Lib.hid HX.out
        obtain ⟨na, hna⟩ : ∃ n, X1.args.length = n := ⟨_, rfl⟩
        have HNA := Lib.hid hna
        clear hna hwc
        go_upto_region 17 with fail
        have hna0 : X1.args.length = na := HNA.out
        go_loopw [12] (fun v wr => ∃ (j : Nat) (M : List InstrD) (x2 : InstrD), j ≤ na ∧ v = .int .i64 j ∧ RN o freshN P.main m zs qb (.cells #[.int .i64 P.width, .slice bc P.chans.length lc, .slice ba P.arrays.length la2, .slice bf P.funcs.length lf, .slice (some ⟨mb, mo, none⟩) P.main.length lm] 27 (0, 0)) W3 wr (.slice (some ⟨mb, mo, none⟩) P.main.length lm) M i ∧ M[i]? = some x2 ∧ x2.args.length = na ∧ CleanI o x2 j) (fun v _ => na - (intOf v).toNat)
        case atStart => exact ⟨0, _, X1, Nat.zero_le _, rfl, HRN1.out, HX1.out, hna0, ⟨HD1.out, fun u a hu => by omega⟩⟩
        case round =>
          obtain ⟨j, M2, x2, hj, rfl, hrn2, hx2, hna2, hcl2⟩ := hrel
          obtain ⟨w6, rfl⟩ : ∃ x : World, x = wr := ⟨_, rfl⟩
          have HRN2 := Lib.hid hrn2
          have HX2 := Lib.hid hx2
          have HCL2 := Lib.hid hcl2
          have HNA2 := Lib.hid hna2
          obtain ⟨_, _, e2, -, hr2⟩ := hrn2.rd
          simp only [Value.slice.injEq] at e2
          obtain ⟨rfl, -, -⟩ := e2
          obtain ⟨b3, o3, av3, e3, hf3, -, -, -, -, q4, -, -, hri3⟩ := hr2 i x2 hx2
          simp only [Option.some.injEq, Addr.mk.injEq, and_true] at e3
          obtain ⟨rfl, rfl⟩ := e3
          obtain ⟨ab, ac, rfl, ⟨hnb1, -⟩, har⟩ := id hri3.1
          rw [hna2] at q4 hnb1
          have hnab : na ≤ 140737488351232 := by omega
          clear hnb1
          have HAR := Lib.hid har
          have HQ4 := Lib.hid q4
          clear hr2 hri3 har hrn2 hx2 hcl2 hna2
          by_cases hjl : j < na
          · have hjl1 : (j : Int) < (na : Int) := by omega
            obtain ⟨a, ha⟩ : ∃ a, x2.args[j]? = some a := ⟨_, List.getElem?_eq_getElem (by have := HNA2.out; omega)⟩
            obtain ⟨gb, go, rfl, hfa, n0, -, -, -⟩ := HAR.out j a ha
            have HFA := Lib.hid hfa
            have HN0' := Lib.hid n0
            have HAA := Lib.hid ha
            have el := HLC.out w6 HRN2.out.below
            go_upto_region 19 with fail
            have e4 := ext_cell q4
            have en := ext_cell n0
            have el' := ext_cell el
            clear ha hfa
            by_cases hn : a.name = o
            · have hnb : (a.name.toList == o.toList) = true := by rw [hn]; simp
              have HN := Lib.hid hn
              clear hn
              (refine wp_region_calm (by kernel_rfl) (by kernel_rfl) ?_; (repeat (go_big_quiet_step (fail))); refine wpQuiet_nil ?_; intro wc hwc)
              clear e4 en el' el q4 n0
              have c4 := cell_keep hwc HQ4.out
              have cn := cell_keep hwc HN0'.out
              have fn := (HFA.out.keep (block_lt_of_cell HN0'.out) hwc).frozen (go + j * 2)
              have hkk := HRN2.out.keep hwc (Nat.le_trans HMWW.out HRN2.out.below.size)
              have hgg := (HFA.out _ rfl).1
              obtain ⟨csA, hcsA⟩ := (HFA.out _ rfl).2
              have hbA := (hwc.block gb (block_lt_of_cell HN0'.out)).trans hcsA
              have hnm : wc.cell? ⟨gb, go + j * 2, none⟩ = some (.string o) := by rw [cn, HN.out]
              have HARG := Lib.hid (RN.arg (oo := go) (y := go + j * 2) HFO.out fresh_size (Nat.le_of_eq HZQ2.out) hkk HX2.out HCL2.out hbA hgg hnm c4 rfl)
              clear hkk hgg hcsA hbA hnm
              go_wp2_with fail
              clear c4 cn fn
              go_roundw
              case rel =>
                obtain ⟨M3, x3, h1, h2, h3, h4⟩ := HARG.out
                exact ⟨j + 1, M3, x3, by omega, by go_num, h1, h2, by rw [h3]; exact HNA2.out, h4⟩
              case measure => simp [intOf]; omega
            · have hnb : (a.name.toList == o.toList) = false := toList_ne hn
              have HN := Lib.hid hn
              clear hn
              (refine wp_region_calm (by kernel_rfl) (by kernel_rfl) ?_; (repeat (go_big_quiet_step (fail))); refine wpQuiet_nil ?_; intro wc hwc)
              clear e4 en el' el q4 n0
              have HKK := Lib.hid (HRN2.out.keep hwc (Nat.le_trans HMWW.out HRN2.out.below.size))
              clear hwc
              go_wp2_with fail
              go_roundw
              case rel =>
                refine ⟨j + 1, M2, x2, by omega, by go_num, HKK.out, HX2.out, HNA2.out, HCL2.out.1, fun u b hu hb => ?_⟩
                rcases Nat.lt_or_ge u j with hlt2 | hge
                · exact HCL2.out.2 u b hlt2 hb
                · obtain rfl : u = j := by omega
                  rw [HAA.out] at hb
                  cases hb
                  exact HN.out
              case measure => simp [intOf]; omega
          · have hjl1 : ¬ (j : Int) < (na : Int) := by omega
            obtain rfl : j = na := by omega
            go_wp2_with fail
            go_roundw
            case rel =>
              refine ⟨i + 1, M2, by omega, by go_num, HRN2.out.rd, HRN2.out.eq, fun t z ht hz => ?_, HRN2.out.box, HRN2.out.below⟩
              rcases Nat.lt_or_ge t i with hlt2 | hge
              · exact HRN2.out.done t z hlt2 hz
              · obtain rfl : t = i := by omega
                rw [HX2.out] at hz
                cases hz
                rw [HNA2.out]
                exact HCL2.out
            case measure => simp [intOf]; omega
    · have hlt1 : ¬ (i : Int) < (P.main.length : Int) := by omega
      obtain rfl : i = P.main.length := by omega
      have hM : M = P.main.map (renI o freshN) := (clean_all (o := o) (F := freshN) (M := M) (fun t x ht => HRN.out.done t x (by have := (List.getElem?_eq_some_iff.1 ht).1; omega) ht)).symm.trans HRN.out.eq
      have HRM : Hid (RdInstrs none w5 (.slice bm P.main.length lm) (P.main.map (renI o freshN))) := by show RdInstrs _ _ _ _; rw [← hM]; exact HRN.out.rd.forget
      clear hM
      have HRQ : Hid (RdProg none w5 (renP o freshN P) (.slice bc P.chans.length lc) (.slice ba P.arrays.length la2) (.slice bf P.funcs.length lf) (.slice bm P.main.length lm)) :=
        ⟨(RdStrs.same HD1'.out (fun b hb _ => HRN.out.below.block b hb.2) (fun _ _ h => h)).forget, (RdArrs.same HD2'.out (fun b hb _ => HRN.out.below.block b hb.2) (fun _ _ h => h)).forget, (RdFuncs.same HD3'.out (fun b hb _ => HRN.out.below.block b hb.2) (fun _ _ h => h)).forget, HRM.out, HRP.out.2.2.2.2⟩
      have HB5 := Lib.hid (HB35.out.trans (HRN.out.below.mono HM.out))
      have HN5 := Lib.hid ((HB5.out.block r (Array.getElem?_eq_some_iff.1 HN3.out).1).trans HN3.out)
      have HRP5 := Lib.hid (HRP3.out.keep HB5.out)
      have hl2 := locals_any (renP o freshN P) _ _ _ _ (-1) w5 HRQ.out (HL3.out.keep HB5.out) (by unfold InI64; omega)
      rw [HREN.out o HOM.out HFL2.out, map_set HLND.out HO.out] at hl2
      have hl3 : Calls Tryd.prog 6 #[progV P (.slice bc P.chans.length lc) (.slice ba P.arrays.length la2) (.slice bf P.funcs.length lf) (.slice bm P.main.length lm), .int .i64 (-1)] w5 fun e w' => ∃ v, e = .returned (.tuple #[v, .int .i64 0]) ∧ RdStrs (some (upFrom w5.heap.size)) w' v (L.set rn freshN) ∧ Below w5.heap.size w5 w' := hl2
      have HLOC2 := Lib.hid hl3
      clear hl2 hl3
      have b0 := row_of HRN.out.box 0 _ rfl
      have b1 := row_of HRN.out.box 1 _ rfl
      have b2 := row_of HRN.out.box 2 _ rfl
      have b3 := row_of HRN.out.box 3 _ rfl
      go_upto_region 22 with (go_at_call 6; refine HLOC2.out.mono ?_; rintro e z6 ⟨lv2, rfl, hrl2, hz6⟩; obtain ⟨l2a, l2c, e2, -, -⟩ := id hrl2; rw [List.length_set] at e2; subst e2; have HRL2 := Lib.hid hrl2; have HZ6 := Lib.hid hz6; clear hrl2 hz6)
      clear b0 b1 b2 b3 g4 HLOC2
      have HQ6 := Lib.hid ((HZ6.out.block qb (Array.getElem?_eq_some_iff.1 HRN.out.box).1).trans HRN.out.box)
      have HN6 := Lib.hid ((HZ6.out.block r (Array.getElem?_eq_some_iff.1 HN5.out).1).trans HN5.out)
      have hpe := progEqualN P (renP o freshN P) _ _ _ _ _ _ _ _ z6 (HRP5.out.keep HZ6.out) (HRQ.out.keep HZ6.out)
      rw [HDIF.out o HOM.out HFO.out] at hpe
      have hpe2 : Calls Tryd.prog 11 #[progV P (.slice ac P.chans.length kc) (.slice aa P.arrays.length ka) (.slice af P.funcs.length kf) (.slice am P.main.length km), progV P (.slice bc P.chans.length lc) (.slice ba P.arrays.length la2) (.slice bf P.funcs.length lf) (.slice bm P.main.length lm)] z6 fun e w' => e = .returned (.bool false) ∧ Below z6.heap.size z6 w' := hpe
      have HPE := Lib.hid hpe2
      clear hpe hpe2
      have p0 := row_of HN6.out 0 _ rfl
      have p1 := row_of HN6.out 1 _ rfl
      have p2 := row_of HN6.out 2 _ rfl
      have p3 := row_of HN6.out 3 _ rfl
      have p4 := row_of HN6.out 4 _ rfl
      have b0 := row_of HQ6.out 0 _ rfl
      have b1 := row_of HQ6.out 1 _ rfl
      have b2 := row_of HQ6.out 2 _ rfl
      have b3 := row_of HQ6.out 3 _ rfl
      have b4 := row_of HQ6.out 4 _ rfl
      have B25 : Hid (Below z2.heap.size z2 w5) := HZ3.out.trans (HB5.out.mono HZ3.out.size)
      go_upto_region 24 with (go_at_call 11; refine HPE.out.mono ?_; rintro e z7 ⟨rfl, hz7⟩; have HZ7 := Lib.hid hz7; clear hz7)
      clear p0 p1 p2 p3 p4 b0 b1 b2 b3 b4 HPE
      have B27 := Lib.hid (bcomp (bcomp B25.out HZ6.out) HZ7.out)
      have cl := cell_keep B27.out HLC0.out
      have fl := (HFL.out.keep hlb2 B27.out).frozen (lo + rn)
      have hlw : w.heap.size ≤ lb := Nat.le_trans HB1.out.size (HFL.out _ rfl).1
      have hlb5 : lb < w5.heap.size := Nat.lt_of_lt_of_le hlm hmw5
      have B7 : Hid (Below w.heap.size w (putS z7 lb (lo + rn) (.string freshN))) := (bcomp (bcomp (HBW.out.trans (HRN.out.below.mono (Nat.le_trans HB3.out.size HM.out))) HZ6.out) HZ7.out).setCell hlw _
      have HRLa := Lib.hid ((HRL.out.keep B27.out).putStr (i := rn) (F := freshN) hrn fresh_size)
      have HRLb : Hid (RdStrs none (putS z7 lb (lo + rn) (.string freshN)) (.slice l2a L.length l2c) (L.set rn freshN)) :=
        (RdStrs.same (HRL2.out.keep HZ7.out) (fun b hb _ => heap_setCell_other _ _ _ _ (by have h1 : w5.heap.size ≤ b := hb; show ¬ b = lb; omega)) (fun _ _ h => h)).forget
      have hes := equalStrs _ _ _ _ _ HRLa.out.forget HRLb.out
      rw [eqS_selfR] at hes
      have HES := Lib.hid hes
      have HLF := Lib.hid (HLD.out.keep B7.out)
      clear hes
      go_upto_region 25 with fail
      clear cl fl
      simp only [putS] at HES HLF HRLa HRLb B7
      generalize z7.setCell ⟨lb, lo + rn, none⟩ (.string freshN) = W7 at *
      clear HRLa HRLb HRL2 B27 B25 HQ6 HN6 HRP5 HN5 HRQ HRM HB5 hlw
      go_wp2_with (first | (go_at_call 12; refine HES.out.mono ?_; rintro e z8 ⟨rfl, hz8⟩; have HZ8 := Lib.hid hz8; clear hz8) | (go_at_call 7; refine (AW _ (HLF.out.keep HZ8.out)).out.mono ?_; rintro e z9 ⟨rfl, hz9⟩))
      go_ret
      exact ⟨rfl, bcomp (bcomp B7.out HZ8.out) hz9⟩
end Go.Proofs.YteeebofjlchndaaDoor
