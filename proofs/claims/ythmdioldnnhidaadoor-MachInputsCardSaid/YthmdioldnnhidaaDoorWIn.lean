/- The walk of MachInputs. Condition: what comes in reads as the arguments; the tables hold what they are laid with. -/
import Derived.Test.YthmdioldnnhidaaDoorWLb
import Derived.Test.YthmdioldnnhidaaDoorLMe
import Derived.Test.YthmdioldnnhidaaDoorKOl
set_option linter.unnecessarySimpa false
set_option linter.unusedVariables false
set_option linter.unusedSimpArgs false
namespace Go.Proofs.YthmdioldnnhidaaDoor
open Go.ChangeShapes Go.WideShapes Go.ChangeAt Go.RowKit
def lenV : Value → Nat | .slice _ n _ => n | _ => 0
def lenC (w : World) (g n : Nat) : Nat := match w.cell? ⟨g, n, none⟩ with | some v => lenV v | none => 0
/-- The beginning of a row of one's own. -/
theorem own_prefix {w : World} {base : Nat} {e : TypeId} {size : Nat} {a : Option Addr} {n c r : Nat} {xs : List Value} (h : w.ownsRow base e size (.slice a n c) n xs) (hr : r ≤ n) : w.ownsRow base e size (.slice a r c) r (xs.take (r * size)) := by
  obtain ⟨hl, ⟨h1, rfl⟩ | ⟨g, cap, cur, h1, hg, hc, hn, hm, hs, ht⟩⟩ := h
  · obtain rfl : r = 0 := by omega
    simp only [Value.slice.injEq] at h1
    obtain ⟨rfl, _, rfl⟩ := h1
    exact ⟨by simp, .inl ⟨rfl, rfl⟩⟩
  · simp only [Value.slice.injEq, true_and] at h1
    obtain ⟨rfl, rfl⟩ := h1
    have hle : r * size ≤ n * size := Nat.mul_le_mul_right _ hr
    refine ⟨by rw [List.length_take, hl]; omega, .inr ⟨g, c, cur, rfl, hg, hc, by omega, hm, hs, ?_⟩⟩
    rw [← ht, List.take_take, Nat.min_eq_left hle]
theorem kNum_take (l : List Int) (r : Nat) : (l.flatMap cellsNum).take (r * 1) = (l.take r).flatMap cellsNum := by
  have e : ∀ l : List Int, l.flatMap cellsNum = l.map fun x => .int .u64 x := fun l => by
    induction l with
    | nil => rfl
    | cons a r ih => rw [List.flatMap_cons, ih]; rfl
  rw [e, e, Nat.mul_one, List.map_take]
theorem kNum_append (a b : List Int) : a.flatMap cellsNum ++ b.flatMap cellsNum = (a ++ b).flatMap cellsNum := by rw [List.flatMap_append]
set_option maxRecDepth 100000 in
set_option maxHeartbeats 6400000 in
theorem inputs_walk (f : FlatD) (cv sv av kv iv : Value) (L : List (List Int)) (dv : Value) (add : List Int) (w : World) (hF : RdFlat none w f cv sv av kv) (hI : RdLists none w iv L) (hA : RdRow kNum none w dv add) (hL : Laid w) :
    Calls Tryd.prog 7 #[flatV f cv sv av kv, iv, dv] w fun e w' => e = .returned (.bool true) ∧ Below w.heap.size w w' := by
  obtain ⟨ca, cc, rfl⟩ := hF.1.is
  obtain ⟨sa, sc, rfl⟩ := hF.2.1.is
  obtain ⟨aa, ac, rfl⟩ := hF.2.2.1.is
  obtain ⟨ka, kc, rfl⟩ := hF.2.2.2.1.is
  obtain ⟨ia, ic, rfl⟩ := hI.is
  obtain ⟨da, dc, rfl⟩ := hA.is
  have hal := (Below.refl w.heap.size w).alloc (Nat.le_refl _) (.cells #[.int .i64 f.width, .int .i64 f.regs, .slice ca f.chans.length cc, .slice sa f.sites.length sc, .slice aa f.arrays.length ac, .slice ka f.code.length kc] 26)
  have hg := Lib.hid (heap_alloc_new w (.cells #[.int .i64 f.width, .int .i64 f.regs, .slice ca f.chans.length cc, .slice sa f.sites.length sc, .slice aa f.arrays.length ac, .slice ka f.code.length kc] 26))
  have HF := Lib.hid (hF.keep hal)
  have HI := Lib.hid (hI.keep hal)
  have HA := Lib.hid hA
  have HL := Lib.hid (hL.keep hal)
  have HLw := Lib.hid hL
  have HB := Lib.hid hal
  have had : add.length * 8 ≤ 140737488351232 := hA.size
  clear hF hI hL hal hA
  go_enter Tryd.func7, Tryd.ntmps7
  go_upto_region 1 with fail
  generalize w.alloc (.cells #[.int .i64 f.width, .int .i64 f.regs, .slice ca f.chans.length cc, .slice sa f.sites.length sc, .slice aa f.arrays.length ac, .slice ka f.code.length kc] 26) = W at *
  have hsW : w.heap.size < W.heap.size := (Array.getElem?_eq_some_iff.1 hg.out).1
  have y0 := row_of hg.out 0 (.int .i64 f.width) rfl
  have y1 := row_of hg.out 1 (.int .i64 f.regs) rfl
  have y2 := row_of hg.out 2 (.slice ca f.chans.length cc) rfl
  have y3 := row_of hg.out 3 (.slice sa f.sites.length sc) rfl
  have y4 := row_of hg.out 4 (.slice aa f.arrays.length ac) rfl
  have y5 := row_of hg.out 5 (.slice ka f.code.length kc) rfl
  have HS := Lib.hid ((short25 f _ _ _ _ W HF.out).mono fun _ _ h => flatIs h)
  have HW := Lib.hid (fun w' (hb : Below W.heap.size W w') => few26 _ L w' (HI.out.keep hb))
  have hM : (fewI L).length ≤ 34 := by simp [fewI]; omega
  have HMl : Hid (∀ l ∈ fewI L, l.length ≤ 40) := by
    show ∀ l ∈ fewI L, _
    intro l hl
    simp only [fewI, List.mem_map] at hl
    obtain ⟨l0, _, rfl⟩ := hl
    simp; omega
  generalize shortF f = S at *
  generalize fewI L = M at *
  go_upto_region 2 with (first | (go_at_call 9; refine HS.out.mono ?_; rintro e w1 ⟨caS, ccS, saS, scS, aaS, acS, kaS, kcS, rfl, hr1, hb1⟩; have HR1 := Lib.hid hr1; have HB1 := Lib.hid hb1; clear hr1 hb1 y0 y1 y2 y3 y4 y5) | (go_at_call 10; refine (HW.out _ HB1.out).mono ?_; rintro e w2 ⟨v, rfl, hr2, hb2⟩; obtain ⟨ma, mc, rfl⟩ := hr2.is; have HR2 := Lib.hid hr2; have HB2 := Lib.hid (bcomp HB1.out hb2); have HS2 := Lib.hid (HR1.out.keep hb2); have hg2 := Lib.hid ((HB2.out.block _ hsW).trans hg.out); clear hr2 hb2) | (refine wpList_store_row rfl 26 (.tmp 3) (.tmp 14) rfl w.heap.size #[.int .i64 S.width, .int .i64 S.regs, .slice caS S.chans.length ccS, .slice saS S.sites.length scS, .slice aaS S.arrays.length acS, .slice kaS S.code.length kcS] rfl rfl 26 #[.int .i64 f.width, .int .i64 f.regs, .slice ca f.chans.length cc, .slice sa f.sites.length sc, .slice aa f.arrays.length ac, .slice ka f.code.length kc] ?hs1 (by as_aux_lemma => kernel_rfl) (by as_aux_lemma => kernel_rfl) (by as_aux_lemma => kernel_rfl) ?_; exact hg2.out))
  try simp only [Act.put]
  have hs1 : w.heap.size < w1.heap.size := by have := HB1.out.size; omega
  have HR3 := Lib.hid (HS2.out.setRow (m := 0) hsW (Nat.zero_le _) #[.int .i64 S.width, .int .i64 S.regs, .slice caS S.chans.length ccS, .slice saS S.sites.length scS, .slice aaS S.arrays.length acS, .slice kaS S.code.length kcS]).forget
  have HI3 := Lib.hid (HR2.out.setRow (m := 0) hs1 (Nat.zero_le _) #[.int .i64 S.width, .int .i64 S.regs, .slice caS S.chans.length ccS, .slice saS S.sites.length scS, .slice aaS S.arrays.length acS, .slice kaS S.code.length kcS]).forget
  have HB3 : Hid (Below w.heap.size w (w2.setRow w.heap.size #[.int .i64 S.width, .int .i64 S.regs, .slice caS S.chans.length ccS, .slice saS S.sites.length scS, .slice aaS S.arrays.length acS, .slice kaS S.code.length kcS])) := below_row (bcomp HB.out HB2.out) (Nat.le_refl _) _
  have hg3 : Hid ((w2.setRow w.heap.size #[.int .i64 S.width, .int .i64 S.regs, .slice caS S.chans.length ccS, .slice saS S.sites.length scS, .slice aaS S.arrays.length acS, .slice kaS S.code.length kcS]).heap[w.heap.size]? = some (.cells #[.int .i64 S.width, .int .i64 S.regs, .slice caS S.chans.length ccS, .slice saS S.sites.length scS, .slice aaS S.arrays.length acS, .slice kaS S.code.length kcS] 26 (0, 0))) := setRow_heap _ _ _ _ _ _ hg2.out
  have HL0 : Hid (Laid (w2.setRow w.heap.size #[.int .i64 S.width, .int .i64 S.regs, .slice caS S.chans.length ccS, .slice saS S.sites.length scS, .slice aaS S.arrays.length acS, .slice kaS S.code.length kcS])) := HLw.out.keep HB3.out
  clear HB1 HB2 HR1 HR2 HS2 hg2 HS HW HF HI HL hg HB hs1 hsW
  generalize (w2.setRow w.heap.size #[.int .i64 S.width, .int .i64 S.regs, .slice caS S.chans.length ccS, .slice saS S.sites.length scS, .slice aaS S.arrays.length acS, .slice kaS S.code.length kcS]) = W3 at *
  have hM2 : M.length ≤ 1000000 := by omega
  have HRU := Lib.hid ((machRun S _ _ _ _ _ M 150 W3 HR3.out HI3.out HL0.out ⟨by omega, by omega⟩ hM2).mono fun _ _ h => runIs h)
  have HPL := Lib.hid (fun hok hle => inputs_plain S M add hok hle HR3.out.2.2.2.1.ok)
  obtain ⟨x, hx⟩ : ∃ x, runT S M 150 = x := ⟨_, rfl⟩
  obtain ⟨er, her⟩ : ∃ er, errRun S M.length 150 = er := ⟨_, rfl⟩
  rw [hx, her] at HRU
  rw [errRun_in _ _ _ (by omega) (by omega)] at her
  have HX := Lib.hid hx
  have HER := Lib.hid her
  clear hx her
  have y0 := row_of hg3.out 0 (.int .i64 S.width) rfl
  have y1 := row_of hg3.out 1 (.int .i64 S.regs) rfl
  have y2 := row_of hg3.out 2 (.slice caS S.chans.length ccS) rfl
  have y3 := row_of hg3.out 3 (.slice saS S.sites.length scS) rfl
  have y4 := row_of hg3.out 4 (.slice aaS S.arrays.length acS) rfl
  have y5 := row_of hg3.out 5 (.slice kaS S.code.length kcS) rfl
  go_upto_region 3 with (first | (go_at_call 25; refine HRU.out.mono ?_; rintro e z1 ⟨a1, a2, a3, a4, a5, a6, a7, a8, rfl, hrz, hz⟩; have HRZ := Lib.hid hrz; have HZ := Lib.hid hz; have HN := Lib.hid (heap_alloc_new z1 (.cells #[.int .u8 0, .int .i64 0, .slice none 0 0, .slice none 0 0, .slice none 0 0, .slice none 0 0] 49)); clear hrz hz y0 y1 y2 y3 y4 y5) | (refine wpList_store_row rfl 49 (.tmp 7) (.tmp 21) rfl z1.heap.size #[.int .u8 x.status, .int .i64 x.steps, .slice a1 x.outs.length a2, .slice a3 x.rels.length a4, .slice a5 x.brs.length a6, .slice a7 x.reads.length a8] rfl rfl 49 #[.int .u8 0, .int .i64 0, .slice none 0 0, .slice none 0 0, .slice none 0 0, .slice none 0 0] ?hra (by as_aux_lemma => kernel_rfl) (by as_aux_lemma => kernel_rfl) (by as_aux_lemma => kernel_rfl) ?_; exact HN.out))
  try simp only [Act.put]
  have hbn : Below z1.heap.size z1 ((z1.alloc (.cells #[.int .u8 0, .int .i64 0, .slice none 0 0, .slice none 0 0, .slice none 0 0, .slice none 0 0] 49)).setRow z1.heap.size #[.int .u8 x.status, .int .i64 x.steps, .slice a1 x.outs.length a2, .slice a3 x.rels.length a4, .slice a5 x.brs.length a6, .slice a7 x.reads.length a8]) := below_row ((Below.refl z1.heap.size z1).alloc (Nat.le_refl _) _) (Nat.le_refl _) _
  have HG1 : Hid (((z1.alloc (.cells #[.int .u8 0, .int .i64 0, .slice none 0 0, .slice none 0 0, .slice none 0 0, .slice none 0 0] 49)).setRow z1.heap.size #[.int .u8 x.status, .int .i64 x.steps, .slice a1 x.outs.length a2, .slice a3 x.rels.length a4, .slice a5 x.brs.length a6, .slice a7 x.reads.length a8]).heap[z1.heap.size]? = some (.cells #[.int .u8 x.status, .int .i64 x.steps, .slice a1 x.outs.length a2, .slice a3 x.rels.length a4, .slice a5 x.brs.length a6, .slice a7 x.reads.length a8] 49 (0, 0))) := setRow_heap _ _ _ _ _ _ HN.out
  have HT1 := Lib.hid (HRZ.out.keep hbn)
  have HB6 := Lib.hid (bcomp HZ.out hbn)
  clear hbn HN HRZ HZ HRU
  generalize ((z1.alloc (.cells #[.int .u8 0, .int .i64 0, .slice none 0 0, .slice none 0 0, .slice none 0 0, .slice none 0 0] 49)).setRow z1.heap.size #[.int .u8 x.status, .int .i64 x.steps, .slice a1 x.outs.length a2, .slice a3 x.rels.length a4, .slice a5 x.brs.length a6, .slice a7 x.reads.length a8]) = W6 at *
  have hg6 := Lib.hid ((HB6.out.block _ (Array.getElem?_eq_some_iff.1 hg3.out).1).trans hg3.out)
  have HI6 := Lib.hid (HI3.out.keep HB6.out)
  have HR6 := Lib.hid (HR3.out.keep HB6.out)
  have HL6 := Lib.hid (HL0.out.keep HB6.out)
  have HBB := Lib.hid (bcomp HB3.out HB6.out)
  have HAW := Lib.hid (fun (w' : World) (hb : Below W6.heap.size W6 w') => awake_any w' (HL6.out.keep hb))
  clear HR3 HI3 HL0 HB3 HB6 hg3
  by_cases h0 : er = 0
  rotate_left
  · have h1 : (er != 0) = true := by simpa using h0
    clear HPL
    go_wp2_with (go_at_call 17; refine (HAW.out _ (by first | assumption | exact Below.refl _ _)).mono ?_; rintro e z ⟨rfl, hz⟩; have hzz : Below W6.heap.size W6 z := bcomp (by first | assumption | exact Below.refl _ _) hz; clear hz)
    go_ret
    exact ⟨rfl, bcomp HBB.out (by first | assumption | exact Below.refl _ _)⟩
  · have hok : flatOk S = true := by
      cases hk : flatOk S
      · have := HER.out; rw [errNew, hk, h0] at this; cases this
      · rfl
    have hle : M.length ≤ S.chans.length := by
      have := HER.out
      rw [errNew, hok, if_pos rfl, h0] at this
      split at this
      · cases this
      · omega
    obtain ⟨hrl, hra, hrb, hfin⟩ := HPL.out hok hle x HX.out
    have hcl : S.chans.length ≤ 32 := (headP hok).chans
    have hw1 : 1 ≤ S.width := (headP hok).w1
    have hw2 : S.width ≤ 64 := (headP hok).w2
    have HERN : Hid (∀ n : Nat, n ≤ S.chans.length → errRun S n 150 = 0) := fun n hn => by rw [errRun, if_neg (by omega), errNew, if_pos hok, if_neg (by omega)]
    subst h0
    have HRA := Lib.hid hra
    have HRB := Lib.hid hrb
    have HFIN := Lib.hid hfin
    clear HPL HX HER hra hrb hfin hok
    have HC := Lib.hid (copyListsOwn _ M W6 HI6.out)
    have hb0 : ((0 : Int) != 0) = false := rfl
    go_upto_region 6 with (go_at_call 12; refine HC.out.mono ?_; rintro e W7 ⟨lv, vs, rfl, ho7, hb7⟩; have HO7 := Lib.hid ho7; have HB7 := Lib.hid hb7; clear ho7 hb7)
    clear HC HI6
    have hlt1 : z1.heap.size < W6.heap.size := (Array.getElem?_eq_some_iff.1 HG1.out).1
    have hlt2 : w.heap.size < W6.heap.size := (Array.getElem?_eq_some_iff.1 hg6.out).1
    have HBd : Hid (∀ w', Below W6.heap.size W7 w' → Below W6.heap.size W6 w') := fun w' hb => HB7.out.trans hb
    have HK : Hid (∀ w', Below W6.heap.size W7 w' → w'.heap[z1.heap.size]? = some (.cells #[.int .u8 x.status, .int .i64 x.steps, .slice a1 x.outs.length a2, .slice a3 x.rels.length a4, .slice a5 x.brs.length a6, .slice a7 x.reads.length a8] 49 (0, 0)) ∧ w'.heap[w.heap.size]? = some (.cells #[.int .i64 S.width, .int .i64 S.regs, .slice caS S.chans.length ccS, .slice saS S.sites.length scS, .slice aaS S.arrays.length acS, .slice kaS S.code.length kcS] 26 (0, 0))) := fun w' hb =>
      ⟨((HBd.out w' hb).block _ hlt1).trans HG1.out, ((HBd.out w' hb).block _ hlt2).trans hg6.out⟩
    have hs67 : W6.heap.size ≤ W7.heap.size := HB7.out.size
    obtain ⟨i0, hi, hz0, hz1, hz2⟩ := info_parts infoNumS
    obtain ⟨i1, hj, hy0, hy1, hy2⟩ := info_parts infoNum
    have HMlen := HO7.out.len
    go_wp2_with fail
    go_loopw [9] (fun lv wr => ∃ (vs : List Value) (k : Nat), M.length + k ≤ S.chans.length ∧ OwnL W6.heap.size wr lv vs (M ++ List.replicate k []) ∧ Below W6.heap.size W7 wr) (fun lv _ => S.chans.length - lenV lv)
    case atStart => exact ⟨vs, 0, by omega, by simpa using HO7.out, Below.refl _ _⟩
    case round =>
      clear HMlen
      obtain ⟨vs, k, hk, ho, hb⟩ := hrel
      have hown := ho.own
      have hvl : vs.length = M.length + k := by have := ho.len; simpa using this
      obtain ⟨la, lc, rfl, -⟩ := own_read hown
      obtain ⟨hx1, hx2⟩ := HK.out wr hb
      have y2 := row_of hx2 2 (.slice caS S.chans.length ccS) rfl
      by_cases hlt : vs.length < S.chans.length
      · have hk1 : (vs.length : Int) < (S.chans.length : Int) := by omega
        have HO := Lib.hid ho
        have hsz : W6.heap.size ≤ wr.heap.size := by have := hb.size; omega
        have HBr := Lib.hid hb
        have hvs := Lib.hid hvl
        clear ho hb hx1 hx2 hvl hk
        go_wp2_with (at_builtin; refine wpList_append_own _ rfl (.tmp 34) (.tmp 35) 27 rfl W6.heap.size 45 i0 (.slice none 0 0) 1 24 Tryd.underlying27 hi hz0 hz1 hz2 rfl (by decide) _ _ _ rfl (hown.alloc _) ⟨wr.heap.size, 0, none⟩ 1 1 [.slice none 0 0] rfl rfl (many_new _ _ _) ?c2 ?c3 ?c4 ?c5 ?_)
        case c2 => intro u hu; simp at hu; subst hu; rfl
        case c3 => unfold maxLen; omega
        case c4 => omega
        case c5 => simp; omega
        · intro v' w4 hown' hgrow _
          have hN := HO.out.push (l := []) (Below.refl _ _) (World.ownsRow_nil _ _ _ _) (fun x hx => by simp at hx) hsz hown' hgrow
          rw [List.append_assoc, ← List.replicate_succ'] at hN
          have HN := Lib.hid hN
          have HBN := Lib.hid ((HBr.out.alloc hsz (.cells #[.slice none 0 0] 45)).grown hgrow (by simp; omega) (own_row_le hown))
          obtain ⟨lb, ld, rfl, -⟩ := own_read hown'
          clear hown' hgrow hN hown
          go_wp2
          go_roundw
          case rel => exact ⟨_, k + 1, by have := hvs.out; omega, HN.out, HBN.out⟩
          case measure => simp [lenV]; omega
      · have hk1 : ¬ (vs.length : Int) < (S.chans.length : Int) := by omega
        obtain rfl : k = S.chans.length - M.length := by omega
        have hvN : vs.length = S.chans.length := by omega
        have HO : Hid (OwnL W6.heap.size wr (.slice la vs.length lc) vs (insM S M)) := ho
        have HBr := Lib.hid hb
        have HIL : Hid (∀ l ∈ insM S M, l.length ≤ 40) := by
          show ∀ l ∈ insM S M, _
          intro l hl
          rcases List.mem_append.1 hl with h | h
          · exact HMl.out l h
          · rw [(List.mem_replicate.1 h).2]; simp
        clear ho hb hown hvl hk hlt
        have hil := insM_len hle
        generalize insM S M = B at *
        have HFL : Hid ((finsI S add (rdsI x) B).length = B.length) := finsI_len _ _ _ _
        have hx5 := row_of hx1 5 (.slice a7 x.reads.length a8) rfl
        have hrn : ((x.reads.length : Int) != (S.chans.length : Int)) = false := by rw [hrl]; simp
        have HEQ : Hid (vs.length = S.chans.length ∧ B.length = S.chans.length ∧ x.reads.length = S.chans.length) := ⟨hvN, hil, hrl⟩
        clear hvN hil hrl
        generalize wr = W8 at *
        go_upto_region 10 with fail
        clear y2 hx5 hrn hk1 hx1 hx2
        generalize hA' : finsI S add (rdsI x) B = A at *
        have HAA := Lib.hid hA'
        clear hA'
        go_wp2_with fail
        go_loopw [10, 11] (fun i _ wr => ∃ n : Nat, n ≤ B.length ∧ i = .int .i64 n ∧ (∃ vs', vs'.length = vs.length ∧ OwnL W6.heap.size wr (.slice la vs.length lc) vs' (midI A B n)) ∧ Below W6.heap.size W7 wr) (fun i _ _ => B.length - (intOf i).toNat)
        case atStart => exact ⟨0, Nat.zero_le _, rfl, ⟨vs, rfl, by simpa [midI] using HO.out⟩, HBr.out⟩
        case round =>
          obtain ⟨n, hn, rfl, ⟨vs2, hv2, ho⟩, hb⟩ := hrel
          obtain ⟨w9, rfl⟩ : ∃ x : World, x = wr := ⟨_, rfl⟩
          by_cases hlt : n < B.length
          · have hn32 : n ≤ 32 := by have := HEQ.out; omega
            obtain ⟨l0, hl0⟩ : ∃ l0, B[n]? = some l0 := ⟨_, List.getElem?_eq_getElem hlt⟩
            have hl40 : l0.length ≤ 40 := HIL.out l0 (List.mem_of_getElem? hl0)
            have hln : (midI A B n)[n]? = some l0 := by rw [midI_at HFL.out hlt]; exact hl0
            have HPL := Lib.hid (pertI_len S add n l0)
            have HP : Hid (pertI S add n l0 = if Moves S add then l0.mapIdx (fun k x => addI S add n k x) else l0) := rfl
            have hAn : A[n]? = some (finI S add (rdsI x n) n l0) := by rw [← HAA.out, finsI, List.getElem?_mapIdx, hl0]; rfl
            have hn1 : (n : Int) < (vs.length : Int) := by have := HEQ.out; omega
            have HAN := Lib.hid hAn
            have HLN := Lib.hid hln
            have HB9 := Lib.hid hb
            have HO9 := Lib.hid ho
            have HV2 := Lib.hid hv2
            clear hv2
            clear hAn hln hb hl0
            obtain ⟨g, gc, u, e1, hu, hcu, hfu, hur, hgn, hgl, hug⟩ := ho.at HLN.out
            rw [HV2.out] at e1
            simp only [Value.slice.injEq, true_and] at e1
            obtain ⟨rfl, rfl⟩ := e1
            obtain ⟨ua, uc, rfl, -⟩ := own_read hur
            obtain ⟨rb, ro, rfl, _, cR, _⟩ := atInt HT1.out.2.2.2.1 (HRA.out n (by have := HEQ.out; omega))
            have HCR := Lib.hid cR
            have hr150 := HRB.out n
            obtain ⟨rn, hrn⟩ : ∃ rn, rdsI x n = rn := ⟨_, rfl⟩
            rw [hrn] at HCR HAN hr150
            have HU := Lib.hid hu
            clear ho cR hrn hcu hfu hur hug hu
            have HSET0 : Hid ((midI A B n).set n l0 = midI A B n) := set_same HLN.out
            go_wp2_with fail
            go_loopw [11] (fun kv wr => ∃ k : Nat, k ≤ (if Moves S add then l0.length else 0) ∧ kv = .int .i64 k ∧ OwnL W6.heap.size wr (.slice (some ⟨g, 0, none⟩) vs.length lc) vs2 ((midI A B n).set n (midL (pertI S add n l0) l0 k)) ∧ Below W6.heap.size W7 wr) (fun kv _ => l0.length - (intOf kv).toNat)
            case atStart => exact ⟨0, Nat.zero_le _, rfl, by rw [midL_zero, HSET0.out]; exact HO9.out, HB9.out⟩
            case round =>
              obtain ⟨k, hk, rfl, ho, hb⟩ := hrel
              obtain ⟨w10, rfl⟩ : ∃ x : World, x = wr := ⟨_, rfl⟩
              have hkl : k ≤ l0.length := by split at hk <;> omega
              have HLK := Lib.hid (midL_len HPL.out hkl)
              have hat : ((midI A B n).set n (midL (pertI S add n l0) l0 k))[n]? = some (midL (pertI S add n l0) l0 k) := List.getElem?_set_self (by rw [midI_len HFL.out hn]; exact hlt)
              obtain ⟨g', gc', u', e1, hu', hcu, hfu, hur, hgn', hgl', hug⟩ := ho.at hat
              rw [HV2.out] at e1
              simp only [Value.slice.injEq, Option.some.injEq, Addr.mk.injEq, and_true, true_and] at e1
              obtain ⟨rfl, rfl⟩ := e1
              rw [HU.out] at hu'
              cases hu'
              obtain ⟨hx1, hx2⟩ := HK.out w10 hb
              have y0 := row_of hx2 0 (.int .i64 S.width) rfl
              have HO10 := Lib.hid ho
              have HB10 := Lib.hid hb
              have HUR := Lib.hid hur
              have HAT := Lib.hid hat
              clear ho hb hur hat hfu hug hx1 hx2 hgn' hgl'
              go_upto_region 14 with fail
              go_cut [66] from 50 to 66 (fun c wx => wx = w10 ∧ ∃ b : Bool, c = .bool b ∧ (b = true ↔ k < l0.length ∧ Moves S add))
              case first =>
                by_cases h1 : k < l0.length
                · have h1' : (k : Int) < (l0.length : Int) := by omega
                  by_cases h2 : 0 < add.length
                  · have h2' : (0 : Int) < (add.length : Int) := by omega
                    by_cases h3 : S.width < 64
                    · go_wp2_with fail
                      go_meet
                      exact ⟨rfl, true, rfl, by simp [h1, Moves, h2, h3]⟩
                    · go_wp2_with fail
                      go_meet
                      exact ⟨rfl, false, rfl, by simp [h1, Moves, h2, h3]⟩
                  · have h2' : ¬ (0 : Int) < (add.length : Int) := by omega
                    go_wp2_with fail
                    go_meet
                    exact ⟨rfl, false, rfl, by simp [h1, Moves, h2]⟩
                · have h1' : ¬ (k : Int) < (l0.length : Int) := by omega
                  go_wp2_with fail
                  go_meet
                  exact ⟨rfl, false, rfl, by simp [h1]⟩
              case rest =>
                obtain ⟨rfl, b, rfl, hbi⟩ := hcut
                cases b
                · have hno : ¬ (k < l0.length ∧ Moves S add) := fun h => by have := hbi.2 h; cases this
                  have hend : midL (pertI S add n l0) l0 k = pertI S add n l0 := by
                    by_cases hm : Moves S add
                    · obtain rfl : k = l0.length := by
                        rcases Nat.lt_or_ge k l0.length with h | h
                        · exact absurd ⟨h, hm⟩ hno
                        · omega
                      exact midL_end HPL.out
                    · obtain rfl : k = 0 := by rw [if_neg hm] at hk; omega
                      rw [midL_zero, HP.out, if_neg hm]
                  have HO11 : Hid (OwnL W6.heap.size wc (.slice (some ⟨g, 0, none⟩) vs.length lc) vs2 ((midI A B n).set n (pertI S add n l0 ++ List.replicate 0 0))) := by
                    show OwnL _ _ _ _ _
                    rw [List.replicate_zero, List.append_nil, ← hend]; exact HO10.out
                  clear hno hend hbi HO10 HUR HAT y0 hcu hk
                  go_wp2_with fail
                  go_loopw [109] (fun _ wr => ∃ (vs3 : List Value) (q : Nat), q ≤ rn - l0.length ∧ vs3.length = vs.length ∧ OwnL W6.heap.size wr (.slice (some ⟨g, 0, none⟩) vs.length lc) vs3 ((midI A B n).set n (pertI S add n l0 ++ List.replicate q 0)) ∧ Below W6.heap.size W7 wr) (fun _ wr => rn - lenC wr g n)
                  case atStart => exact ⟨vs2, 0, Nat.zero_le _, HV2.out, HO11.out, HB10.out⟩
                  case round =>
                    obtain ⟨vs3, q, hq, hv3, ho, hb⟩ := hrel
                    have HV3 := Lib.hid hv3
                    clear hv3
                    obtain ⟨w11, rfl⟩ : ∃ x : World, x = wr := ⟨_, rfl⟩
                    obtain ⟨l1, hl1⟩ : ∃ l1, pertI S add n l0 ++ List.replicate q 0 = l1 := ⟨_, rfl⟩
                    have HLL : Hid (l1.length = l0.length + q) := by show _ = _; rw [← hl1]; simp [HPL.out]
                    rw [hl1] at ho
                    have hat : ((midI A B n).set n l1)[n]? = some l1 := List.getElem?_set_self (by rw [midI_len HFL.out hn]; exact hlt)
                    obtain ⟨g', gc', u', e1, hu', hcu, hfu, hur, hgn', hgl', hug⟩ := ho.at hat
                    rw [HV3.out] at e1
                    simp only [Value.slice.injEq, Option.some.injEq, Addr.mk.injEq, and_true, true_and] at e1
                    obtain ⟨rfl, rfl⟩ := e1
                    obtain ⟨ub, uc', rfl, -⟩ := own_read hur
                    obtain ⟨hx1, hx2⟩ := HK.out w11 hb
                    have hmeas : lenC w11 g n = l1.length := by simp only [lenC, hcu]; rfl
                    have i1c := ext_cell hcu
                    have i2c := ext_cell (row_of hx1 5 (.slice (some ⟨rb, ro, none⟩) x.reads.length a8) rfl)
                    have i3c := ext_cell (cell_keep (HBd.out w11 hb) HCR.out)
                    have HOa := Lib.hid ho
                    have HBa := Lib.hid hb
                    have HUa := Lib.hid hu'
                    have HL1 := Lib.hid hl1
                    have HQ := Lib.hid hq
                    have hn2 : (n : Int) < (x.reads.length : Int) := by have := HEQ.out; omega
                    clear ho hb hu' hl1 hq hx1 hx2 hfu hur hgn' hgl' hug hat hcu
                    by_cases hqr : l1.length < rn
                    · have hq1 : (l1.length : Int) < (rn : Int) := by omega
                      go_upto_region 17 with fail
                      (refine wp_region_calm (by kernel_rfl) (by kernel_rfl) ?_; (repeat (go_big_quiet_step (fail))); refine wpQuiet_nil ?_; intro wc hwc)
                      have HOb := Lib.hid (HOa.out.keep hwc)
                      have HBb := Lib.hid (HBa.out.trans (hwc.mono (by have := HBa.out.size; omega)))
                      obtain ⟨g', gc', u', e1, hu', hcu, hfu, hur, hgn', hgl', hug⟩ := HOb.out.at (List.getElem?_set_self (a := l1) (i := n) (by rw [midI_len HFL.out hn]; exact hlt))
                      rw [HV3.out] at e1
                      simp only [Value.slice.injEq, Option.some.injEq, Addr.mk.injEq, and_true, true_and] at e1
                      obtain ⟨rfl, rfl⟩ := e1
                      rw [HUa.out] at hu'
                      cases hu'
                      have hsz : W6.heap.size ≤ wc.heap.size := by have := HBb.out.size; omega
                      clear i1c i2c i3c hwc HOa HBa hfu
                      have HUR := Lib.hid hur
                      have hlen40 : l1.length ≤ 1000 := by have := HLL.out; have := HQ.out; omega
                      go_wp2_with (at_builtin; refine wpList_append_own_at _ rfl (.tmp 107) (.tmp 108) 45 rfl W6.heap.size 40 i1 (.int .u64 0) 1 8 Tryd.underlying45 hj hy0 hy1 hy2 rfl (by decide) _ _ _ rfl (hur.alloc _) ⟨wc.heap.size, 0, none⟩ 1 1 [.int .u64 0] rfl rfl (many_new _ _ _) ?c2 ?c3 ?c4 ?c5 ?_)
                      case c2 => intro u hu; simp at hu; subst hu; rfl
                      case c3 => unfold maxLen; omega
                      case c4 => omega
                      case c5 => simp; omega
                      · intro v' w4 hown' hgrow _ hblk
                        have hkk : ∀ b, b < wc.heap.size → (Value.slice ub l1.length uc').ownBlock ≠ some b → w4.heap[b]? = wc.heap[b]? := fun b hbl hne => (hgrow.block b (by simp; omega) (fun e => hne e.symm)).trans (((Below.refl wc.heap.size wc).alloc (Nat.le_refl _) _).block b hbl)
                        have hown2 : w4.ownsRow W6.heap.size 40 1 v' (l1 ++ [0]).length ((l1 ++ [0]).flatMap cellsNum) := by
                          rw [← kNum_append, List.length_append]; exact hown'
                        have hokl : ∀ y ∈ l1, InU64 y := HOb.out.ok l1 (List.mem_of_getElem? (List.getElem?_set_self (a := l1) (i := n) (by rw [midI_len HFL.out hn]; exact hlt)))
                        have HOc0 := (HV3.out ▸ HOb.out : OwnL W6.heap.size wc (.slice (some ⟨g, 0, none⟩) vs3.length lc) vs3 ((midI A B n).set n l1))
                        have hN := HOc0.put (i := n) HUa.out hkk hown2 (fun b hb => by rcases hblk with e | e; exact .inl (e ▸ hb); right; rw [hb] at e; simp at e; omega) (fun y hy => by rcases List.mem_append.1 hy with h | h; exact hokl y h; simp at h; subst h; exact ⟨by decide, by decide⟩)
                        rw [set_twice] at hN
                        have hN2 : OwnL W6.heap.size (w4.setCell ⟨g, n, none⟩ v') (.slice (some ⟨g, 0, none⟩) vs.length lc) (vs3.set n v') ((midI A B n).set n (pertI S add n l0 ++ List.replicate (q + 1) 0)) := by
                          rw [List.replicate_succ', ← List.append_assoc, HL1.out, ← HV3.out]; exact hN
                        have HN := Lib.hid hN2
                        have HBN : Hid (Below W6.heap.size W7 (w4.setCell ⟨g, n, none⟩ v')) := ((HBb.out.alloc hsz (.cells #[.int .u64 0] 40)).grown hgrow (by simp; omega) (own_row_le hur)).setCell hgn' _
                        have hc4 : w4.cell? ⟨g, n, none⟩ = some (.slice ub l1.length uc') := by rw [World.cell?_of_block (hkk g hgl' hug)]; exact hcu
                        have hcur : ∃ cur, w4.heap[g]? = some (.cells cur 45 (0, 0)) := by
                          obtain ⟨cs, hr⟩ := own_row HOb.out.own (b := g) rfl; exact ⟨cs, (hkk g hgl' hug).trans hr⟩
                        obtain ⟨cur, hcur⟩ := hcur
                        have hf4 := frozen_of_row w4 g n _ _ hcur
                        obtain ⟨ub2, uc2, rfl, -⟩ := own_read hown'
                        have hme2 : lenC (w4.setCell ⟨g, n, none⟩ (.slice ub2 (l1.length + 1) uc2)) g n = l1.length + 1 := by
                          simp only [lenC]; rw [World.cell?_setCell_same _ _ _ hc4]; rfl
                        clear hown' hgrow hN hN2 hown2 hkk hblk hcur HOc0
                        go_wp2_with fail
                        go_roundw
                        case rel => exact ⟨_, q + 1, by have := HLL.out; omega, by simpa using HV3.out, HN.out, HBN.out⟩
                        case measure => rw [hmeas, hme2]; omega
                    · have hq1 : ¬ (l1.length : Int) < (rn : Int) := by omega
                      go_upto_region 17 with fail
                      (refine wp_region_calm (by kernel_rfl) (by kernel_rfl) ?_; (repeat (go_big_quiet_step (fail))); refine wpQuiet_nil ?_; intro wc hwc)
                      have HOb := Lib.hid (HOa.out.keep hwc)
                      have HBb := Lib.hid (HBa.out.trans (hwc.mono (by have := HBa.out.size; omega)))
                      obtain ⟨g', gc', u', e1, hu', hcu, hfu, hur, hgn', hgl', hug⟩ := HOb.out.at (List.getElem?_set_self (a := l1) (i := n) (by rw [midI_len HFL.out hn]; exact hlt))
                      rw [HV3.out] at e1
                      simp only [Value.slice.injEq, Option.some.injEq, Addr.mk.injEq, and_true, true_and] at e1
                      obtain ⟨rfl, rfl⟩ := e1
                      rw [HUa.out] at hu'
                      cases hu'
                      have hsz : W6.heap.size ≤ wc.heap.size := by have := HBb.out.size; omega
                      clear i1c i2c i3c hwc HOa HBa hfu
                      obtain ⟨w12, rfl⟩ : ∃ x : World, x = wc := ⟨_, rfl⟩
                      have hrl1 : rn ≤ l1.length := by omega
                      have HQE : Hid (q = rn - l0.length) := by have := HLL.out; have := HQ.out; show _ = _; omega
                      have hre := own_prefix hur hrl1
                      have hrc : rn ≤ uc' := by have := own_cap hre; omega
                      obtain ⟨hx1, hx2⟩ := HK.out w12 HBb.out
                      obtain ⟨m5, hm5⟩ : ∃ m5 : Nat, min add.length 5 = m5 := ⟨_, rfl⟩
                      have hmin := min_run add.length m5 5 (by omega)
                      have HM5 : Hid (add.take m5 = add.take 5) := by show _ = _; rw [← hm5, take_min]
                      have hm5a : m5 ≤ add.length := by omega
                      have hm5b : m5 ≤ 5 := by omega
                      have HM5E : Hid (min add.length 5 = m5) := hm5
                      obtain ⟨_, _, e9, ⟨_, hac⟩, _⟩ := id HA.out
                      simp only [Value.slice.injEq, true_and] at e9
                      obtain ⟨-, rfl⟩ := e9
                      have hmc : m5 ≤ dc := by omega
                      obtain ⟨S2, hS2⟩ : ∃ S2, S2 = [g, z1.heap.size, rb] := ⟨_, rfl⟩
                      have hrbl : rb < W6.heap.size := block_lt_of_cell HCR.out
                      have HS2L : Hid (∀ b ∈ S2, b < w12.heap.size) := by show ∀ b ∈ S2, _; subst hS2; simp only [List.mem_cons, List.not_mem_nil, or_false]; intro b hb; rcases hb with rfl | rfl | rfl <;> omega
                      have HS2N : Hid (∀ b ∈ S2, (Value.slice ub l1.length uc').ownBlock ≠ some b) := by
                        show ∀ b ∈ S2, _
                        subst hS2
                        simp only [List.mem_cons, List.not_mem_nil, or_false]
                        intro b hb
                        rcases hb with rfl | rfl | rfl
                        · exact hug
                        · exact fun e => by have := own_row_le hur _ e; omega
                        · exact fun e => by have := own_row_le hur _ e; omega
                      have HSG : Hid (g ∈ S2) := by show g ∈ S2; subst hS2; simp
                      have s1 := keepS_cell (S := S2) (by subst hS2; simp) hcu
                      have s2 := keepS_cell (S := S2) (by subst hS2; simp) (row_of hx1 5 (.slice (some ⟨rb, ro, none⟩) x.reads.length a8) rfl)
                      have s3 := keepS_cell (S := S2) (by subst hS2; simp) (cell_keep (HBd.out w12 HBb.out) HCR.out)
                      clear hS2 hm5 hx1 hx2 hac
                      have HRE := Lib.hid hre
                      have HUR := Lib.hid hur
                      clear hre hur
                      go_upto_region 19 with fail
                      refine wp_region_mixS S2 (.one [0, 1, 2, 3, 4, 5, 6, 7, 8, 9, 10, 11, 12, 13, 14, 15, 16] 17 (tailOf [18, 19])) (fun j => decide (18 ≤ j)) (by kernel_rfl) (by kernel_rfl) rfl (by kernel_rfl) (fun _ d _ _ _ h => by cases d <;> exact h) ?_
                      have HBd2 : Hid (Below w12.heap.size w12 w12.drew) := (Below.refl _ _).drew
                      have M0 : Hid (∀ b ∈ S2, w12.drew.heap[b]? = w12.heap[b]?) := fun b _ => rfl
                      have HSZ0 : Hid (w12.drew.heap.size = w12.heap.size) := rfl
                      generalize w12.drew = w0 at *
                      refine mix_one (by simp only [opsOf, List.filterMap_cons, List.filterMap_nil, List.getElem?_toArray, List.getElem?_cons_succ, List.getElem?_cons_zero]; rfl) ⟨_, keepS_of M0.out⟩ ?_
                      change wpQuiet _ _ _ _ [_, _, _, _, _, _, _, _, _, _, _, _, _, _, _, _, _] _
                      (repeat (go_big_quiet_step (fail)))
                      refine wpQuiet_nil ?_
                      clear s1 s2 s3 hmin
                      refine mix_step rfl ?_
                      cases da with
                      | none =>
                        have hal0 : add.length = 0 := by
                          rcases Nat.eq_zero_or_pos add.length with h | h
                          · exact h
                          · obtain ⟨db, dO, e, _⟩ := atNum HA.out (List.getElem?_eq_getElem h); cases e
                        obtain rfl : m5 = 0 := by omega
                        clear hal0
                        try (simp only [Act.put, List.setIfInBounds_toArray, List.set_cons_succ, List.set_cons_zero, List.getElem_toArray, List.getElem_cons_succ, List.getElem_cons_zero])
                        refine wpList_append_nonec rfl (.tmp 122) (.tmp 127) 45 rfl W6.heap.size 40 i1 1 Tryd.underlying45 hj _ _ _ _ rfl (own_below HRE.out HBd2.out) rfl ?_
                        obtain ⟨w4, hw4⟩ : ∃ x : World, x = w0 := ⟨_, rfl⟩
                        rw [← hw4]
                        have hown' : w4.ownsRow W6.heap.size 40 1 (.slice ub rn uc') (rn + 0) ((l1.flatMap cellsNum).take (rn * 1) ++ (add.take 0).flatMap cellsNum) := by
                          rw [hw4]; simpa using own_below HRE.out HBd2.out
                        obtain ⟨v', hv'⟩ : ∃ v', v' = Value.slice ub rn uc' := ⟨_, rfl⟩
                        rw [← hv'] at hown' ⊢
                        have hkk : ∀ b, b < w12.heap.size → (Value.slice ub l1.length uc').ownBlock ≠ some b → w4.heap[b]? = w12.heap[b]? := fun b hbl _ => by rw [hw4]; exact HBd2.out.block b hbl
                        have hbk : ∀ b, v'.ownBlock = some b → (Value.slice ub l1.length uc').ownBlock = some b ∨ w12.heap.size ≤ b := fun b hb => .inl (by rw [hv'] at hb; cases ub <;> exact hb)
                        have hB4 : Below W6.heap.size W7 w4 := by rw [hw4]; exact HBb.out.trans (HBd2.out.mono hsz)
                        clear hw4 hv'
                        go_wp2_with fail
                        have hown3 : w4.ownsRow W6.heap.size 40 1 v' (l1.take rn ++ add.take 5).length ((l1.take rn ++ add.take 5).flatMap cellsNum) := by
                          have e : (l1.take rn ++ add.take 5).length = rn + 0 := by have := HM5E.out; simp; omega
                          rw [e, ← HM5.out, ← kNum_append, ← kNum_take]; exact hown'
                        have hbx4 : ∀ b ∈ S2, w4.heap[b]? = w12.heap[b]? := fun b hb => hkk b (HS2L.out b hb) (HS2N.out b hb)
                        have hokl : ∀ y ∈ l1.take rn ++ add.take 5, InU64 y := fun y hy => by
                          rcases List.mem_append.1 hy with h | h
                          · exact HOb.out.ok l1 (List.mem_of_getElem? (List.getElem?_set_self (a := l1) (i := n) (by rw [midI_len HFL.out hn]; exact hlt))) y (List.mem_of_mem_take h)
                          · exact HA.out.ok y (List.mem_of_mem_take h)
                        have HOc0 := (HV3.out ▸ HOb.out : OwnL W6.heap.size w12 (.slice (some ⟨g, 0, none⟩) vs3.length lc) vs3 ((midI A B n).set n l1))
                        have hN := HOc0.put (i := n) HUa.out hkk hown3 hbk hokl
                        rw [set_twice, HV3.out] at hN
                        have hfin : l1.take rn ++ add.take 5 = finI S add rn n l0 := by rw [finI, ← HL1.out, HQE.out]
                        rw [hfin, midI_set HFL.out HAN.out] at hN
                        have HN := Lib.hid hN
                        have HBN : Hid (Below W6.heap.size W7 (w4.setCell ⟨g, n, none⟩ v')) := hB4.setCell hgn' _
                        have c4 : w4.cell? ⟨g, n, none⟩ = some (.slice ub l1.length uc') := by rw [World.cell?_of_block (hbx4 g HSG.out)]; exact hcu
                        have hcur : ∃ cur, w4.heap[g]? = some (.cells cur 45 (0, 0)) := by
                          obtain ⟨cs, hr⟩ := own_row HOb.out.own (b := g) rfl; exact ⟨cs, (hbx4 g HSG.out).trans hr⟩
                        obtain ⟨cur, hcur⟩ := hcur
                        have f4 := frozen_of_row w4 g n _ _ hcur
                        obtain ⟨ub4, uc4, rfl, -⟩ := own_read hown'
                        clear hown3 hN hfin hokl hcur HOc0 hown' hbk
                        refine ⟨⟨_, keepS_of hbx4⟩, ?_⟩
                        clear hbx4 hkk hB4
                        refine mix_tail [18, 19] [_, _] _ _ rfl rfl ?_
                        simp only [Act.put, List.setIfInBounds_toArray, List.set_cons_succ, List.set_cons_zero, List.getElem_toArray, List.getElem_cons_succ, List.getElem_cons_zero]
                        go_wp2_with fail
                        go_roundw
                        case rel => exact ⟨n + 1, by omega, by go_num, ⟨_, by simpa using HV3.out, HN.out⟩, HBN.out⟩
                        case measure => simp [intOf]; omega
                      | some ad =>
                        have hnews : ∀ (j : Nat) (u : Value), ((add.take m5).flatMap cellsNum)[j]? = some u → w0.cell? (ad.add j) = some u := fun j u hj => by
                          have hjl := (List.getElem?_eq_some_iff.1 hj).1
                          rw [kNum_len, List.length_take] at hjl
                          have hx := List.getElem?_eq_getElem (l := add) (i := j) (by omega)
                          obtain ⟨db, dO, e, _, c, _⟩ := atNum HA.out hx
                          simp only [Option.some.injEq] at e
                          subst e
                          have hx2 : (add.take m5)[j]? = some add[j] := by rw [List.getElem?_take_of_lt (by omega)]; exact hx
                          rw [kNum_at hx2] at hj
                          cases hj
                          have := cell_keep ((bcomp HBB.out (HBd.out w12 HBb.out)).trans (HBd2.out.mono (by have := (bcomp HBB.out (HBd.out w12 HBb.out)).size; omega))) c
                          have e : (⟨db, dO, none⟩ : Addr).add j = ⟨db, dO + j, none⟩ := by first | (simp [Addr.add]; done) | (simp [Addr.add]; omega)
                          rw [e]; exact this
                        have hnl : ((add.take m5).flatMap cellsNum).length = m5 * 1 := by rw [kNum_len, List.length_take]; omega
                        have h1c : ∀ u ∈ (add.take m5).flatMap cellsNum, u.oneCell' = true := by
                          intro u hu
                          simp only [List.mem_flatMap] at hu
                          obtain ⟨y, _, hy⟩ := hu
                          simp [cellsNum] at hy
                          subst hy; rfl
                        have hrn2 : rn + m5 ≤ maxLen := by unfold maxLen; omega
                        try (simp only [Act.put, List.setIfInBounds_toArray, List.set_cons_succ, List.set_cons_zero, List.getElem_toArray, List.getElem_cons_succ, List.getElem_cons_zero])
                        refine wpList_append_own_at _ rfl (.tmp 122) (.tmp 127) 45 rfl W6.heap.size 40 i1 (.int .u64 0) 1 8 Tryd.underlying45 hj hy0 hy1 hy2 rfl (by decide) _ _ _ rfl (own_below HRE.out HBd2.out) ad m5 dc ((add.take m5).flatMap cellsNum) rfl hnl hnews h1c hrn2 (by omega) (by have := HSZ0.out; omega) ?_
                        intro v' w4 hown' hgrow _ hblk
                        have hkk : ∀ b, b < w12.heap.size → (Value.slice ub l1.length uc').ownBlock ≠ some b → w4.heap[b]? = w12.heap[b]? := fun b hbl hne => (hgrow.block b (by have := HSZ0.out; omega) (fun e => hne (by cases ub <;> exact e.symm))).trans (HBd2.out.block b hbl)
                        have hbk : ∀ b, v'.ownBlock = some b → (Value.slice ub l1.length uc').ownBlock = some b ∨ w12.heap.size ≤ b := fun b hb => by
                          rcases hblk with e | e
                          · left; rw [e] at hb; cases ub <;> exact hb
                          · right; rw [hb] at e; simp at e; have := HSZ0.out; omega
                        have hB4 : Below W6.heap.size W7 w4 := (HBb.out.trans (HBd2.out.mono hsz)).grown hgrow (by have := HSZ0.out; omega) (own_row_le HRE.out)
                        clear hnews hnl h1c hgrow hblk
                        go_wp2_with fail
                        have hown3 : w4.ownsRow W6.heap.size 40 1 v' (l1.take rn ++ add.take 5).length ((l1.take rn ++ add.take 5).flatMap cellsNum) := by
                          have e : (l1.take rn ++ add.take 5).length = rn + m5 := by have := HM5E.out; simp; omega
                          rw [e, ← HM5.out, ← kNum_append, ← kNum_take]; exact hown'
                        have hbx4 : ∀ b ∈ S2, w4.heap[b]? = w12.heap[b]? := fun b hb => hkk b (HS2L.out b hb) (HS2N.out b hb)
                        have hokl : ∀ y ∈ l1.take rn ++ add.take 5, InU64 y := fun y hy => by
                          rcases List.mem_append.1 hy with h | h
                          · exact HOb.out.ok l1 (List.mem_of_getElem? (List.getElem?_set_self (a := l1) (i := n) (by rw [midI_len HFL.out hn]; exact hlt))) y (List.mem_of_mem_take h)
                          · exact HA.out.ok y (List.mem_of_mem_take h)
                        have HOc0 := (HV3.out ▸ HOb.out : OwnL W6.heap.size w12 (.slice (some ⟨g, 0, none⟩) vs3.length lc) vs3 ((midI A B n).set n l1))
                        have hN := HOc0.put (i := n) HUa.out hkk hown3 hbk hokl
                        rw [set_twice, HV3.out] at hN
                        have hfin : l1.take rn ++ add.take 5 = finI S add rn n l0 := by rw [finI, ← HL1.out, HQE.out]
                        rw [hfin, midI_set HFL.out HAN.out] at hN
                        have HN := Lib.hid hN
                        have HBN : Hid (Below W6.heap.size W7 (w4.setCell ⟨g, n, none⟩ v')) := hB4.setCell hgn' _
                        have c4 : w4.cell? ⟨g, n, none⟩ = some (.slice ub l1.length uc') := by rw [World.cell?_of_block (hbx4 g HSG.out)]; exact hcu
                        have hcur : ∃ cur, w4.heap[g]? = some (.cells cur 45 (0, 0)) := by
                          obtain ⟨cs, hr⟩ := own_row HOb.out.own (b := g) rfl; exact ⟨cs, (hbx4 g HSG.out).trans hr⟩
                        obtain ⟨cur, hcur⟩ := hcur
                        have f4 := frozen_of_row w4 g n _ _ hcur
                        obtain ⟨ub4, uc4, rfl, -⟩ := own_read hown'
                        clear hown3 hN hfin hokl hcur HOc0 hown' hbk
                        refine ⟨⟨_, keepS_of hbx4⟩, ?_⟩
                        clear hbx4 hkk hB4
                        refine mix_tail [18, 19] [_, _] _ _ rfl rfl ?_
                        simp only [Act.put, List.setIfInBounds_toArray, List.set_cons_succ, List.set_cons_zero, List.getElem_toArray, List.getElem_cons_succ, List.getElem_cons_zero]
                        go_wp2_with fail
                        go_roundw
                        case rel => exact ⟨n + 1, by omega, by go_num, ⟨_, by simpa using HV3.out, HN.out⟩, HBN.out⟩
                        case measure => simp [intOf]; omega
                · obtain ⟨hk0, hm⟩ := hbi.1 rfl
                  clear hbi hk
                  obtain ⟨x0, hx0⟩ : ∃ x0, l0[k]? = some x0 := ⟨_, List.getElem?_eq_getElem hk0⟩
                  have hP := HP.out
                  rw [if_pos hm] at hP
                  have hpk : (pertI S add n l0)[k]? = some (addI S add n k x0) := by rw [hP, List.getElem?_mapIdx, hx0]; rfl
                  have hmk : (midL (pertI S add n l0) l0 k)[k]? = some x0 := by rw [midL_at HPL.out hk0]; exact hx0
                  have HMS := Lib.hid (midL_set HPL.out hpk)
                  have hq : (n + k) % add.length < add.length := Nat.mod_lt _ hm.1
                  obtain ⟨yv, hy⟩ : ∃ y, add[(n + k) % add.length]? = some y := ⟨_, List.getElem?_eq_getElem hq⟩
                  have HADD : Hid (addI S add n k x0 = IntKind.u64.wrap (x0 + IntKind.u64.wrap (yv * 2 ^ S.width.toNat))) := by show _ = _; unfold addI; rw [List.getD_eq_getElem?_getD, hy]; rfl
                  obtain ⟨db, dO, rfl, _, cD, hyin⟩ := atNum HA.out hy
                  have hixI : ((n : Int) + (k : Int)) % (add.length : Int) = (((n + k) % add.length : Nat) : Int) := by simp
                  obtain ⟨ix, hix⟩ : ∃ ix, (n + k) % add.length = ix := ⟨_, rfl⟩
                  rw [hix] at cD hixI hq
                  obtain ⟨ub, uc2, cur, e2, hcur, hub, hcl, hfr⟩ := own_in HUR.out (by rw [kNum_len, HLK.out]; omega)
                  rw [HLK.out] at e2
                  simp only [Value.slice.injEq, true_and] at e2
                  obtain ⟨rfl, rfl⟩ := e2
                  have i1c := ext_cell hcu
                  have i2c := ext_cell y0
                  have i3c := ext_cell (cell_keep (bcomp HBB.out (HBd.out wc HB10.out)) cD)
                  have i4c := ext_cell (hcl k _ (kNum_at hmk))
                  have hw3 : S.width < 64 := hm.2
                  have hk40 : k ≤ 40 := by omega
                  have hal0 : 0 < add.length := hm.1
                  have hne0 : ¬ (add.length : Int) = 0 := by omega
                  have hcur' := Lib.hid hcur
                  have HCL := Lib.hid (hcl k _ (kNum_at hmk))
                  have hx0in : InU64 x0 := HO10.out.ok _ (List.mem_of_getElem? HAT.out) x0 (List.mem_of_getElem? hmk)
                  obtain ⟨w13, rfl⟩ : ∃ x : World, x = wc := ⟨_, rfl⟩
                  clear hP hpk hmk hx0 hy hix hcl hfr hcur hcu y0 cD HP
                  go_upto_region 16 with fail
                  (refine wp_region_calm_tail 21 (by kernel_rfl) (by kernel_rfl) ?_; simp only [List.take_succ_cons, List.take_zero, List.drop_succ_cons, List.drop_zero]; (repeat (go_big_quiet_step (fail))); refine wpQuiet_nil ?_; intro wc hwc)
                  have hcw := (hwc.block ub (Array.getElem?_eq_some_iff.1 hcur'.out).1).trans hcur'.out
                  have c1 := cell_keep hwc HCL.out
                  have f1 := frozen_of_row wc ub k _ _ hcw
                  have hse := (HO10.out.keep hwc).setElem HU.out HAT.out k (addI S add n k x0) (wrap_in _)
                  rw [set_twice, HMS.out, HADD.out] at hse
                  have HSE := Lib.hid hse
                  have HBE : Hid (Below W6.heap.size W7 (wc.setCell ⟨ub, k, none⟩ (.int .u64 (IntKind.u64.wrap (x0 + IntKind.u64.wrap (yv * 2 ^ S.width.toNat)))))) := (HB10.out.trans (hwc.mono (by have := HB10.out.size; omega))).setCell hub _
                  clear hse hcw i1c i2c i3c i4c
                  go_wp2_with fail
                  go_roundw
                  case rel => exact ⟨k + 1, by rw [if_pos hm]; omega, by go_num, HSE.out, HBE.out⟩
                  case measure => simp [intOf]; omega
          · obtain rfl : n = B.length := by omega
            have hn1 : ¬ ((B.length : Nat) : Int) < (vs.length : Int) := by have := HEQ.out; omega
            have hoe : OwnL W6.heap.size w9 (.slice la vs.length lc) vs2 A := by rw [midI_end HFL.out] at ho; exact ho
            have hAl : ∀ l ∈ A, l.length ≤ 1000000 := by
              intro l hl
              obtain ⟨i, hi⟩ := List.getElem?_of_mem hl
              rw [← HAA.out, finsI, List.getElem?_mapIdx] at hi
              cases hB : B[i]? with
              | none => rw [hB] at hi; cases hi
              | some l0 =>
                rw [hB] at hi
                simp only [Option.map_some, Option.some.injEq] at hi
                subst hi
                have := HRB.out i
                simp only [finI, List.length_append, List.length_take]
                omega
            have hA32 : A.length ≤ 1000000 := by have := HEQ.out; have := HFL.out; omega
            have hie := (hoe.rd hA32 hAl).forget
            have HRU2 := Lib.hid ((machRun S _ _ _ _ _ A 150 w9 (HR6.out.keep (HBd.out w9 hb)) hie (HL6.out.keep (HBd.out w9 hb)) ⟨by omega, by omega⟩ hA32).mono fun _ _ h => runIs h)
            rw [HFIN.out, HERN.out _ (by have := HEQ.out; have := HFL.out; omega)] at HRU2
            obtain ⟨hx1, hx2⟩ := HK.out w9 hb
            have HB9 := Lib.hid hb
            have hv2' := Lib.hid hv2
            clear ho hoe hAl hie hx1 hb hv2 hlt

            have y0 := row_of hx2 0 (.int .i64 S.width) rfl
            have y1 := row_of hx2 1 (.int .i64 S.regs) rfl
            have y2 := row_of hx2 2 (.slice caS S.chans.length ccS) rfl
            have y3 := row_of hx2 3 (.slice saS S.sites.length scS) rfl
            have y4 := row_of hx2 4 (.slice aaS S.arrays.length acS) rfl
            have y5 := row_of hx2 5 (.slice kaS S.code.length kcS) rfl
            go_upto_region 21 with (first | (go_at_call 25; refine HRU2.out.mono ?_; rintro e z2 ⟨b1, b2, b3, b4, b5, b6, b7, b8, rfl, hrz, hz⟩; have HRZ := Lib.hid hrz; have HZ := Lib.hid hz; have HN := Lib.hid (heap_alloc_new z2 (.cells #[.int .u8 0, .int .i64 0, .slice none 0 0, .slice none 0 0, .slice none 0 0, .slice none 0 0] 49)); clear hrz hz y0 y1 y2 y3 y4 y5 hx2) | (refine wpList_store_row rfl 49 (.tmp 12) (.tmp 134) rfl z2.heap.size #[.int .u8 x.status, .int .i64 x.steps, .slice b1 x.outs.length b2, .slice b3 x.rels.length b4, .slice b5 x.brs.length b6, .slice b7 x.reads.length b8] rfl rfl 49 #[.int .u8 0, .int .i64 0, .slice none 0 0, .slice none 0 0, .slice none 0 0, .slice none 0 0] ?hrb (by as_aux_lemma => kernel_rfl) (by as_aux_lemma => kernel_rfl) (by as_aux_lemma => kernel_rfl) ?_; exact HN.out))
            try simp only [Act.put]
            have hbn : Below z2.heap.size z2 ((z2.alloc (.cells #[.int .u8 0, .int .i64 0, .slice none 0 0, .slice none 0 0, .slice none 0 0, .slice none 0 0] 49)).setRow z2.heap.size #[.int .u8 x.status, .int .i64 x.steps, .slice b1 x.outs.length b2, .slice b3 x.rels.length b4, .slice b5 x.brs.length b6, .slice b7 x.reads.length b8]) := below_row ((Below.refl z2.heap.size z2).alloc (Nat.le_refl _) _) (Nat.le_refl _) _
            have HG2 : Hid (((z2.alloc (.cells #[.int .u8 0, .int .i64 0, .slice none 0 0, .slice none 0 0, .slice none 0 0, .slice none 0 0] 49)).setRow z2.heap.size #[.int .u8 x.status, .int .i64 x.steps, .slice b1 x.outs.length b2, .slice b3 x.rels.length b4, .slice b5 x.brs.length b6, .slice b7 x.reads.length b8]).heap[z2.heap.size]? = some (.cells #[.int .u8 x.status, .int .i64 x.steps, .slice b1 x.outs.length b2, .slice b3 x.rels.length b4, .slice b5 x.brs.length b6, .slice b7 x.reads.length b8] 49 (0, 0))) := setRow_heap _ _ _ _ _ _ HN.out
            have HT2 := Lib.hid (HRZ.out.keep hbn)
            have HB10 := Lib.hid (bcomp HZ.out hbn)
            clear hbn HN HRZ HZ HRU2
            generalize ((z2.alloc (.cells #[.int .u8 0, .int .i64 0, .slice none 0 0, .slice none 0 0, .slice none 0 0, .slice none 0 0] 49)).setRow z2.heap.size #[.int .u8 x.status, .int .i64 x.steps, .slice b1 x.outs.length b2, .slice b3 x.rels.length b4, .slice b5 x.brs.length b6, .slice b7 x.reads.length b8]) = W12 at *
            have HB612 := Lib.hid ((HBd.out w9 HB9.out).trans (HB10.out.mono (by have := (HBd.out w9 HB9.out).size; omega)))
            have HG1' := Lib.hid ((HB612.out.block _ hlt1).trans HG1.out)
            have HT1' := Lib.hid (HT1.out.keep HB612.out)
            have HBE := Lib.hid (bcomp HBB.out HB612.out)
            have HL12 := Lib.hid (HL6.out.keep HB612.out)
            clear HRA HRB HFIN HK HO7 HB7 HO HBr HIL HAA HFL HEQ HB9 HB10 HG1 HT1 HR6 HL6 HBd HERN HAW
            have HAW := Lib.hid (fun (w' : World) (hb : Below W12.heap.size W12 w') => awake_any w' (HL12.out.keep hb))
            have HEX := Lib.hid (fun (w' : World) (hb : Below W12.heap.size W12 w') => equalTrace x x _ _ _ _ _ _ _ _ w' (HT1'.out.keep hb) (HT2.out.keep hb))
            rw [eqT_refl] at HEX
            have her1 : ((0 : Int) == 0) = true := rfl
            have x0 := row_of HG1'.out 0 (.int .u8 x.status) rfl
            have x1 := row_of HG1'.out 1 (.int .i64 x.steps) rfl
            have x2 := row_of HG1'.out 2 (.slice a1 x.outs.length a2) rfl
            have x3 := row_of HG1'.out 3 (.slice a3 x.rels.length a4) rfl
            have x4 := row_of HG1'.out 4 (.slice a5 x.brs.length a6) rfl
            have x5 := row_of HG1'.out 5 (.slice a7 x.reads.length a8) rfl
            have y0 := row_of HG2.out 0 (.int .u8 x.status) rfl
            have y1 := row_of HG2.out 1 (.int .i64 x.steps) rfl
            have y2 := row_of HG2.out 2 (.slice b1 x.outs.length b2) rfl
            have y3 := row_of HG2.out 3 (.slice b3 x.rels.length b4) rfl
            have y4 := row_of HG2.out 4 (.slice b5 x.brs.length b6) rfl
            have y5 := row_of HG2.out 5 (.slice b7 x.reads.length b8) rfl
            go_wp2_with (first | (go_at_call 19; refine (HEX.out _ (Below.refl _ _)).mono ?_; rintro e z ⟨rfl, hz⟩; have HZ := Lib.hid hz; clear hz; clear x0 x1 x2 x3 x4 x5 y0 y1 y2 y3 y4 y5) | (go_at_call 17; refine (HAW.out _ HZ.out).mono ?_; rintro e z' ⟨rfl, hz'⟩; have HZ' := Lib.hid (bcomp HZ.out hz'); clear hz'))
            go_ret
            exact ⟨rfl, bcomp HBE.out HZ'.out⟩
end Go.Proofs.YthmdioldnnhidaaDoor
