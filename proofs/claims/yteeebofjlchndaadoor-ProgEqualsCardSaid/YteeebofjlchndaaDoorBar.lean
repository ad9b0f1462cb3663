/- Contract of Bare: a copy of a program without positions. Condition: the program reads. -/
import Derived.Test.YteeebofjlchndaaDoorPos
set_option linter.unusedVariables false
set_option linter.unusedSimpArgs false
namespace Go.Proofs.YteeebofjlchndaaDoor
open Go.ChangeShapes Go.WideShapes Go.ChangeAt Go.RowKit
theorem zero64 : InI64 0 := by unfold InI64; omega
def Zero (a b : Int) : Prop := a = 0 ∧ b = 0
theorem bareI_done {l : List InstrD} (h : DC Zero l l.length) : l.map bareI = l := by
  apply List.ext_getElem?
  intro i
  rw [List.getElem?_map]
  cases hx : l[i]? with
  | none => rfl
  | some x =>
    obtain ⟨h1, h2⟩ := h i x (List.getElem?_eq_some_iff.1 hx).1 hx
    simp only [Option.map_some, bareI, Option.some.injEq]
    cases x
    simp only at h1 h2
    subst h1 h2
    rfl
theorem bareF_done {l : List FuncD} (h : DF Zero l l.length) : l.map bareF = l := by
  apply List.ext_getElem?
  intro i
  rw [List.getElem?_map]
  cases hx : l[i]? with
  | none => rfl
  | some x =>
    obtain ⟨⟨h1, h2⟩, h3⟩ := h i x (List.getElem?_eq_some_iff.1 hx).1 hx
    have h4 := bareI_done h3
    simp only [Option.map_some, bareF, Option.some.injEq, h4]
    cases x
    simp only at h1 h2
    subst h1 h2
    rfl
theorem Al.same {g : Nat → Prop} {w w' : World} {fv mv : Value} {n : Nat} {l : List FuncD} (h : Al w fv mv n) (hr : RdFuncs (some g) w fv l) (hn : l.length = n) (hs : ∀ b, g b → w'.heap[b]? = w.heap[b]?) : Al w' fv mv n := by
  refine ⟨h.1, h.2.1, fun b s m c i v e hi hv => ?_⟩
  subst e
  obtain ⟨x, hx⟩ : ∃ x, l[i]? = some x := ⟨_, List.getElem?_eq_getElem (by omega)⟩
  obtain ⟨a', c', e, _, hr⟩ := hr
  simp only [Value.slice.injEq] at e
  obtain ⟨rfl, -, -⟩ := e
  obtain ⟨b', o', pv, cv, e, hf, -⟩ := hr i x hx
  simp only [Option.some.injEq, Addr.mk.injEq] at e
  obtain ⟨rfl, -, -⟩ := e
  rw [World.cell?_of_block (w := w) (hs b (hf g rfl).1)] at hv
  exact h.2.2 _ _ _ _ _ _ rfl hi hv
theorem al_of {w : World} {base : Nat} {a : Option Addr} {n c : Nat} {mv : Value} {P : List (FuncD × Value × Value)} (hown : w.ownsRow base 51 5 (.slice a n c) n (P.flatMap funCells)) (hP : P.length = n) (hnil : ∀ q ∈ P, zeroOff q.2.2) (hz : zeroOff mv) : Al w (.slice a n c) mv n := by
  refine ⟨own_zero hown, hz, fun b s m c' i v e hi hv => ?_⟩
  simp only [Value.slice.injEq] at e
  obtain ⟨rfl, -, -⟩ := e
  obtain ⟨q, hq⟩ : ∃ q, P[i]? = some q := ⟨_, List.getElem?_eq_getElem (by omega)⟩
  obtain ⟨a2, c2, e2, hr⟩ := own_read hown
  have hx : (P.flatMap funCells)[i * 5 + 2]? = some q.2.2 := by rw [flat_get funCells 5 (fun _ => rfl) P i 2 q hq (by omega)]; rfl
  obtain ⟨g, e3, -, hcell⟩ := hr _ _ hx
  simp only [Value.slice.injEq] at e2
  obtain ⟨e4, -, -⟩ := e2
  rw [e3] at e4
  simp only [Option.some.injEq, Addr.mk.injEq] at e4
  obtain ⟨rfl, -, -⟩ := e4
  rw [Nat.zero_add] at hcell
  rw [hcell] at hv
  cases hv
  exact hnil q (List.mem_of_getElem? hq)
set_option maxRecDepth 100000 in
set_option maxHeartbeats 6400000 in
theorem bare_prog (p : ProgD) (cv av fv mv : Value) (w : World) (h : RdProg none w p cv av fv mv) :
    Calls Tryd.prog 14 #[progV p cv av fv mv] w fun e w' => ∃ cv' av' fv' mv', e = .returned (progV (bareP p) cv' av' fv' mv') ∧ PS (upFrom w.heap.size) w' (bareP p) p cv' av' fv' mv' ∧ Below w.heap.size w w' := by
  obtain ⟨hrc, hra, hrf, hrm, hrw⟩ := id h
  obtain ⟨ac0, kc0, rfl, -, -⟩ := id hrc
  obtain ⟨aa0, ka0, rfl, -, -⟩ := id hra
  obtain ⟨af0, kf0, rfl, -, -⟩ := id hrf
  obtain ⟨am0, km0, rfl, -, -⟩ := id hrm
  have H := Lib.hid h
  have HW := Lib.hid hrw
  clear h hrc hra hrf hrm hrw
  go_enter Tryd.func14, Tryd.ntmps14
  go_upto_region 1 with fail
  have hb0 := ((Below.refl w.heap.size w).alloc (Nat.le_refl _) (.cells #[.int .i64 p.width, .slice ac0 p.chans.length kc0, .slice aa0 p.arrays.length ka0, .slice af0 p.funcs.length kf0, .slice am0 p.main.length km0] 27)).alloc (by simp) (.cells #[.int .i64 0, .slice none 0 0, .slice none 0 0, .slice none 0 0, .slice none 0 0] 27)
  have g0 := heap_alloc2_old w (.cells #[.int .i64 p.width, .slice ac0 p.chans.length kc0, .slice aa0 p.arrays.length ka0, .slice af0 p.funcs.length kf0, .slice am0 p.main.length km0] 27) (.cells #[.int .i64 0, .slice none 0 0, .slice none 0 0, .slice none 0 0, .slice none 0 0] 27)
  have g1 := heap_alloc2_new w (.cells #[.int .i64 p.width, .slice ac0 p.chans.length kc0, .slice aa0 p.arrays.length ka0, .slice af0 p.funcs.length kf0, .slice am0 p.main.length km0] 27) (.cells #[.int .i64 0, .slice none 0 0, .slice none 0 0, .slice none 0 0, .slice none 0 0] 27)
  generalize ((w.alloc (.cells #[.int .i64 p.width, .slice ac0 p.chans.length kc0, .slice aa0 p.arrays.length ka0, .slice af0 p.funcs.length kf0, .slice am0 p.main.length km0] 27)).alloc (.cells #[.int .i64 0, .slice none 0 0, .slice none 0 0, .slice none 0 0, .slice none 0 0] 27)) = W0 at *
  have G0 := Lib.hid g0
  have G1 := Lib.hid g1
  have HB0 := Lib.hid hb0
  have hs0 : w.heap.size + 1 < W0.heap.size := (Array.getElem?_eq_some_iff.1 g1).1
  have l0 := row_of g0 0 _ rfl
  have l1 := row_of g0 1 _ rfl
  have l2 := row_of g0 2 _ rfl
  have l3 := row_of g0 3 _ rfl
  have l4 := row_of g0 4 _ rfl
  clear g0 g1 hb0
  have C := copyProgQ p _ _ _ _ W0 (H.out.keep HB0.out)
  have HC := Lib.hid C
  clear C
  go_wp2_with (first
    | (go_at_call 10; refine HC.out.mono ?_; rintro e w1 ⟨cv', av', fv', mv', m, rfl, r1, r2, r3, r4, hm, ⟨P, hP, hown, hnil⟩, hzm, hb1⟩; obtain ⟨ac, kc, rfl, -⟩ := id r1; obtain ⟨aa, ka, rfl, -⟩ := id r2; obtain ⟨af, kf, rfl, ⟨hlf, -⟩, -⟩ := id r3; obtain ⟨am, km, rfl, ⟨hlm, -⟩, -⟩ := id r4; clear l0 l1 l2 l3 l4; have hg := (hb1.block w.heap.size (by omega)).trans G0.out)
    | (refine wpList_store_row rfl 27 (.tmp 1) (.tmp 7) rfl w.heap.size #[.int .i64 p.width, .slice ac p.chans.length kc, .slice aa p.arrays.length ka, .slice af p.funcs.length kf, .slice am p.main.length km] rfl rfl 27 #[.int .i64 p.width, .slice ac0 p.chans.length kc0, .slice aa0 p.arrays.length ka0, .slice af0 p.funcs.length kf0, .slice am0 p.main.length km0] ?h2 ?s2 ?s3 ?s4 ?_; exact hg; kernel_rfl; kernel_rfl; kernel_rfl))
  have hPl : P.length = p.funcs.length := by rw [← hP, List.length_map]
  have hrow : ∀ b, b ≠ w.heap.size → (w1.setRow w.heap.size #[.int .i64 p.width, .slice ac p.chans.length kc, .slice aa p.arrays.length ka, .slice af p.funcs.length kf, .slice am p.main.length km]).heap[b]? = w1.heap[b]? := fun b hb => setRow_other _ _ _ _ hb
  have hal := (al_of hown hPl hnil hzm).same (g := within W0.heap.size m) (w' := w1.setRow w.heap.size #[.int .i64 p.width, .slice ac p.chans.length kc, .slice aa p.arrays.length ka, .slice af p.funcs.length kf, .slice am p.main.length km]) r3 rfl (fun b hb => by obtain ⟨u, v⟩ := hb; exact hrow b (by omega))
  have HPS : Hid (PS (upFrom (w.heap.size + 2)) (w1.setRow w.heap.size #[.int .i64 p.width, .slice ac p.chans.length kc, .slice aa p.arrays.length ka, .slice af p.funcs.length kf, .slice am p.main.length km]) p p (.slice ac p.chans.length kc) (.slice aa p.arrays.length ka) (.slice af p.funcs.length kf) (.slice am p.main.length km)) := by
    refine ⟨⟨RdStrs.same r1 (fun b hb _ => ?_) (fun b _ hb => ?_), RdArrs.same r2 (fun b hb _ => ?_) (fun b _ hb => ?_), RdFuncs.same r3 (fun b hb _ => ?_) (fun b _ hb => ?_), RdInstrs.same r4 (fun b hb _ => ?_) (fun b _ hb => ?_), HW.out⟩, hal, rfl⟩
    · obtain ⟨u, v⟩ := hb; exact hrow b (by omega)
    · obtain ⟨u, v⟩ := hb; show w.heap.size + 2 ≤ b; omega
    · obtain ⟨u, v⟩ := hb; exact hrow b (by omega)
    · obtain ⟨u, v⟩ := hb; show w.heap.size + 2 ≤ b; omega
    · obtain ⟨u, v⟩ := hb; exact hrow b (by omega)
    · obtain ⟨u, v⟩ := hb; show w.heap.size + 2 ≤ b; omega
    · have : m ≤ b := hb; exact hrow b (by omega)
    · have : m ≤ b := hb; show w.heap.size + 2 ≤ b; omega
  have HR0 : Hid ((w1.setRow w.heap.size #[.int .i64 p.width, .slice ac p.chans.length kc, .slice aa p.arrays.length ka, .slice af p.funcs.length kf, .slice am p.main.length km]).heap[w.heap.size]? = some (.cells #[.int .i64 p.width, .slice ac p.chans.length kc, .slice aa p.arrays.length ka, .slice af p.funcs.length kf, .slice am p.main.length km] 27 (0, 0))) := setRow_heap _ _ _ _ _ _ hg
  have HR1 : Hid ((w1.setRow w.heap.size #[.int .i64 p.width, .slice ac p.chans.length kc, .slice aa p.arrays.length ka, .slice af p.funcs.length kf, .slice am p.main.length km]).heap[w.heap.size + 1]? = some (.cells #[.int .i64 0, .slice none 0 0, .slice none 0 0, .slice none 0 0, .slice none 0 0] 27 (0, 0))) := (hrow _ (by omega)).trans ((hb1.block _ hs0).trans G1.out)
  have HB2 : Hid (Below w.heap.size w (w1.setRow w.heap.size #[.int .i64 p.width, .slice ac p.chans.length kc, .slice aa p.arrays.length ka, .slice af p.funcs.length kf, .slice am p.main.length km])) := below_row (bcomp HB0.out hb1) (Nat.le_refl _) _
  clear hPl hrow hal r1 r2 r3 r4 hm P hP hown hnil hzm hb1 hg G0 G1 HB0 hs0 H
  generalize w1.setRow w.heap.size #[.int .i64 p.width, .slice ac p.chans.length kc, .slice aa p.arrays.length ka, .slice af p.funcs.length kf, .slice am p.main.length km] = W2 at *
  go_loopw [3, 4] (fun i _ wr => ∃ (k : Nat) (q : ProgD), k ≤ p.funcs.length ∧ i = .int .i64 k ∧ PS (upFrom (w.heap.size + 2)) wr q p (.slice ac p.chans.length kc) (.slice aa p.arrays.length ka) (.slice af p.funcs.length kf) (.slice am p.main.length km) ∧ DF Zero q.funcs k ∧ wr.heap[w.heap.size]? = some (.cells #[.int .i64 p.width, .slice ac p.chans.length kc, .slice aa p.arrays.length ka, .slice af p.funcs.length kf, .slice am p.main.length km] 27 (0, 0)) ∧ wr.heap[w.heap.size + 1]? = some (.cells #[.int .i64 0, .slice none 0 0, .slice none 0 0, .slice none 0 0, .slice none 0 0] 27 (0, 0)) ∧ Below w.heap.size w wr) (fun i _ _ => p.funcs.length - (intOf i).toNat)
  case atStart => exact ⟨0, p, Nat.zero_le _, rfl, HPS.out, fun j f hj => by omega, HR0.out, HR1.out, HB2.out⟩
  case round =>
    obtain ⟨k, q, hk, rfl, hps, hdf, hr0, hr1, hb⟩ := hrel
    have e3 := row_of hr0 3 _ rfl
    have HS := Lib.hid (And.intro hdf (And.intro hr0 (And.intro hr1 hb)))
    have HP := Lib.hid hps
    clear hps hdf hr0 hr1 hb HPS HR0 HR1 HB2
    by_cases hlt : k < p.funcs.length
    · have hlt' : (k : Int) < (p.funcs.length : Int) := by omega
      have hql : q.funcs.length = p.funcs.length := bareP_funcs HP.out.2.2
      obtain ⟨f, hf⟩ : ∃ f, q.funcs[k]? = some f := ⟨_, List.getElem?_eq_getElem (by omega)⟩
      obtain ⟨a', c', e', -, hr⟩ := id HP.out.1.2.2.1
      simp only [Value.slice.injEq] at e'
      obtain ⟨rfl, -, rfl⟩ := e'
      obtain ⟨bf, o, pv, cv, rfl, hfr, -, -, c2, c3, c4, -, r2, -⟩ := hr k f hf
      obtain rfl : o = 0 := HP.out.2.1.1 _ _ _ _ _ rfl
      obtain ⟨ca, cc, rfl, ⟨hlc, -⟩, -⟩ := id r2
      rw [Nat.zero_add] at c2 c3 c4
      have c4' : wr.cell? ⟨bf, k * 5 + 3 + 1, none⟩ = some (.int .i64 f.col) := c4
      have fz3 := hfr.frozen (k * 5 + 3)
      have fz4 := hfr.frozen (k * 5 + 3 + 1)
      have fz4' := hfr.frozen (k * 5 + 4)
      have hbf : w.heap.size + 2 ≤ bf := (hfr _ rfl).1
      have HF := Lib.hid (And.intro hf hql)
      clear hr r2 hf hql
      go_upto_region 6 with fail
      obtain ⟨hf, hql⟩ := HF.out
      obtain ⟨hdf, hr0, hr1, hb⟩ := HS.out
      have hps1 : PS (upFrom (w.heap.size + 2)) ((wr.setCell ⟨bf, k * 5 + 3, none⟩ (.int .i64 0)).setCell ⟨bf, k * 5 + 3 + 1, none⟩ (.int .i64 0)) { q with funcs := q.funcs.modify k (setPF 0 0) } p (.slice ac p.chans.length kc) (.slice aa p.arrays.length ka) (.slice (some ⟨bf, 0, none⟩) p.funcs.length kf) (.slice am p.main.length km) := PS.putFun (z1 := 0) (z2 := 0) HP.out (by omega) zero64 zero64
      have hk3 : ∀ b, b ≠ bf → ((wr.setCell ⟨bf, k * 5 + 3, none⟩ (.int .i64 0)).setCell ⟨bf, k * 5 + 3 + 1, none⟩ (.int .i64 0)).heap[b]? = wr.heap[b]? := fun b hb => (heap_setCell_other _ _ _ _ (by simp; omega)).trans (heap_setCell_other _ _ _ _ (by simp; omega))
      have hc2 : ((wr.setCell ⟨bf, k * 5 + 3, none⟩ (.int .i64 0)).setCell ⟨bf, k * 5 + 3 + 1, none⟩ (.int .i64 0)).cell? ⟨bf, k * 5 + 2, none⟩ = some (.slice ca f.code.length cc) := putPos_cell (.inr ⟨by omega, by omega⟩) c2
      have HI : Hid (PS (upFrom (w.heap.size + 2)) ((wr.setCell ⟨bf, k * 5 + 3, none⟩ (.int .i64 0)).setCell ⟨bf, k * 5 + 3 + 1, none⟩ (.int .i64 0)) { q with funcs := q.funcs.modify k (setPF 0 0) } p (.slice ac p.chans.length kc) (.slice aa p.arrays.length ka) (.slice (some ⟨bf, 0, none⟩) p.funcs.length kf) (.slice am p.main.length km) ∧ DF Zero (q.funcs.modify k (setPF 0 0)) k ∧ (q.funcs.modify k (setPF 0 0))[k]? = some (setPF 0 0 f) ∧ ((wr.setCell ⟨bf, k * 5 + 3, none⟩ (.int .i64 0)).setCell ⟨bf, k * 5 + 3 + 1, none⟩ (.int .i64 0)).cell? ⟨bf, k * 5 + 2, none⟩ = some (.slice ca f.code.length cc) ∧ ((wr.setCell ⟨bf, k * 5 + 3, none⟩ (.int .i64 0)).setCell ⟨bf, k * 5 + 3 + 1, none⟩ (.int .i64 0)).heap[w.heap.size]? = some (.cells #[.int .i64 p.width, .slice ac p.chans.length kc, .slice aa p.arrays.length ka, .slice (some ⟨bf, 0, none⟩) p.funcs.length kf, .slice am p.main.length km] 27 (0, 0)) ∧ ((wr.setCell ⟨bf, k * 5 + 3, none⟩ (.int .i64 0)).setCell ⟨bf, k * 5 + 3 + 1, none⟩ (.int .i64 0)).heap[w.heap.size + 1]? = some (.cells #[.int .i64 0, .slice none 0 0, .slice none 0 0, .slice none 0 0, .slice none 0 0] 27 (0, 0)) ∧ Below w.heap.size w ((wr.setCell ⟨bf, k * 5 + 3, none⟩ (.int .i64 0)).setCell ⟨bf, k * 5 + 3 + 1, none⟩ (.int .i64 0))) :=
        ⟨hps1, hdf.pos (PosFs.modify _ _ _ _) (modify_bareF _ _ _ _) ⟨rfl, rfl⟩, by rw [modify_get, if_pos rfl, hf]; rfl, hc2, (hk3 _ (by omega)).trans hr0, (hk3 _ (by omega)).trans hr1, (hb.setCell (by show w.heap.size ≤ bf; omega) _).setCell (by show w.heap.size ≤ bf; omega) _⟩
      clear hf hql hdf hr0 hr1 hb hps1 hk3 hc2 HP HS HF c2 c3 c4 c4' fz3 fz4 fz4' e3 hfr
      generalize ((wr.setCell ⟨bf, k * 5 + 3, none⟩ (.int .i64 0)).setCell ⟨bf, k * 5 + 3 + 1, none⟩ (.int .i64 0)) = W3 at *
      go_wp2_with fail
      go_loopw [4] (fun kk wi => ∃ (j : Nat) (q' : ProgD) (f' : FuncD), j ≤ f.code.length ∧ kk = .int .i64 j ∧ PS (upFrom (w.heap.size + 2)) wi q' p (.slice ac p.chans.length kc) (.slice aa p.arrays.length ka) (.slice (some ⟨bf, 0, none⟩) p.funcs.length kf) (.slice am p.main.length km) ∧ DF Zero q'.funcs k ∧ q'.funcs[k]? = some f' ∧ Zero f'.line f'.col ∧ DC Zero f'.code j ∧ f'.code.length = f.code.length ∧ wi.cell? ⟨bf, k * 5 + 2, none⟩ = some (.slice ca f.code.length cc) ∧ wi.heap[w.heap.size]? = some (.cells #[.int .i64 p.width, .slice ac p.chans.length kc, .slice aa p.arrays.length ka, .slice (some ⟨bf, 0, none⟩) p.funcs.length kf, .slice am p.main.length km] 27 (0, 0)) ∧ wi.heap[w.heap.size + 1]? = some (.cells #[.int .i64 0, .slice none 0 0, .slice none 0 0, .slice none 0 0, .slice none 0 0] 27 (0, 0)) ∧ Below w.heap.size w wi) (fun kk _ => f.code.length - (intOf kk).toNat)
      case atStart =>
        obtain ⟨h1, h2, h3, h4, h5, h6, h7⟩ := HI.out
        exact ⟨0, _, _, Nat.zero_le _, rfl, h1, h2, h3, ⟨rfl, rfl⟩, (fun j x hj => by omega), rfl, h4, h5, h6, h7⟩
      case round =>
        obtain ⟨j, q', f', hj, rfl, hps, hdf, hf', hz', hdc, hlen, hc2, hr0, hr1, hb⟩ := hrel
        obtain ⟨wi, rfl⟩ : ∃ x : World, x = wr := ⟨_, rfl⟩
        have e3 := row_of hr0 3 _ rfl
        have HP := Lib.hid hps
        have HS := Lib.hid (And.intro hdf (And.intro hf' (And.intro hz' (And.intro hdc (And.intro hlen (And.intro hr0 (And.intro hr1 hb)))))))
        clear hps hdf hf' hz' hdc hlen hr0 hr1 hb HI
        by_cases hjl : j < f.code.length
        · have hjl' : (j : Int) < (f.code.length : Int) := by omega
          obtain ⟨hdf, hf', hz', hdc, hlen, hr0, hr1, hb⟩ := HS.out
          obtain ⟨a', c', e', -, hr⟩ := id HP.out.1.2.2.1
          simp only [Value.slice.injEq] at e'
          obtain ⟨rfl, -, -⟩ := e'
          obtain ⟨b', o', pv', cv', e2, hfr, -, -, x2, -, -, -, r2, -⟩ := hr k f' hf'
          simp only [Option.some.injEq, Addr.mk.injEq, and_true] at e2
          obtain ⟨rfl, rfl⟩ := e2
          rw [Nat.zero_add, hc2] at x2
          cases x2
          have hzo := HP.out.2.1.2.2 bf none _ _ k _ rfl hlt hc2
          obtain ⟨a3, c3, e3', -, hr3⟩ := id r2
          simp only [Value.slice.injEq] at e3'
          obtain ⟨rfl, -, -⟩ := e3'
          obtain ⟨x, hx⟩ : ∃ x, f'.code[j]? = some x := ⟨_, List.getElem?_eq_getElem (by omega)⟩
          obtain ⟨bc, oc, av, rfl, hfc, -, -, -, -, -, d5, d6, -⟩ := hr3 j x hx
          obtain rfl : oc = 0 := hzo _ _ _ _ _ rfl
          rw [Nat.zero_add] at d5 d6
          have d6' : wi.cell? ⟨bc, j * 7 + 5 + 1, none⟩ = some (.int .i64 x.col) := d6
          have z5 := hfc.frozen (j * 7 + 5)
          have z6 := hfc.frozen (j * 7 + 5 + 1)
          have z6' := hfc.frozen (j * 7 + 6)
          obtain ⟨hbc, cs, hty⟩ := hfc _ rfl
          have hbc' : w.heap.size + 2 ≤ bc := hbc
          have hne : bf ≠ bc := by
            intro e
            subst e
            obtain ⟨_, cs', h'⟩ := hfr _ rfl
            rw [hty] at h'
            simp at h'
          obtain ⟨q'', g1, g2, g3, g4, g5, g6⟩ := PS.putIns (k := j) (z1 := 0) (z2 := 0) HP.out hty d5 d6' zero64 zero64
          have g7 := g5 k f' bf none none _ _ rfl hf' hc2
          have hk4 : ∀ b, b ≠ bc → ((wi.setCell ⟨bc, j * 7 + 5, none⟩ (.int .i64 0)).setCell ⟨bc, j * 7 + 5 + 1, none⟩ (.int .i64 0)).heap[b]? = wi.heap[b]? := fun b hb => (heap_setCell_other _ _ _ _ (by simp; omega)).trans (heap_setCell_other _ _ _ _ (by simp; omega))
          have HN : Hid (PS (upFrom (w.heap.size + 2)) ((wi.setCell ⟨bc, j * 7 + 5, none⟩ (.int .i64 0)).setCell ⟨bc, j * 7 + 5 + 1, none⟩ (.int .i64 0)) q'' p (.slice ac p.chans.length kc) (.slice aa p.arrays.length ka) (.slice (some ⟨bf, 0, none⟩) p.funcs.length kf) (.slice am p.main.length km) ∧ DF Zero q''.funcs k ∧ q''.funcs[k]? = some { f' with code := f'.code.modify j (setP 0 0) } ∧ Zero f'.line f'.col ∧ DC Zero (f'.code.modify j (setP 0 0)) (j + 1) ∧ (f'.code.modify j (setP 0 0)).length = f.code.length ∧ ((wi.setCell ⟨bc, j * 7 + 5, none⟩ (.int .i64 0)).setCell ⟨bc, j * 7 + 5 + 1, none⟩ (.int .i64 0)).cell? ⟨bf, k * 5 + 2, none⟩ = some (.slice (some ⟨bc, 0, none⟩) f.code.length cc) ∧ ((wi.setCell ⟨bc, j * 7 + 5, none⟩ (.int .i64 0)).setCell ⟨bc, j * 7 + 5 + 1, none⟩ (.int .i64 0)).heap[w.heap.size]? = some (.cells #[.int .i64 p.width, .slice ac p.chans.length kc, .slice aa p.arrays.length ka, .slice (some ⟨bf, 0, none⟩) p.funcs.length kf, .slice am p.main.length km] 27 (0, 0)) ∧ ((wi.setCell ⟨bc, j * 7 + 5, none⟩ (.int .i64 0)).setCell ⟨bc, j * 7 + 5 + 1, none⟩ (.int .i64 0)).heap[w.heap.size + 1]? = some (.cells #[.int .i64 0, .slice none 0 0, .slice none 0 0, .slice none 0 0, .slice none 0 0] 27 (0, 0)) ∧ Below w.heap.size w ((wi.setCell ⟨bc, j * 7 + 5, none⟩ (.int .i64 0)).setCell ⟨bc, j * 7 + 5 + 1, none⟩ (.int .i64 0))) :=
            ⟨g1, hdf.pos g3 (bareP_eq g2).2.2.2.1 ⟨rfl, rfl⟩, g7, hz', hdc.step ⟨rfl, rfl⟩, by rw [List.length_modify]; exact hlen, putPos_cell (.inl hne) hc2, (hk4 _ (by omega)).trans hr0, (hk4 _ (by omega)).trans hr1, (hb.setCell (by show w.heap.size ≤ bc; omega) _).setCell (by show w.heap.size ≤ bc; omega) _⟩
          clear hdf hf' hz' hdc hlen hr0 hr1 hb hr hr3 hfr hfc r2 hty g1 g2 g3 g4 g5 g6 g7 hk4 HS HP hzo hx hbc hne
          go_wp2_with fail
          go_roundw
          case rel =>
            obtain ⟨h1, h2, h3, h4, h5, h6, h7, h8, h9, h10⟩ := HN.out
            exact ⟨j + 1, q'', _, by omega, by go_num, h1, h2, h3, h4, h5, h6, h7, h8, h9, h10⟩
          case measure => simp [intOf]; omega
        · obtain ⟨hdf, hf', hz', hdc, hlen, hr0, hr1, hb⟩ := HS.out
          obtain rfl : j = f.code.length := by omega
          have HN : Hid (DF Zero q'.funcs (k + 1)) := by
            intro j' f'' hj' h
            by_cases e : j' = k
            · subst e
              rw [hf'] at h
              cases h
              exact ⟨hz', by rw [hlen]; exact hdc⟩
            · exact hdf j' f'' (by omega) h
          have HT := Lib.hid (And.intro hr0 (And.intro hr1 hb))
          clear hdf hf' hz' hdc hlen hr0 hr1 hb HS
          go_wp2_with fail
          go_roundw
          case rel =>
            obtain ⟨h1, h2, h3⟩ := HT.out
            exact ⟨k + 1, q', by omega, by go_num, HP.out, HN.out, h1, h2, h3⟩
          case measure => simp [intOf]; omega
    · obtain ⟨hdf, hr0, hr1, hb⟩ := HS.out
      obtain rfl : k = p.funcs.length := by omega
      have HDF := Lib.hid hdf
      have HT := Lib.hid (And.intro hr0 (And.intro hr1 hb))
      clear hdf hr0 hr1 hb HS
      obtain ⟨wo, rfl⟩ : ∃ x : World, x = wr := ⟨_, rfl⟩
      go_wp2_with fail
      go_loopw [5] (fun kk wi => ∃ (j : Nat) (q' : ProgD), j ≤ p.main.length ∧ kk = .int .i64 j ∧ PS (upFrom (w.heap.size + 2)) wi q' p (.slice ac p.chans.length kc) (.slice aa p.arrays.length ka) (.slice af p.funcs.length kf) (.slice am p.main.length km) ∧ DF Zero q'.funcs p.funcs.length ∧ DC Zero q'.main j ∧ wi.heap[w.heap.size]? = some (.cells #[.int .i64 p.width, .slice ac p.chans.length kc, .slice aa p.arrays.length ka, .slice af p.funcs.length kf, .slice am p.main.length km] 27 (0, 0)) ∧ wi.heap[w.heap.size + 1]? = some (.cells #[.int .i64 0, .slice none 0 0, .slice none 0 0, .slice none 0 0, .slice none 0 0] 27 (0, 0)) ∧ Below w.heap.size w wi) (fun kk _ => p.main.length - (intOf kk).toNat)
      case atStart =>
        obtain ⟨h1, h2, h3⟩ := HT.out
        exact ⟨0, q, Nat.zero_le _, rfl, HP.out, HDF.out, (fun j x hj => by omega), h1, h2, h3⟩
      case round =>
        obtain ⟨j, q', hj, rfl, hps, hdf, hdc, hr0, hr1, hb⟩ := hrel
        obtain ⟨wi, rfl⟩ : ∃ x : World, x = wr := ⟨_, rfl⟩
        have e4 := row_of hr0 4 _ rfl
        have l0 := row_of hr0 0 _ rfl
        have l1 := row_of hr0 1 _ rfl
        have l2 := row_of hr0 2 _ rfl
        have l3 := row_of hr0 3 _ rfl
        have HQ := Lib.hid hps
        have HS := Lib.hid (And.intro hdf (And.intro hdc (And.intro hr0 (And.intro hr1 hb))))
        clear hps hdf hdc hr0 hr1 hb HT HP HDF
        have hml : q'.main.length = p.main.length := bareP_main HQ.out.2.2
        by_cases hjl : j < p.main.length
        · have hjl' : (j : Int) < (p.main.length : Int) := by omega
          obtain ⟨hdf, hdc, hr0, hr1, hb⟩ := HS.out
          obtain ⟨a3, c3, e3', -, hr3⟩ := id HQ.out.1.2.2.2.1
          simp only [Value.slice.injEq] at e3'
          obtain ⟨rfl, -, -⟩ := e3'
          obtain ⟨x, hx⟩ : ∃ x, q'.main[j]? = some x := ⟨_, List.getElem?_eq_getElem (by omega)⟩
          obtain ⟨bc, oc, av, rfl, hfc, -, -, -, -, -, d5, d6, -⟩ := hr3 j x hx
          obtain rfl : oc = 0 := HQ.out.2.1.2.1 _ _ _ _ _ rfl
          rw [Nat.zero_add] at d5 d6
          have d6' : wi.cell? ⟨bc, j * 7 + 5 + 1, none⟩ = some (.int .i64 x.col) := d6
          have z5 := hfc.frozen (j * 7 + 5)
          have z6 := hfc.frozen (j * 7 + 5 + 1)
          have z6' := hfc.frozen (j * 7 + 6)
          obtain ⟨hbc, cs, hty⟩ := hfc _ rfl
          have hbc' : w.heap.size + 2 ≤ bc := hbc
          obtain ⟨q'', g1, g2, g3, g4, g5, g6⟩ := PS.putIns (k := j) (z1 := 0) (z2 := 0) HQ.out hty d5 d6' zero64 zero64
          have g7 := g6 none _ _ rfl
          have hk4 : ∀ b, b ≠ bc → ((wi.setCell ⟨bc, j * 7 + 5, none⟩ (.int .i64 0)).setCell ⟨bc, j * 7 + 5 + 1, none⟩ (.int .i64 0)).heap[b]? = wi.heap[b]? := fun b hb => (heap_setCell_other _ _ _ _ (by simp; omega)).trans (heap_setCell_other _ _ _ _ (by simp; omega))
          have HN : Hid (PS (upFrom (w.heap.size + 2)) ((wi.setCell ⟨bc, j * 7 + 5, none⟩ (.int .i64 0)).setCell ⟨bc, j * 7 + 5 + 1, none⟩ (.int .i64 0)) q'' p (.slice ac p.chans.length kc) (.slice aa p.arrays.length ka) (.slice af p.funcs.length kf) (.slice (some ⟨bc, 0, none⟩) p.main.length km) ∧ DF Zero q''.funcs p.funcs.length ∧ DC Zero q''.main (j + 1) ∧ ((wi.setCell ⟨bc, j * 7 + 5, none⟩ (.int .i64 0)).setCell ⟨bc, j * 7 + 5 + 1, none⟩ (.int .i64 0)).heap[w.heap.size]? = some (.cells #[.int .i64 p.width, .slice ac p.chans.length kc, .slice aa p.arrays.length ka, .slice af p.funcs.length kf, .slice (some ⟨bc, 0, none⟩) p.main.length km] 27 (0, 0)) ∧ ((wi.setCell ⟨bc, j * 7 + 5, none⟩ (.int .i64 0)).setCell ⟨bc, j * 7 + 5 + 1, none⟩ (.int .i64 0)).heap[w.heap.size + 1]? = some (.cells #[.int .i64 0, .slice none 0 0, .slice none 0 0, .slice none 0 0, .slice none 0 0] 27 (0, 0)) ∧ Below w.heap.size w ((wi.setCell ⟨bc, j * 7 + 5, none⟩ (.int .i64 0)).setCell ⟨bc, j * 7 + 5 + 1, none⟩ (.int .i64 0))) :=
            ⟨g1, hdf.pos g3 (bareP_eq g2).2.2.2.1 ⟨rfl, rfl⟩, by rw [g7]; exact hdc.step ⟨rfl, rfl⟩, (hk4 _ (by omega)).trans hr0, (hk4 _ (by omega)).trans hr1, (hb.setCell (by show w.heap.size ≤ bc; omega) _).setCell (by show w.heap.size ≤ bc; omega) _⟩
          clear hdf hdc hr0 hr1 hb hr3 hfc hty g1 g2 g3 g4 g5 g6 g7 hk4 HS HQ hx hbc l0 l1 l2 l3 hml
          go_wp2_with fail
          go_roundw
          case rel =>
            obtain ⟨h1, h2, h3, h4, h5, h6⟩ := HN.out
            exact ⟨j + 1, q'', by omega, by go_num, h1, h2, h3, h4, h5, h6⟩
          case measure => simp [intOf]; omega
        · obtain ⟨hdf, hdc, hr0, hr1, hb⟩ := HS.out
          have hqe : q' = bareP p := by
            have hql : q'.funcs.length = p.funcs.length := bareP_funcs HQ.out.2.2
            have h1 := bareF_done (l := q'.funcs) (by rw [hql]; exact hdf)
            have h2 := bareI_done (l := q'.main) (by rw [hml]; have : j = p.main.length := by omega
                                                     subst this; exact hdc)
            rw [← HQ.out.2.2]
            simp only [bareP, h1, h2]
          subst hqe
          have HR1 := Lib.hid hr1
          have HB := Lib.hid hb
          clear hdf hdc hr0 hr1 hb HS hml
          go_wp2_with (refine wpList_store_row rfl 27 (.tmp 2) (.tmp 55) rfl (w.heap.size + 1) #[.int .i64 p.width, .slice ac p.chans.length kc, .slice aa p.arrays.length ka, .slice af p.funcs.length kf, .slice am p.main.length km] rfl rfl 27 #[.int .i64 0, .slice none 0 0, .slice none 0 0, .slice none 0 0, .slice none 0 0] ?h5 ?s5 ?s6 ?s7 ?_; exact HR1.out; kernel_rfl; kernel_rfl; kernel_rfl)
          have hfin : ∀ b, w.heap.size + 2 ≤ b → (wi.setRow (w.heap.size + 1) #[.int .i64 p.width, .slice ac p.chans.length kc, .slice aa p.arrays.length ka, .slice af p.funcs.length kf, .slice am p.main.length km]).heap[b]? = wi.heap[b]? := fun b hb => setRow_other _ _ _ _ (by omega)
          obtain ⟨⟨r1, r2, r3, r4, r5⟩, hal, hbe⟩ := HQ.out
          refine bodyPost_ret (v := .agg #[.int .i64 p.width, .slice ac p.chans.length kc, .slice aa p.arrays.length ka, .slice af p.funcs.length kf, .slice am p.main.length km]) ?_ rfl ⟨.slice ac p.chans.length kc, .slice aa p.arrays.length ka, .slice af p.funcs.length kf, .slice am p.main.length km, rfl, ⟨⟨?_, ?_, ?_, ?_, r5⟩, hal.same r3 (by simp [bareP]) (fun b hb => hfin b hb), hbe⟩, below_row HB.out (by omega) _⟩
          · exact results_cell_row (P := Tryd.prog) (fn := Tryd.f14) rfl _ _ (w.heap.size + 1) 27 _ (0,0) _ rfl (setRow_heap _ _ _ _ _ _ HR1.out) Tryd.underlying27 rfl (by kernel_rfl)
          · exact RdStrs.same r1 (fun b hb _ => hfin b hb) (fun b _ hb => by have : w.heap.size + 2 ≤ b := hb; show w.heap.size ≤ b; omega)
          · exact RdArrs.same r2 (fun b hb _ => hfin b hb) (fun b _ hb => by have : w.heap.size + 2 ≤ b := hb; show w.heap.size ≤ b; omega)
          · exact RdFuncs.same r3 (fun b hb _ => hfin b hb) (fun b _ hb => by have : w.heap.size + 2 ≤ b := hb; show w.heap.size ≤ b; omega)
          · exact RdInstrs.same r4 (fun b hb _ => hfin b hb) (fun b _ hb => by have : w.heap.size + 2 ≤ b := hb; show w.heap.size ≤ b; omega)
end Go.Proofs.YteeebofjlchndaaDoor
