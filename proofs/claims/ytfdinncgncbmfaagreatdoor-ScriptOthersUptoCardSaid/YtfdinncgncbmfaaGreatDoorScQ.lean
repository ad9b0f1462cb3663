/- The program of a string under way: what its blocks hold, and what stays so. Plain lemmas. Conditions: each theorem's own. -/
import Derived.Test.YtfdinncgncbmfaaGreatDoorScW
set_option linter.unusedVariables false
set_option linter.unusedSimpArgs false
set_option linter.unnecessarySimpa false
namespace Go.Proofs.YtfdinncgncbmfaaGreatDoor
open Go.Maps (Keyed int_keyed)
open Go.WideShapes Go.ChangeMaps Go.MapKept Go.WideMaps Go.ChangeAt Go.RowKit Go.ChangeShapes
/-- The program under way: its block, the bytes, and its rows. -/
structure PSt (w0 : World) (pb sb base : Nat) (wd : Int) (w : World) (cv av fv : Value) (C : List ByteArray) (A : List ArrD) (F : List (FuncD × Value × Value)) (l : List UInt8) : Prop where
  box : w.heap[pb]? = some (.cells #[.int .i64 wd, cv, av, fv, .slice none 0 0] 28 (0, 0))
  src : SrcAt w sb l
  oc : w.ownsRow base 9 1 cv C.length (C.flatMap strCells)
  oa : w.ownsRow base 54 2 av A.length (A.flatMap arrCells)
  of : w.ownsRow base 56 5 fv F.length (F.flatMap funCells)
  rf : ∀ q ∈ F, RdFunc (some (upFrom base)) w q.1 q.2.1 q.2.2
  below : Below base w0 w
  hp : base < pb
  hs : base ≤ sb
  hne : pb ≠ sb
  hb0 : base ≤ w0.heap.size
  res : w.heap[base]? = some (.cells #[.int .i64 0, .slice none 0 0, .slice none 0 0, .slice none 0 0, .slice none 0 0] 28 (0, 0))
theorem PSt.later {w0 w w' : World} {pb sb base : Nat} {wd : Int} {cv av fv : Value} {C : List ByteArray} {A : List ArrD} {F : List (FuncD × Value × Value)} {l : List UInt8} (h : PSt w0 pb sb base wd w cv av fv C A F l) (k : Below w.heap.size w w') : PSt w0 pb sb base wd w' cv av fv C A F l :=
  ⟨(k.block pb (Array.getElem?_eq_some_iff.1 h.box).1).trans h.box, (k.block sb h.src.lt).trans h.src, own_below h.oc k, own_below h.oa k, own_below h.of k, fun q hq => (h.rf q hq).keep k, h.below.trans (k.mono (Nat.le_trans h.hb0 h.below.size)), h.hp, h.hs, h.hne, h.hb0, (k.block base (Array.getElem?_eq_some_iff.1 h.res).1).trans h.res⟩
theorem not_own {w : World} {base : Nat} {e T : TypeId} {size : Nat} {v : Value} {n : Nat} {xs : List Value} {b : Nat} {cs : Array Value} (h : w.ownsRow base e size v n xs) (hb : w.heap[b]? = some (.cells cs T (0, 0))) (hT : e ≠ T) : v.ownBlock ≠ some b := by
  intro e1
  obtain ⟨ds, h1⟩ := own_rowS h e1
  rw [h1] at hb
  simp only [Option.some.injEq, Obj.cells.injEq] at hb
  exact hT hb.2.1
theorem func_grownT {base E : Nat} {W w' : World} {v : Value} {size n : Nat} {xs : List Value} {x : FuncD} {pv cv : Value} (hown : W.ownsRow base E size v n xs) (hg : W.grownBy w' v.ownBlock) (h1 : 9 ≠ E) (h2 : 44 ≠ E) (h3 : 47 ≠ E) (h : RdFunc (some (upFrom base)) W x pv cv) : RdFunc (some (upFrom base)) w' x pv cv :=
  RdFunc.map (S := fun T => T ≠ E) (grown_hF hown hg) (grown_hC hown hg) (by assumption) (by assumption) (by assumption) h
theorem RdFunc.pastT {w w' : World} {base b : Nat} {cs : Array Value} {T0 : TypeId} {x : FuncD} {pv cv : Value} (h : RdFunc (some (upFrom base)) w x pv cv) (hb : w.heap[b]? = some (.cells cs T0 (0, 0))) (t : Trn (fun y => y = b) w w') (h1 : 9 ≠ T0) (h2 : 44 ≠ T0) (h3 : 47 ≠ T0) : RdFunc (some (upFrom base)) w' x pv cv := by
  have hne : ∀ T c, T ≠ T0 → Free (some (upFrom base)) T w c → c ≠ b := fun T c hT hf e => by
    obtain ⟨_, ds, h4⟩ := hf _ rfl
    rw [e, hb] at h4
    simp only [Option.some.injEq, Obj.cells.injEq] at h4
    exact hT h4.2.1.symm
  refine RdFunc.map (S := fun T => T ≠ T0) (fun T c hT hl hf => ?_) (fun T c o v hT hf hc => ?_) (by assumption) (by assumption) (by assumption) h
  · intro k e
    cases e
    obtain ⟨h5, ds, h6⟩ := id (hf _ rfl)
    exact ⟨h5, ds, (t.block c hl (hne T c hT hf)).trans h6⟩
  · rw [World.cell?_of_block (w := w) (t.block c (block_lt_of_cell hc) (hne T c hT hf))]; exact hc
theorem infoStrS : (Tryz.prog.info? 9).map (fun i => (i.zero, i.size, i.bytes)) = some (some (.string ⟨#[]⟩), 1, 16) := by kernel_rfl
/-- An array of a program of a string. -/
def arrOne (i : Nat) : PS ArrD := bindS (takeS 4) fun z => pureS (⟨nmS 97 i, 1 + (z : Int)⟩ : ArrD)
/-- Bytes are taken. -/
theorem PSt.bytes {w0 w w' : World} {pb sb base : Nat} {wd : Int} {cv av fv : Value} {C : List ByteArray} {A : List ArrD} {F : List (FuncD × Value × Value)} {l l' : List UInt8} (h : PSt w0 pb sb base wd w cv av fv C A F l) (hsb : base < sb) (t : Trn (fun x => x = sb) w w') (hs : SrcAt w' sb l') : PSt w0 pb sb base wd w' cv av fv C A F l' := by
  have hsrc := h.src
  unfold SrcAt at hsrc
  exact ⟨t.heap h.box h.hne, hs, own_trn h.oc t (fun k hk e => not_own h.oc hsrc (by decide) (by have e' : k = sb := e; rw [← e']; exact hk)), own_trn h.oa t (fun k hk e => not_own h.oa hsrc (by decide) (by have e' : k = sb := e; rw [← e']; exact hk)), own_trn h.of t (fun k hk e => not_own h.of hsrc (by decide) (by have e' : k = sb := e; rw [← e']; exact hk)), fun q hq => (h.rf q hq).pastT hsrc t (by decide) (by decide) (by decide), h.below.trans (t.below base (Nat.le_trans h.hb0 h.below.size) (fun i hi e => by have e' : i = sb := e; omega)), h.hp, h.hs, h.hne, h.hb0, t.heap h.res (fun e => by have e' : base = sb := e; omega)⟩
/-- The row of channels grows, and is put into the block. -/
theorem PSt.chan {w0 w w' : World} {pb sb base : Nat} {wd : Int} {cv av fv cv' : Value} {C : List ByteArray} {A : List ArrD} {l : List UInt8} {n : ByteArray} (h : PSt w0 pb sb base wd w cv av fv C A [] l) (hg : w.grownBy w' cv.ownBlock) (ho : w'.ownsRow base 9 1 cv' (C.length + 1) (C.flatMap strCells ++ [.string n])) :
    PSt w0 pb sb base wd (w'.setCell ⟨pb, 1, none⟩ cv') cv' av fv (C ++ [n]) A [] l := by
  have hgr := Trn.of_grown (S := fun b => cv.ownBlock = some b) hg (fun b e => e)
  have hbx := hgr.heap h.box (not_own h.oc h.box (by decide))
  have hsc := setCell_trn w' ⟨pb, 1, none⟩ cv'
  have hrs := hgr.heap h.res (not_own h.oc h.res (by decide))
  have hb1 := heap_setCell_same w' pb 1 _ _ cv' hbx
  simp only [List.setIfInBounds_toArray, List.set_cons_succ, List.set_cons_zero] at hb1
  have hoa := own_trn h.oa hgr (fun k hk e => own_apart h.oc h.oa (by decide) hk e)
  have hof := own_trn h.of hgr (fun k hk e => own_apart h.oc h.of (by decide) hk e)
  have hps := h.hp
  refine ⟨hb1, ?_, ?_, own_trn hoa hsc (fun k hk e => not_own hoa hbx (by decide) (by have e' : k = pb := e; rw [← e']; exact hk)), own_trn hof hsc (fun k hk e => not_own hof hbx (by decide) (by have e' : k = pb := e; rw [← e']; exact hk)), fun q hq => ?_, (h.below.grown hg (Nat.le_trans h.hb0 h.below.size) (own_row_le h.oc)).setCell (by show base ≤ pb; omega) _, h.hp, h.hs, h.hne, h.hb0, ?_⟩
  · exact hsc.heap (hgr.heap h.src (not_own h.oc h.src (by decide))) (fun e => h.hne (show sb = pb from e).symm)
  · have := own_trn ho hsc (fun k hk e => not_own ho hbx (by decide) (by have e' : k = pb := e; rw [← e']; exact hk))
    simpa [strCells] using this
  · simp at hq
  · exact hsc.heap hrs (fun e => by have e' : base = pb := e; omega)
/-- The row of arrays grows, and is put into the block. -/
theorem PSt.arr {w0 w w' : World} {pb sb base : Nat} {wd : Int} {cv av fv av' : Value} {C : List ByteArray} {A : List ArrD} {l : List UInt8} {x : ArrD} (h : PSt w0 pb sb base wd w cv av fv C A [] l) (hg : w.grownBy w' av.ownBlock) (ho : w'.ownsRow base 54 2 av' (A.length + 1) (A.flatMap arrCells ++ arrCells x)) :
    PSt w0 pb sb base wd (w'.setCell ⟨pb, 2, none⟩ av') cv av' fv C (A ++ [x]) [] l := by
  have hgr := Trn.of_grown (S := fun b => av.ownBlock = some b) hg (fun b e => e)
  have hbx := hgr.heap h.box (not_own h.oa h.box (by decide))
  have hsc := setCell_trn w' ⟨pb, 2, none⟩ av'
  have hrs := hgr.heap h.res (not_own h.oa h.res (by decide))
  have hb1 := heap_setCell_same w' pb 2 _ _ av' hbx
  simp only [List.setIfInBounds_toArray, List.set_cons_succ, List.set_cons_zero] at hb1
  have hoc := own_trn h.oc hgr (fun k hk e => own_apart h.oa h.oc (by decide) hk e)
  have hof := own_trn h.of hgr (fun k hk e => own_apart h.oa h.of (by decide) hk e)
  have hps := h.hp
  refine ⟨hb1, ?_, own_trn hoc hsc (fun k hk e => not_own hoc hbx (by decide) (by have e' : k = pb := e; rw [← e']; exact hk)), ?_, own_trn hof hsc (fun k hk e => not_own hof hbx (by decide) (by have e' : k = pb := e; rw [← e']; exact hk)), fun q hq => ?_, (h.below.grown hg (Nat.le_trans h.hb0 h.below.size) (own_row_le h.oa)).setCell (by show base ≤ pb; omega) _, h.hp, h.hs, h.hne, h.hb0, ?_⟩
  · exact hsc.heap (hgr.heap h.src (not_own h.oa h.src (by decide))) (fun e => h.hne (show sb = pb from e).symm)
  · have := own_trn ho hsc (fun k hk e => not_own ho hbx (by decide) (by have e' : k = pb := e; rw [← e']; exact hk))
    simpa using this
  · simp at hq
  · exact hsc.heap hrs (fun e => by have e' : base = pb := e; omega)
theorem infoArrS : (Tryz.prog.info? 54).map (fun i => (i.zero, i.size, i.bytes)) = some (some (.agg #[.string ⟨#[]⟩, .int .i64 0]), 2, 24) := by kernel_rfl
/-- The row of functions grows, and is put into the block. -/
theorem PSt.func {w0 w w' : World} {pb sb base : Nat} {wd : Int} {cv av fv fv' : Value} {C : List ByteArray} {A : List ArrD} {F : List (FuncD × Value × Value)} {l : List UInt8} {q : FuncD × Value × Value} (h : PSt w0 pb sb base wd w cv av fv C A F l) (hg : w.grownBy w' fv.ownBlock) (ho : w'.ownsRow base 56 5 fv' (F.length + 1) (F.flatMap funCells ++ funCells q)) (hq : RdFunc (some (upFrom base)) w q.1 q.2.1 q.2.2) :
    PSt w0 pb sb base wd (w'.setCell ⟨pb, 3, none⟩ fv') cv av fv' C A (F ++ [q]) l := by
  have hgr := Trn.of_grown (S := fun b => fv.ownBlock = some b) hg (fun b e => e)
  have hbx := hgr.heap h.box (not_own h.of h.box (by decide))
  have hsc := setCell_trn w' ⟨pb, 3, none⟩ fv'
  have hrs := hgr.heap h.res (not_own h.of h.res (by decide))
  have hb1 := heap_setCell_same w' pb 3 _ _ fv' hbx
  simp only [List.setIfInBounds_toArray, List.set_cons_succ, List.set_cons_zero] at hb1
  have hoc := own_trn h.oc hgr (fun k hk e => own_apart h.of h.oc (by decide) hk e)
  have hoa := own_trn h.oa hgr (fun k hk e => own_apart h.of h.oa (by decide) hk e)
  have hps := h.hp
  refine ⟨hb1, ?_, own_trn hoc hsc (fun k hk e => not_own hoc hbx (by decide) (by have e' : k = pb := e; rw [← e']; exact hk)), own_trn hoa hsc (fun k hk e => not_own hoa hbx (by decide) (by have e' : k = pb := e; rw [← e']; exact hk)), ?_, fun p hp => ?_, (h.below.grown hg (Nat.le_trans h.hb0 h.below.size) (own_row_le h.of)).setCell (by show base ≤ pb; omega) _, h.hp, h.hs, h.hne, h.hb0, ?_⟩
  · exact hsc.heap (hgr.heap h.src (not_own h.of h.src (by decide))) (fun e => h.hne (show sb = pb from e).symm)
  · have := own_trn ho hsc (fun k hk e => not_own ho hbx (by decide) (by have e' : k = pb := e; rw [← e']; exact hk))
    simpa using this
  · have h1 : RdFunc (some (upFrom base)) w p.1 p.2.1 p.2.2 := by
      rcases List.mem_append.1 hp with hp | hp
      · exact h.rf p hp
      · rw [List.mem_singleton] at hp; subst hp; exact hq
    exact (func_grownT h.of hg (by decide) (by decide) (by decide) h1).pastT hbx hsc (by decide) (by decide) (by decide)
  · exact hsc.heap hrs (fun e => by have e' : base = pb := e; omega)
/-- The program's block as a maker sees it. -/
theorem PSt.env {w0 w : World} {pb sb base : Nat} {wd : Int} {cv av fv : Value} {C : List ByteArray} {A : List ArrD} {F : List (FuncD × Value × Value)} {l : List UInt8} (h : PSt w0 pb sb base wd w cv av fv C A F l) {m b1 : Nat} {z : World} {par : Nat} {mn : Bool} (hz : Below w.heap.size w z) (hm : w.heap.size ≤ m) (hb1 : m < b1) (hC : 1 ≤ C.length) (hC2 : C.length ≤ 100) (hA : A.length ≤ 100) (hF : F.length ≤ 100) (hP : ∀ q ∈ F, q.1.params.length ≤ 100) :
    EnvAt z m sb pb b1 ⟨A.length, C.length, par, F.map fun q => q.1.params.length, mn⟩ := by
  have hpw := (Array.getElem?_eq_some_iff.1 h.box).1
  have hsw := h.src.lt
  obtain ⟨ca, cc, rfl, -⟩ := own_read h.oc
  obtain ⟨aa, ac, rfl, -⟩ := own_read h.oa
  obtain ⟨fa, fc, rfl, -⟩ := own_read h.of
  refine ⟨⟨wd, ca, cc, aa, ac, fa, fc, .slice none 0 0, ?_, fun i n hi => ?_⟩, ?_, hC, hC2, hA, by simpa using hF, fun n hn => ?_⟩
  · rw [List.length_map]
    exact (hz.block pb hpw).trans h.box
  · rw [List.getElem?_map] at hi
    obtain ⟨q, hq, rfl⟩ : ∃ q, F[i]? = some q ∧ q.1.params.length = n := by
      cases hf : F[i]? with
      | none => rw [hf] at hi; cases hi
      | some q => rw [hf] at hi; exact ⟨q, rfl, Option.some.inj hi⟩
    have hil := (List.getElem?_eq_some_iff.1 hq).1
    obtain ⟨g, gc, hge, hgf, hgc⟩ := own_at h.of (by rw [flat_length funCells 5 (fun _ => rfl)]; omega)
    simp only [Value.slice.injEq] at hge
    obtain ⟨rfl, -, -⟩ := hge
    have c1 := hgc (i * 5 + 1) q.2.1 (by rw [flat_get funCells 5 (fun _ => rfl) F i 1 _ hq (by omega)]; rfl)
    obtain ⟨pa, pc, hpe, -⟩ := (h.rf q (List.mem_of_getElem? hq)).1
    rw [hpe] at c1
    obtain ⟨hgb, cs, hgh⟩ := hgf _ rfl
    have hgw := (Array.getElem?_eq_some_iff.1 hgh).1
    refine ⟨g, 0, pa, pc, rfl, by simpa [Nat.add_assoc] using cell_keep hz c1, fun e => ?_⟩
    unfold mS at e
    rcases e with rfl | rfl | e
    · omega
    · have hs := h.src
      unfold SrcAt at hs
      rw [hs] at hgh
      simp only [Option.some.injEq, Obj.cells.injEq] at hgh
      exact absurd hgh.2.1 (by decide)
    · omega
  · intro e
    unfold mS at e
    rcases e with rfl | e | e
    · omega
    · exact h.hne e
    · omega
  · obtain ⟨q, hq, rfl⟩ := List.mem_map.1 hn
    exact hP q hq
/-- A function under way: its block, its parameters, and the bytes. -/
structure FSt (w6 : World) (sb fb : Nat) (w : World) (nm : ByteArray) (pv : Value) (K : List ByteArray) (l : List UInt8) : Prop where
  box : w.heap[fb]? = some (.cells #[.string nm, pv, .slice none 0 0, .int .i64 0, .int .i64 0] 56 (0, 0))
  src : SrcAt w sb l
  op : w.ownsRow fb 9 1 pv K.length (K.flatMap strCells)
  tr : Trn (fun x => x = sb) w6 w
  hf : w6.heap.size ≤ fb
  hs : sb < w6.heap.size
section
variable {w6 w w' : World} {sb fb : Nat} {nm : ByteArray} {pv : Value} {K : List ByteArray} {l l' : List UInt8}
theorem FSt.later (h : FSt w6 sb fb w nm pv K l) (k : Below w.heap.size w w') : FSt w6 sb fb w' nm pv K l :=
  ⟨(k.block fb (Array.getElem?_eq_some_iff.1 h.box).1).trans h.box, (k.block sb h.src.lt).trans h.src, own_below h.op k, h.tr.trans (Trn.of_below k), h.hf, h.hs⟩
theorem FSt.bytes (h : FSt w6 sb fb w nm pv K l) (t : Trn (fun x => x = sb) w w') (hs : SrcAt w' sb l') : FSt w6 sb fb w' nm pv K l' := by
  have h1 := h.hf
  have h2 := h.hs
  exact ⟨t.heap h.box (fun e => by have e' : fb = sb := e; omega), hs, own_trn h.op t (fun k hk e => by have := own_ge h.op hk; have e' : k = sb := e; omega), h.tr.trans t, h.hf, h.hs⟩
theorem FSt.made {m b2 : Nat} (h : FSt w6 sb fb w nm pv K l) (t : Trn (mS m sb b2) w w') (hs : SrcAt w' sb l') (hm : fb < m) (hb : m < b2) (hp : ∀ k, pv.ownBlock = some k → k < m) : FSt w6 sb fb w' nm pv K l' := by
  have h1 := h.hf
  have h2 := h.hs
  exact ⟨t.heap h.box (fun e => by unfold mS at e; omega), hs, own_trn h.op t (fun k hk e => by have := own_ge h.op hk; have := hp k hk; unfold mS at e; omega), h.tr.step t (fun i hi e => by unfold mS at e; show i = sb; omega), h.hf, h.hs⟩
theorem FSt.par {pv' : Value} {n : ByteArray} (h : FSt w6 sb fb w nm pv K l) (hg : w.grownBy w' pv.ownBlock) (ho : w'.ownsRow fb 9 1 pv' (K.length + 1) (K.flatMap strCells ++ [.string n])) :
    FSt w6 sb fb (w'.setCell ⟨fb, 1, none⟩ pv') nm pv' (K ++ [n]) l := by
  have h1 := h.hf
  have h2 := h.hs
  have hgr := Trn.of_grown (S := fun b => pv.ownBlock = some b) hg (fun b e => e)
  have hbx := hgr.heap h.box (not_own h.op h.box (by decide))
  have hsc := setCell_trn w' ⟨fb, 1, none⟩ pv'
  have hb1 := heap_setCell_same w' fb 1 _ _ pv' hbx
  simp only [List.setIfInBounds_toArray, List.set_cons_succ, List.set_cons_zero] at hb1
  refine ⟨hb1, hsc.heap (hgr.heap h.src (not_own h.op h.src (by decide))) (fun e => by have e' : sb = fb := e; omega), ?_, (h.tr.step hgr (fun i hi e => by have := own_ge h.op e; omega)).step hsc (fun i hi e => by have e' : i = fb := e; omega), h.hf, h.hs⟩
  have := own_trn ho hsc (fun k hk e => not_own ho hbx (by decide) (by have e' : k = fb := e; rw [← e']; exact hk))
  simpa [strCells] using this
end
theorem infoFunS : (Tryz.prog.info? 56).map (fun i => (i.zero, i.size, i.bytes)) = some (some (.agg #[.string ⟨#[]⟩, .slice none 0 0, .slice none 0 0, .int .i64 0, .int .i64 0]), 5, 80) := by kernel_rfl
theorem FSt.code {w6 w : World} {sb fb : Nat} {nm : ByteArray} {pv : Value} {K : List ByteArray} {l : List UInt8} (h : FSt w6 sb fb w nm pv K l) (lv : Value) :
    (w.setCell ⟨fb, 2, none⟩ lv).heap[fb]? = some (.cells #[.string nm, pv, lv, .int .i64 0, .int .i64 0] 56 (0, 0)) ∧ SrcAt (w.setCell ⟨fb, 2, none⟩ lv) sb l ∧ (w.setCell ⟨fb, 2, none⟩ lv).ownsRow fb 9 1 pv K.length (K.flatMap strCells) ∧ Trn (fun x => x = sb) w6 (w.setCell ⟨fb, 2, none⟩ lv) := by
  have h1 := h.hf
  have h2 := h.hs
  have hsc := setCell_trn w ⟨fb, 2, none⟩ lv
  have hb1 := heap_setCell_same w fb 2 _ _ lv h.box
  simp only [List.setIfInBounds_toArray, List.set_cons_succ, List.set_cons_zero] at hb1
  exact ⟨hb1, hsc.heap h.src (fun e => by have e' : sb = fb := e; omega), own_trn h.op hsc (fun k hk e => not_own h.op h.box (by decide) (by have e' : k = fb := e; rw [← e']; exact hk)), h.tr.step hsc (fun i hi e => by have e' : i = fb := e; omega)⟩
theorem funcs_step {a ch m np nm : Nat} {G : List FuncD} {lf l7 l8 lq : List UInt8} {c : List (InstrD × Int)} {E : EnvS} (h7 : takeS 3 lf = (np, l7)) (h8 : takeS 7 l7 = (nm, l8)) (hE : E = ⟨a, ch, np, G.map (·.params.length), false⟩) (hc : codeS E nm [] l8 = (c, lq)) : funcsS a ch (m + 1) G lf = funcsS a ch m (G ++ [⟨nmS 102 G.length, (List.range np).map (nmS 112), labelledS c, 0, 0⟩]) lq := by
  subst hE
  have e : funcS a ch G.length G lf = (⟨nmS 102 G.length, (List.range np).map (nmS 112), labelledS c, 0, 0⟩, lq) := by
    unfold funcS bindS
    rw [h7]
    simp only
    rw [h8]
    simp only
    rw [List.take_length, hc]
    rfl
  show bindS (funcS a ch G.length G) _ lf = _
  unfold bindS
  rw [e]
theorem code_nil (w : World) (base : Nat) : CodeAt w base (.slice none 0 0) (.slice none 0 0) [] := ⟨[], rfl, World.ownsRow_nil _ _ _ _, (fun q hq => by simp at hq), World.ownsRow_nil _ _ _ _⟩
theorem times_arr : ∀ (m i : Nat) (acc : List ArrD) (l : List UInt8), i + m ≤ 900 → (∀ s ∈ acc, (1 ≤ s.size ∧ s.size ≤ 4) ∧ NmOk s.name) → ∀ s ∈ (timesS arrOne m i acc l).1, (1 ≤ s.size ∧ s.size ≤ 4) ∧ NmOk s.name
  | 0, i, acc, l, _, h => h
  | m + 1, i, acc, l, hi, h => by
    show ∀ s ∈ (timesS arrOne m (i + 1) (acc ++ [(arrOne i l).1]) (arrOne i l).2).1, _
    refine times_arr m (i + 1) _ _ (by omega) fun s hs => ?_
    rcases List.mem_append.1 hs with hs | hs
    · exact h s hs
    · rw [List.mem_singleton] at hs
      subst hs
      have h4 := take_small 4 l (by omega)
      exact ⟨⟨by show 1 ≤ 1 + (((takeS 4 l).1 : Nat) : Int); omega, by show 1 + (((takeS 4 l).1 : Nat) : Int) ≤ 4; omega⟩, nm_ok 97 (by omega)⟩
theorem head_eq {l l1 l2 l3 lc l5 lf : List UInt8} {v1 v2 v3 v5 : Nat} {A : List ArrD} {G : List FuncD} (h1 : takeS 4 l = (v1, l1)) (h2 : takeS 3 l1 = (v2, l2)) (h3 : takeS 3 l2 = (v3, l3)) (h4 : timesS arrOne v3 0 [] l3 = (A, lc)) (h5 : takeS 3 lc = (v5, l5)) (h6 : funcsS A.length (1 + v2) v5 [] l5 = (G, lf)) : headS l = (⟨1 + (v1 : Int), (List.range (1 + v2)).map (nmS 99), A, G, []⟩, lf) := by
  unfold headS bindS
  rw [h1]; simp only
  rw [h2]; simp only
  rw [h3]; simp only
  have h4' : timesS (fun i => bindS (takeS 4) fun z => pureS (⟨nmS 97 i, 1 + (z : Int)⟩ : ArrD)) v3 0 [] l3 = (A, lc) := h4
  unfold bindS at h4'
  rw [h4']; simp only
  rw [h5]; simp only
  rw [h6]; simp only
  rfl
theorem prog_eq {l lf lq : List UInt8} {P : ProgD} {c : List (InstrD × Int)} (h : headS l = (P, lf)) (hm : mainS (mainE P) 20 [] lf = (c, lq)) : progS l = { P with main := labelledS c } := by
  unfold progS
  rw [h]; simp only
  rw [hm]
/-- The program that is done: its main is written, and all of it is stored into the result. -/
theorem PSt.done {w0 w w' : World} {pb sb base : Nat} {wd : Int} {cv av fv lv : Value} {C : List ByteArray} {A : List ArrD} {F : List (FuncD × Value × Value)} {l : List UInt8} {M : List InstrD} (h : PSt w0 pb sb base wd w cv av fv C A F l) (t : Trn (fun x => x = pb ∨ x = base) w w') (hM : RdInstrs (some (upFrom base)) w lv M) (hw : 0 ≤ wd ∧ wd ≤ 100) (hC : C.length ≤ 100) (hC2 : ∀ s ∈ C, s.size ≤ maxLen) (hA : A.length ≤ 100) (hA2 : ∀ s ∈ A, InI64 s.size ∧ s.name.size ≤ maxLen) (hF : F.length ≤ 100) :
    RdProg (some (upFrom base)) w' ⟨wd, C, A, F.map Prod.fst, M⟩ cv av fv lv ∧ Below base w0 w' := by
  have hbx := h.box
  have hrs := h.res
  have hpb := h.hp
  have hne : ∀ (T : TypeId) (b : Nat), T ≠ 28 → Free (some (upFrom base)) T w b → ¬ (b = pb ∨ b = base) := fun T b hT hf e => by
    obtain ⟨_, ds, h4⟩ := hf _ rfl
    rcases e with e | e
    · rw [e, hbx] at h4
      simp only [Option.some.injEq, Obj.cells.injEq] at h4
      exact hT h4.2.1.symm
    · rw [e, hrs] at h4
      simp only [Option.some.injEq, Obj.cells.injEq] at h4
      exact hT h4.2.1.symm
  have hF' : ∀ T b, T ≠ 28 → b < w.heap.size → Free (some (upFrom base)) T w b → Free (some (upFrom base)) T w' b := fun T b hT hl hf => by
    intro k e
    cases e
    obtain ⟨h5, ds, h6⟩ := id (hf _ rfl)
    exact ⟨h5, ds, (t.block b hl (hne T b hT hf)).trans h6⟩
  have hC' : ∀ T b o v, T ≠ 28 → Free (some (upFrom base)) T w b → w.cell? ⟨b, o, none⟩ = some v → w'.cell? ⟨b, o, none⟩ = some v := fun T b o v hT hf hc => by
    rw [World.cell?_of_block (w := w) (t.block b (block_lt_of_cell hc) (hne T b hT hf))]; exact hc
  have hrf := own_funcs (P := F) rfl (by simpa using h.of) (by simp; omega) h.rf
  refine ⟨⟨?_, ?_, ?_, ?_, ?_⟩, h.below.trans (t.below base (Nat.le_trans h.hb0 h.below.size) (fun i hi e => by omega))⟩
  · exact RdStrs.map (S := fun T => T ≠ 28) hF' hC' (by decide) (own_strs (l := C) h.oc (by omega) hC2)
  · exact RdArrs.map (S := fun T => T ≠ 28) hF' hC' (by decide) (own_arrs (l := A) h.oa (by omega) hA2)
  · exact RdFuncs.map (S := fun T => T ≠ 28) hF' hC' (by decide) (by decide) (by decide) (by decide) hrf
  · exact RdInstrs.map (S := fun T => T ≠ 28) hF' hC' (by decide) (by decide) hM
  · unfold InI64; simp; omega
theorem setRow_trn {w : World} {g : Nat} {cs ds : Array Value} {T : TypeId} (h : w.heap[g]? = some (.cells ds T (0, 0))) : Trn (fun x => x = g) w (w.setRow g cs) := by
  have hb := below_row (Below.refl g w) (Nat.le_refl g) cs
  exact ⟨hb.1, hb.2, hb.3, hb.size, fun k _ hk => setRow_other _ _ _ _ (by omega)⟩
end Go.Proofs.YtfdinncgncbmfaaGreatDoor
