/- The program of a string under way, in the reference: what its blocks hold, and what stays so. Plain lemmas. Conditions: each theorem's own. -/
import Derived.Test.YtbfkhnmpfffkmaaDoorSrD
set_option linter.unusedVariables false
set_option linter.unusedSimpArgs false
set_option linter.unnecessarySimpa false
namespace Go.Proofs.YtbfkhnmpfffkmaaDoor
open Go.Maps (Keyed int_keyed)
open Go.WideShapes Go.ChangeMaps Go.MapKept Go.WideMaps Go.ChangeAt Go.RowKit Go.ChangeShapes
theorem TkL.trn {S : Nat → Prop} {w w' : World} {g : Nat} {s : ByteArray} {l : List UInt8} (h : TkL w g s l) (t : Trn S w w') (hs : ¬ S g) : TkL w' g s l := h.at (t.block g h.lt hs)
theorem not_ownT {w : World} {base : Nat} {e : TypeId} {size : Nat} {v : Value} {n : Nat} {xs : List Value} {b : Nat} {s : ByteArray} {l : List UInt8} (h : w.ownsRow base e size v n xs) (hb : TkL w b s l) (hT : e ≠ 68) : v.ownBlock ≠ some b := by
  obtain ⟨n0, hb, -⟩ := hb
  exact not_own h hb hT
/-- The program under way: its block, the bytes, and its rows. -/
structure PRt (s : ByteArray) (w0 : World) (pb sb base : Nat) (wd : Int) (w : World) (cv av fv : Value) (C : List ByteArray) (A : List ArrD) (F : List (FuncD × Value × Value)) (l : List UInt8) : Prop where
  box : w.heap[pb]? = some (.cells #[.int .i64 wd, cv, av, fv, .slice none 0 0] 29 (0, 0))
  src : TkL w sb s l
  oc : w.ownsRow base 9 1 cv C.length (C.flatMap strCells)
  oa : w.ownsRow base 57 2 av A.length (A.flatMap arrCells)
  of : w.ownsRow base 59 5 fv F.length (F.flatMap funCells)
  rf : ∀ q ∈ F, RdFunc (some (upFrom base)) w q.1 q.2.1 q.2.2
  below : Below base w0 w
  hp : base < pb
  hs : base ≤ sb
  hne : pb ≠ sb
  hb0 : base ≤ w0.heap.size
  res : w.heap[base]? = some (.cells #[.int .i64 0, .slice none 0 0, .slice none 0 0, .slice none 0 0, .slice none 0 0] 29 (0, 0))
theorem PRt.later {s : ByteArray} {w0 w w' : World} {pb sb base : Nat} {wd : Int} {cv av fv : Value} {C : List ByteArray} {A : List ArrD} {F : List (FuncD × Value × Value)} {l : List UInt8} (h : PRt s w0 pb sb base wd w cv av fv C A F l) (k : Below w.heap.size w w') : PRt s w0 pb sb base wd w' cv av fv C A F l :=
  ⟨(k.block pb (Array.getElem?_eq_some_iff.1 h.box).1).trans h.box, h.src.keep k, own_below h.oc k, own_below h.oa k, own_below h.of k, fun q hq => (h.rf q hq).keep k, h.below.trans (k.mono (Nat.le_trans h.hb0 h.below.size)), h.hp, h.hs, h.hne, h.hb0, (k.block base (Array.getElem?_eq_some_iff.1 h.res).1).trans h.res⟩
/-- Bytes are taken. -/
theorem PRt.bytes {s : ByteArray} {w0 w w' : World} {pb sb base : Nat} {wd : Int} {cv av fv : Value} {C : List ByteArray} {A : List ArrD} {F : List (FuncD × Value × Value)} {l l' : List UInt8} (h : PRt s w0 pb sb base wd w cv av fv C A F l) (hsb : base < sb) (t : Trn (fun x => x = sb) w w') (hs : TkL w' sb s l') : PRt s w0 pb sb base wd w' cv av fv C A F l' := by
  obtain ⟨n0, hsrc, -⟩ := h.src
  exact ⟨t.heap h.box h.hne, hs, own_trn h.oc t (fun k hk e => not_own h.oc hsrc (by decide) (by have e' : k = sb := e; rw [← e']; exact hk)), own_trn h.oa t (fun k hk e => not_own h.oa hsrc (by decide) (by have e' : k = sb := e; rw [← e']; exact hk)), own_trn h.of t (fun k hk e => not_own h.of hsrc (by decide) (by have e' : k = sb := e; rw [← e']; exact hk)), fun q hq => (h.rf q hq).pastT hsrc t (by decide) (by decide) (by decide), h.below.trans (t.below base (Nat.le_trans h.hb0 h.below.size) (fun i hi e => by have e' : i = sb := e; omega)), h.hp, h.hs, h.hne, h.hb0, t.heap h.res (fun e => by have e' : base = sb := e; omega)⟩
/-- The row of channels grows, and is put into the block. -/
theorem PRt.chan {s : ByteArray} {w0 w w' : World} {pb sb base : Nat} {wd : Int} {cv av fv cv' : Value} {C : List ByteArray} {A : List ArrD} {l : List UInt8} {n : ByteArray} (h : PRt s w0 pb sb base wd w cv av fv C A [] l) (hg : w.grownBy w' cv.ownBlock) (ho : w'.ownsRow base 9 1 cv' (C.length + 1) (C.flatMap strCells ++ [.string n])) :
    PRt s w0 pb sb base wd (w'.setCell ⟨pb, 1, none⟩ cv') cv' av fv (C ++ [n]) A [] l := by
  have hgr := Trn.of_grown (S := fun b => cv.ownBlock = some b) hg (fun b e => e)
  have hbx := hgr.heap h.box (not_own h.oc h.box (by decide))
  have hsc := setCell_trn w' ⟨pb, 1, none⟩ cv'
  have hrs := hgr.heap h.res (not_own h.oc h.res (by decide))
  have hb1 := heap_setCell_same w' pb 1 _ _ cv' hbx
  simp only [List.setIfInBounds_toArray, List.set_cons_succ, List.set_cons_zero] at hb1
  have hoa := own_trn h.oa hgr (fun k hk e => own_apart h.oc h.oa (by decide) hk e)
  have hof := own_trn h.of hgr (fun k hk e => own_apart h.oc h.of (by decide) hk e)
  have hps := h.hp
  refine ⟨hb1, ?_, ?_, own_trn hoa hsc (fun k hk e => not_own hoa hbx (by decide) (by have e' : k = pb := e; rw [← e']; exact hk)), own_trn hof hsc (fun k hk e => not_own hof hbx (by decide) (by have e' : k = pb := e; rw [← e']; exact hk)), fun q hq => ?_, (h.below.grown hg (Nat.le_trans h.hb0 h.below.size) (own_row_le h.oc)).setCell (by show base ≤ pb; omega) _, h.hp, h.hs, h.hne, h.hb0, ?_⟩
  · exact (h.src.trn hgr (not_ownT h.oc h.src (by decide))).trn hsc (fun e => h.hne (show sb = pb from e).symm)
  · have := own_trn ho hsc (fun k hk e => not_own ho hbx (by decide) (by have e' : k = pb := e; rw [← e']; exact hk))
    simpa [strCells] using this
  · simp at hq
  · exact hsc.heap hrs (fun e => by have e' : base = pb := e; omega)
/-- The row of arrays grows, and is put into the block. -/
theorem PRt.arr {s : ByteArray} {w0 w w' : World} {pb sb base : Nat} {wd : Int} {cv av fv av' : Value} {C : List ByteArray} {A : List ArrD} {l : List UInt8} {x : ArrD} (h : PRt s w0 pb sb base wd w cv av fv C A [] l) (hg : w.grownBy w' av.ownBlock) (ho : w'.ownsRow base 57 2 av' (A.length + 1) (A.flatMap arrCells ++ arrCells x)) :
    PRt s w0 pb sb base wd (w'.setCell ⟨pb, 2, none⟩ av') cv av' fv C (A ++ [x]) [] l := by
  have hgr := Trn.of_grown (S := fun b => av.ownBlock = some b) hg (fun b e => e)
  have hbx := hgr.heap h.box (not_own h.oa h.box (by decide))
  have hsc := setCell_trn w' ⟨pb, 2, none⟩ av'
  have hrs := hgr.heap h.res (not_own h.oa h.res (by decide))
  have hb1 := heap_setCell_same w' pb 2 _ _ av' hbx
  simp only [List.setIfInBounds_toArray, List.set_cons_succ, List.set_cons_zero] at hb1
  have hoc := own_trn h.oc hgr (fun k hk e => own_apart h.oa h.oc (by decide) hk e)
  have hof := own_trn h.of hgr (fun k hk e => own_apart h.oa h.of (by decide) hk e)
  have hps := h.hp
  refine ⟨hb1, ?_, own_trn hoc hsc (fun k hk e => not_own hoc hbx (by decide) (by have e' : k = pb := e; rw [← e']; exact hk)), ?_, own_trn hof hsc (fun k hk e => not_own hof hbx (by decide) (by have e' : k = pb := e; rw [← e']; exact hk)), fun q hq => ?_, (h.below.grown hg (Nat.le_trans h.hb0 h.below.size) (own_row_le h.oa)).setCell (by show base ≤ pb; omega) _, h.hp, h.hs, h.hne, h.hb0, ?_⟩
  · exact (h.src.trn hgr (not_ownT h.oa h.src (by decide))).trn hsc (fun e => h.hne (show sb = pb from e).symm)
  · have := own_trn ho hsc (fun k hk e => not_own ho hbx (by decide) (by have e' : k = pb := e; rw [← e']; exact hk))
    simpa using this
  · simp at hq
  · exact hsc.heap hrs (fun e => by have e' : base = pb := e; omega)
/-- The row of functions grows, and is put into the block. -/
theorem PRt.func {s : ByteArray} {w0 w w' : World} {pb sb base : Nat} {wd : Int} {cv av fv fv' : Value} {C : List ByteArray} {A : List ArrD} {F : List (FuncD × Value × Value)} {l : List UInt8} {q : FuncD × Value × Value} (h : PRt s w0 pb sb base wd w cv av fv C A F l) (hg : w.grownBy w' fv.ownBlock) (ho : w'.ownsRow base 59 5 fv' (F.length + 1) (F.flatMap funCells ++ funCells q)) (hq : RdFunc (some (upFrom base)) w q.1 q.2.1 q.2.2) :
    PRt s w0 pb sb base wd (w'.setCell ⟨pb, 3, none⟩ fv') cv av fv' C A (F ++ [q]) l := by
  have hgr := Trn.of_grown (S := fun b => fv.ownBlock = some b) hg (fun b e => e)
  have hbx := hgr.heap h.box (not_own h.of h.box (by decide))
  have hsc := setCell_trn w' ⟨pb, 3, none⟩ fv'
  have hrs := hgr.heap h.res (not_own h.of h.res (by decide))
  have hb1 := heap_setCell_same w' pb 3 _ _ fv' hbx
  simp only [List.setIfInBounds_toArray, List.set_cons_succ, List.set_cons_zero] at hb1
  have hoc := own_trn h.oc hgr (fun k hk e => own_apart h.of h.oc (by decide) hk e)
  have hoa := own_trn h.oa hgr (fun k hk e => own_apart h.of h.oa (by decide) hk e)
  have hps := h.hp
  refine ⟨hb1, ?_, own_trn hoc hsc (fun k hk e => not_own hoc hbx (by decide) (by have e' : k = pb := e; rw [← e']; exact hk)), own_trn hoa hsc (fun k hk e => not_own hoa hbx (by decide) (by have e' : k = pb := e; rw [← e']; exact hk)), ?_, fun p hp => ?_, (h.below.grown hg (Nat.le_trans h.hb0 h.below.size) (own_row_le h.of)).setCell (by show base ≤ pb; omega) _, h.hp, h.hs, h.hne, h.hb0, ?_⟩
  · exact (h.src.trn hgr (not_ownT h.of h.src (by decide))).trn hsc (fun e => h.hne (show sb = pb from e).symm)
  · have := own_trn ho hsc (fun k hk e => not_own ho hbx (by decide) (by have e' : k = pb := e; rw [← e']; exact hk))
    simpa using this
  · have h1 : RdFunc (some (upFrom base)) w p.1 p.2.1 p.2.2 := by
      rcases List.mem_append.1 hp with hp | hp
      · exact h.rf p hp
      · rw [List.mem_singleton] at hp; subst hp; exact hq
    exact (func_grownT h.of hg (by decide) (by decide) (by decide) h1).pastT hbx hsc (by decide) (by decide) (by decide)
  · exact hsc.heap hrs (fun e => by have e' : base = pb := e; omega)
/-- The body's block, put together from the program's. -/
theorem PRt.env {s : ByteArray} {w0 w : World} {pb sb base : Nat} {wd : Int} {cv av fv : Value} {C : List ByteArray} {A : List ArrD} {F : List (FuncD × Value × Value)} {l : List UInt8} (h : PRt s w0 pb sb base wd w cv av fv C A F l) {bb : Nat} {z : World} {mv : Value} {par : Nat} {mn : Bool} (hz : Below w.heap.size w z) (hm : w.heap.size ≤ bb) (hbx : BdAt z bb sb wd cv av fv mv par F.length mn) (hC : 1 ≤ C.length) (hC2 : C.length ≤ 90) (hA : A.length ≤ 90) (hpar : par ≤ 90) (hF : F.length ≤ 90) (hP : ∀ q ∈ F, q.1.params.length ≤ 90) :
    BdE z bb sb ⟨A.length, C.length, par, F.map fun q => q.1.params.length, mn⟩ := by
  have hsw := h.src.lt
  obtain ⟨ca, cc, rfl, -⟩ := own_read h.oc
  obtain ⟨aa, ac, rfl, -⟩ := own_read h.oa
  obtain ⟨fa, fc, rfl, -⟩ := own_read h.of
  refine ⟨⟨wd, ca, cc, aa, ac, fa, fc, mv, by rw [List.length_map]; exact hbx, fun i n hi => ?_⟩, by omega, hC, hC2, hA, hpar, by simpa using hF, fun n hn => ?_⟩
  · rw [List.getElem?_map] at hi
    obtain ⟨q, hq, rfl⟩ : ∃ q, F[i]? = some q ∧ q.1.params.length = n := by
      cases hf : F[i]? with
      | none => rw [hf] at hi; cases hi
      | some q => rw [hf] at hi; exact ⟨q, rfl, Option.some.inj hi⟩
    have hil := (List.getElem?_eq_some_iff.1 hq).1
    obtain ⟨g, gc, hge, hgf, hgc⟩ := own_at h.of (by rw [flat_length funCells 5 (fun _ => rfl)]; omega)
    simp only [Value.slice.injEq] at hge
    obtain ⟨rfl, -, -⟩ := hge
    have c1 := hgc (i * 5 + 1) q.2.1 (by rw [flat_get funCells 5 (fun _ => rfl) F i 1 _ hq (by omega)]; rfl)
    obtain ⟨pa, pc, hpe, -⟩ := (h.rf q (List.mem_of_getElem? hq)).1
    rw [hpe] at c1
    obtain ⟨hgb, cs, hgh⟩ := hgf _ rfl
    refine ⟨g, 0, pa, pc, rfl, by simpa [Nat.add_assoc] using cell_keep hz c1, fun e => ?_⟩
    obtain ⟨n0, hs, -⟩ := h.src
    rw [e, hs] at hgh
    simp only [Option.some.injEq, Obj.cells.injEq] at hgh
    exact absurd hgh.2.1 (by decide)
  · obtain ⟨q, hq, rfl⟩ := List.mem_map.1 hn
    exact hP q hq
/-- A function under way: its block, its parameters, and the bytes. -/
structure FRt (s : ByteArray) (w6 : World) (sb fb : Nat) (w : World) (nm : ByteArray) (pv : Value) (K : List ByteArray) (l : List UInt8) : Prop where
  box : w.heap[fb]? = some (.cells #[.string nm, pv, .slice none 0 0, .int .i64 0, .int .i64 0] 59 (0, 0))
  src : TkL w sb s l
  op : w.ownsRow fb 9 1 pv K.length (K.flatMap strCells)
  tr : Trn (fun x => x = sb) w6 w
  hf : w6.heap.size ≤ fb
  hs : sb < w6.heap.size
section
variable {s : ByteArray} {w6 w w' : World} {sb fb : Nat} {nm : ByteArray} {pv : Value} {K : List ByteArray} {l l' : List UInt8}
theorem FRt.later (h : FRt s w6 sb fb w nm pv K l) (k : Below w.heap.size w w') : FRt s w6 sb fb w' nm pv K l :=
  ⟨(k.block fb (Array.getElem?_eq_some_iff.1 h.box).1).trans h.box, h.src.keep k, own_below h.op k, h.tr.trans (Trn.of_below k), h.hf, h.hs⟩
theorem FRt.bytes (h : FRt s w6 sb fb w nm pv K l) (t : Trn (fun x => x = sb) w w') (hs : TkL w' sb s l') : FRt s w6 sb fb w' nm pv K l' := by
  have h1 := h.hf
  have h2 := h.hs
  exact ⟨t.heap h.box (fun e => by have e' : fb = sb := e; omega), hs, own_trn h.op t (fun k hk e => by have := own_ge h.op hk; have e' : k = sb := e; omega), h.tr.trans t, h.hf, h.hs⟩
theorem FRt.par {pv' : Value} {n : ByteArray} (h : FRt s w6 sb fb w nm pv K l) (hg : w.grownBy w' pv.ownBlock) (ho : w'.ownsRow fb 9 1 pv' (K.length + 1) (K.flatMap strCells ++ [.string n])) :
    FRt s w6 sb fb (w'.setCell ⟨fb, 1, none⟩ pv') nm pv' (K ++ [n]) l := by
  have h1 := h.hf
  have h2 := h.hs
  have hgr := Trn.of_grown (S := fun b => pv.ownBlock = some b) hg (fun b e => e)
  have hbx := hgr.heap h.box (not_own h.op h.box (by decide))
  have hsc := setCell_trn w' ⟨fb, 1, none⟩ pv'
  have hb1 := heap_setCell_same w' fb 1 _ _ pv' hbx
  simp only [List.setIfInBounds_toArray, List.set_cons_succ, List.set_cons_zero] at hb1
  refine ⟨hb1, (h.src.trn hgr (not_ownT h.op h.src (by decide))).trn hsc (fun e => by have e' : sb = fb := e; omega), ?_, (h.tr.step hgr (fun i hi e => by have := own_ge h.op e; omega)).step hsc (fun i hi e => by have e' : i = fb := e; omega), h.hf, h.hs⟩
  have := own_trn ho hsc (fun k hk e => not_own ho hbx (by decide) (by have e' : k = fb := e; rw [← e']; exact hk))
  simpa [strCells] using this
end
theorem FRt.code {s : ByteArray} {w6 w : World} {sb fb : Nat} {nm : ByteArray} {pv : Value} {K : List ByteArray} {l : List UInt8} (h : FRt s w6 sb fb w nm pv K l) (lv : Value) :
    (w.setCell ⟨fb, 2, none⟩ lv).heap[fb]? = some (.cells #[.string nm, pv, lv, .int .i64 0, .int .i64 0] 59 (0, 0)) ∧ TkL (w.setCell ⟨fb, 2, none⟩ lv) sb s l ∧ (w.setCell ⟨fb, 2, none⟩ lv).ownsRow fb 9 1 pv K.length (K.flatMap strCells) ∧ Trn (fun x => x = sb) w6 (w.setCell ⟨fb, 2, none⟩ lv) := by
  have h1 := h.hf
  have h2 := h.hs
  have hsc := setCell_trn w ⟨fb, 2, none⟩ lv
  have hb1 := heap_setCell_same w fb 2 _ _ lv h.box
  simp only [List.setIfInBounds_toArray, List.set_cons_succ, List.set_cons_zero] at hb1
  exact ⟨hb1, h.src.trn hsc (fun e => by have e' : sb = fb := e; omega), own_trn h.op hsc (fun k hk e => not_own h.op h.box (by decide) (by have e' : k = fb := e; rw [← e']; exact hk)), h.tr.step hsc (fun i hi e => by have e' : i = fb := e; omega)⟩
/-- The program that is done: its main is written, and all of it is stored into the result. -/
theorem PRt.done {s : ByteArray} {w0 w w' : World} {pb sb base : Nat} {wd : Int} {cv av fv lv : Value} {C : List ByteArray} {A : List ArrD} {F : List (FuncD × Value × Value)} {l : List UInt8} {M : List InstrD} (h : PRt s w0 pb sb base wd w cv av fv C A F l) (t : Trn (fun x => x = pb ∨ x = base) w w') (hM : RdInstrs (some (upFrom base)) w lv M) (hw : 0 ≤ wd ∧ wd ≤ 100) (hC : C.length ≤ 100) (hC2 : ∀ s ∈ C, s.size ≤ maxLen) (hA : A.length ≤ 100) (hA2 : ∀ s ∈ A, InI64 s.size ∧ s.name.size ≤ maxLen) (hF : F.length ≤ 100) :
    RdProg (some (upFrom base)) w' ⟨wd, C, A, F.map Prod.fst, M⟩ cv av fv lv ∧ Below base w0 w' := by
  have hbx := h.box
  have hrs := h.res
  have hpb := h.hp
  have hne : ∀ (T : TypeId) (b : Nat), T ≠ 29 → Free (some (upFrom base)) T w b → ¬ (b = pb ∨ b = base) := fun T b hT hf e => by
    obtain ⟨_, ds, h4⟩ := hf _ rfl
    rcases e with e | e
    · rw [e, hbx] at h4
      simp only [Option.some.injEq, Obj.cells.injEq] at h4
      exact hT h4.2.1.symm
    · rw [e, hrs] at h4
      simp only [Option.some.injEq, Obj.cells.injEq] at h4
      exact hT h4.2.1.symm
  have hF' : ∀ T b, T ≠ 29 → b < w.heap.size → Free (some (upFrom base)) T w b → Free (some (upFrom base)) T w' b := fun T b hT hl hf => by
    intro k e
    cases e
    obtain ⟨h5, ds, h6⟩ := id (hf _ rfl)
    exact ⟨h5, ds, (t.block b hl (hne T b hT hf)).trans h6⟩
  have hC' : ∀ T b o v, T ≠ 29 → Free (some (upFrom base)) T w b → w.cell? ⟨b, o, none⟩ = some v → w'.cell? ⟨b, o, none⟩ = some v := fun T b o v hT hf hc => by
    rw [World.cell?_of_block (w := w) (t.block b (block_lt_of_cell hc) (hne T b hT hf))]; exact hc
  have hrf := own_funcs (P := F) rfl (by simpa using h.of) (by simp; omega) h.rf
  refine ⟨⟨?_, ?_, ?_, ?_, ?_⟩, h.below.trans (t.below base (Nat.le_trans h.hb0 h.below.size) (fun i hi e => by omega))⟩
  · exact RdStrs.map (S := fun T => T ≠ 29) hF' hC' (by decide) (own_strs (l := C) h.oc (by omega) hC2)
  · exact RdArrs.map (S := fun T => T ≠ 29) hF' hC' (by decide) (own_arrs (l := A) h.oa (by omega) hA2)
  · exact RdFuncs.map (S := fun T => T ≠ 29) hF' hC' (by decide) (by decide) (by decide) (by decide) hrf
  · exact RdInstrs.map (S := fun T => T ≠ 29) hF' hC' (by decide) (by decide) hM
  · unfold InI64; simp; omega
/-- The rows of instructions and of targets under way. -/
structure CR (s : ByteArray) (w : World) (sb base : Nat) (x : InstrD) (av : Value) (l : List UInt8) (z : World) (cv : Value) (P : List (InstrD × Value)) (tv : Value) (ts : List Int) : Prop where
  src : TkL z sb s l
  oc : z.ownsRow base 37 7 cv P.length (P.flatMap insCells)
  rp : ∀ q ∈ P, RdInstr (some (upFrom base)) z q.1 q.2
  rx : RdInstr (some (upFrom base)) z x av
  ot : z.ownsRow base 3 1 tv ts.length (ts.flatMap fun t => [.int .i64 t])
  tr : Trn (fun k => k = sb ∨ base ≤ k) w z
  hs : sb < base
section
variable {s : ByteArray} {w : World} {sb base : Nat} {x : InstrD} {av : Value} {l : List UInt8} {z z' : World} {cv : Value} {P : List (InstrD × Value)} {tv : Value} {ts : List Int}
theorem CR.below (h : CR s w sb base x av l z cv P tv ts) (hb : Below z.heap.size z z') : CR s w sb base x av l z' cv P tv ts :=
  ⟨h.src.keep hb, own_below h.oc hb, fun q hq => (h.rp q hq).keep hb, h.rx.keep hb, own_below h.ot hb, h.tr.trans (Trn.of_below hb), h.hs⟩
theorem CR.growC {cv' : Value} (h : CR s w sb base x av l z cv P tv ts) (hg : z.grownBy z' cv.ownBlock) (ho : z'.ownsRow base 37 7 cv' (P.length + 1) (P.flatMap insCells ++ insCells (x, av))) : CR s w sb base x av l z' cv' (P ++ [(x, av)]) tv ts := by
  have hgr := Trn.of_grown (S := fun b => cv.ownBlock = some b) hg (fun b e => e)
  refine ⟨h.src.trn hgr (not_ownT h.oc h.src (by decide)), by simpa using ho, fun q hq => ?_, instr_grown h.oc hg h.rx, own_trn h.ot hgr (fun k hk e => own_apart h.oc h.ot (by decide) hk e), h.tr.trans (hgr.mono fun i e => .inr (own_ge h.oc e)), h.hs⟩
  rcases List.mem_append.1 hq with hq | hq
  · exact instr_grown h.oc hg (h.rp q hq)
  · rw [List.mem_singleton] at hq; subst hq; exact instr_grown h.oc hg h.rx
theorem CR.growT {tv' : Value} {t : Int} (h : CR s w sb base x av l z cv P tv ts) (hg : z.grownBy z' tv.ownBlock) (ho : z'.ownsRow base 3 1 tv' (ts.length + 1) (ts.flatMap (fun t => [.int .i64 t]) ++ [.int .i64 t])) : CR s w sb base x av l z' cv P tv' (ts ++ [t]) := by
  have hgr := Trn.of_grown (S := fun b => tv.ownBlock = some b) hg (fun b e => e)
  exact ⟨h.src.trn hgr (not_ownT h.ot h.src (by decide)), own_trn h.oc hgr (fun k hk e => own_apart h.ot h.oc (by decide) hk e), fun q hq => instr_grownI h.ot hg (h.rp q hq), instr_grownI h.ot hg h.rx, by simpa using ho, h.tr.trans (hgr.mono fun i e => .inr (own_ge h.ot e)), h.hs⟩
theorem CR.code {c : List (InstrD × Int)} (h : CR s w sb base x av l z cv P tv ts) (h1 : P.map Prod.fst = c.map Prod.fst) (h2 : ts = c.map Prod.snd) : CodeAt z base cv tv c := by
  have e1 : P.length = c.length := by have := congrArg List.length h1; simpa using this
  have e2 : ts.length = c.length := by rw [h2]; simp
  refine ⟨P, h1, by rw [← e1]; exact h.oc, h.rp, ?_⟩
  have ho := h.ot
  rw [e2] at ho
  rw [h2, List.flatMap_map] at ho
  exact ho
end
theorem CodeAt.trn {S : Nat → Prop} {w w' : World} {base : Nat} {cv tv : Value} {c : List (InstrD × Int)} (h : CodeAt w base cv tv c) (t : Trn S w w') (hs : ∀ b, base ≤ b → ¬ S b) : CodeAt w' base cv tv c := by
  obtain ⟨P, h1, h2, h3, h4⟩ := h
  exact ⟨P, h1, own_trn h2 t (fun k hk => hs k (own_ge h2 hk)), fun q hq => (h3 q hq).sameT t hs, own_trn h4 t (fun k hk => hs k (own_ge h4 hk))⟩
/-- What is made reads as an instruction. -/
theorem made_rd {w z : World} {base : Nat} {x : InstrD × Int} {av : Value} (hg : GoodI x) (hb : base ≤ w.heap.size) (ho : z.ownsRow w.heap.size 45 2 av x.1.args.length (x.1.args.flatMap argCells)) : RdInstr (some (upFrom base)) z x.1 av := by
  have ha := hg.args
  have hn : ∀ b : ByteArray, NmOk b → b.size ≤ maxLen := fun b h => by unfold NmOk at h; unfold maxLen; omega
  refine ⟨own_args (own_upS ho hb) (by omega) (fun a hm => ?_), by have := hg.kind; unfold InU8; omega, by have := hg.op; unfold InU8; omega, by have := hg.line; unfold InI64; omega, by have := hg.col; unfold InI64; omega, hn _ hg.dst, hn _ hg.name⟩
  obtain ⟨h1, h2, h3⟩ := ha.2 a hm
  exact ⟨by unfold InU64; omega, hn _ h1⟩
theorem FRt.made {s : ByteArray} {w6 w w' : World} {sb fb b2 : Nat} {nm : ByteArray} {pv : Value} {K : List ByteArray} {l l' : List UInt8} (h : FRt s w6 sb fb w nm pv K l) (t : Trn (fun k => k = sb ∨ b2 ≤ k) w w') (hs : TkL w' sb s l') (hm : fb < b2) (hp : ∀ k, pv.ownBlock = some k → k < b2) : FRt s w6 sb fb w' nm pv K l' := by
  have h1 := h.hf
  have h2 := h.hs
  exact ⟨t.heap h.box (fun e => by omega), hs, own_trn h.op t (fun k hk e => by have := own_ge h.op hk; have := hp k hk; omega), h.tr.step t (fun i hi e => by show i = sb; omega), h.hf, h.hs⟩
theorem BdE.trn2 {w w' : World} {bb g base : Nat} {E : EnvS} (h : BdE w bb g E) (t : Trn (fun k => k = g ∨ base ≤ k) w w') (hb : w.heap.size ≤ base) : BdE w' bb g E := by
  have hl := h.lt
  obtain ⟨wd, ca, cc, aa, ac, fa, fc, mv, h1, h2⟩ := h.box
  refine ⟨⟨wd, ca, cc, aa, ac, fa, fc, mv, t.heap h1 (fun e => by have := h.hne; omega), fun i n hi => ?_⟩, h.hne, h.hc, h.hc2, h.ha2, h.hp, h.hf2, h.ho⟩
  obtain ⟨b, q, pa, pc, e, hx, hbn⟩ := h2 i n hi
  have hbl : b < w.heap.size := block_lt_of_cell hx
  exact ⟨b, q, pa, pc, e, by rw [World.cell?_of_block (w := w) (t.block b hbl (fun e => by omega))]; exact hx, hbn⟩
theorem infoFunR : (Tryd.prog.info? 59).map (fun i => (i.zero, i.size, i.bytes)) = some (some (.agg #[.string ⟨#[]⟩, .slice none 0 0, .slice none 0 0, .int .i64 0, .int .i64 0]), 5, 80) := by kernel_rfl
end Go.Proofs.YtbfkhnmpfffkmaaDoor
