/- Contract of One: a program that reads. Condition: the instruction that comes in reads. What the walk of ProgExamples needs besides: a region that draws whose writers leave one block, strings of two bytes, rows of instructions that are filled in place, and what the check says of long programs. No condition of its own. -/
import Derived.Test.YtjdbdoeopobciaaDoorAwa
import Derived.Test.YtjdbdoeopobciaaDoorOwn
set_option linter.unnecessarySimpa false
set_option linter.unusedVariables false
set_option linter.unusedSimpArgs false
namespace Go.Proofs.YtjdbdoeopobciaaDoor
open Go.ChangeShapes Go.WideShapes Go.ChangeAt Go.RowKit
theorem heap_push_old {W : World} {b : Nat} {x : Obj} (h : W.heap[b]? = some x) (o : Obj) : (W.alloc o).heap[b]? = some x := by
  have hb := (Array.getElem?_eq_some_iff.1 h).1
  exact (((Below.refl W.heap.size W).alloc (Nat.le_refl _) o).block b hb).trans h
theorem heap5 (W : World) (a b c d e : Obj) : (((((W.alloc a).alloc b).alloc c).alloc d).alloc e).heap[W.heap.size]? = some a ∧ (((((W.alloc a).alloc b).alloc c).alloc d).alloc e).heap[W.heap.size + 1]? = some b ∧ (((((W.alloc a).alloc b).alloc c).alloc d).alloc e).heap[W.heap.size + 1 + 1]? = some c ∧ (((((W.alloc a).alloc b).alloc c).alloc d).alloc e).heap[W.heap.size + 1 + 1 + 1]? = some d ∧ (((((W.alloc a).alloc b).alloc c).alloc d).alloc e).heap[W.heap.size + 1 + 1 + 1 + 1]? = some e ∧ (((((W.alloc a).alloc b).alloc c).alloc d).alloc e).heap.size = W.heap.size + 1 + 1 + 1 + 1 + 1 ∧ ∀ k, k < W.heap.size → (((((W.alloc a).alloc b).alloc c).alloc d).alloc e).heap[k]? = W.heap[k]? := by
  have hs : ∀ (X : World) (o : Obj), (X.alloc o).heap.size = X.heap.size + 1 := fun X o => by show (X.heap.push _).size = _; simp
  have h1 := heap_alloc_new W a
  have h2 := heap_alloc_new (W.alloc a) b
  have h3 := heap_alloc_new ((W.alloc a).alloc b) c
  have h4 := heap_alloc_new (((W.alloc a).alloc b).alloc c) d
  have h5 := heap_alloc_new ((((W.alloc a).alloc b).alloc c).alloc d) e
  simp only [hs] at h2 h3 h4 h5
  refine ⟨heap_push_old (heap_push_old (heap_push_old (heap_push_old h1 _) _) _) _, heap_push_old (heap_push_old (heap_push_old h2 _) _) _, heap_push_old (heap_push_old h3 _) _, heap_push_old h4 _, h5, by simp only [hs], fun k hk => ?_⟩
  have hb : Below W.heap.size W (((((W.alloc a).alloc b).alloc c).alloc d).alloc e) := (((((Below.refl _ _).alloc (Nat.le_refl _) a).alloc (by simp) b).alloc (by simp; omega) c).alloc (by simp; omega) d).alloc (by simp; omega) e
  exact hb.block k hk
theorem rdF {w : World} {g c : Nat} {l : List (FuncD × Value × Value)} (hg : w.heap[g]? = some (.cells (l.flatMap funCells).toArray 52 (0, 0))) (hl : l.length ≤ 1000) (hx : ∀ p ∈ l, RdFunc none w p.1 p.2.1 p.2.2) (hcap : l.length ≤ c := by simp) : RdFuncs none w (.slice (some ⟨g, 0, none⟩) l.length c) (l.map Prod.fst) := by
  refine ⟨some ⟨g, 0, none⟩, c, by rw [List.length_map], by rw [List.length_map]; omega, fun i s hs => ?_⟩
  rw [List.getElem?_map] at hs
  cases hp : l[i]? with
  | none => rw [hp] at hs; cases hs
  | some p =>
    rw [hp] at hs
    cases hs
    have hcell : ∀ j v, j < 5 → (funCells p)[j]? = some v → w.cell? ⟨g, 0 + i * 5 + j, none⟩ = some v := fun j v hj hv => by
      refine row_of hg (0 + i * 5 + j) v ?_
      have := flat_get funCells 5 (fun _ => rfl) l i j p hp hj
      rw [Nat.zero_add, List.getElem?_toArray, this]
      exact hv
    exact ⟨g, 0, p.2.1, p.2.2, rfl, Free.none _ _ _, hcell 0 _ (by omega) rfl, hcell 1 _ (by omega) rfl, hcell 2 _ (by omega) rfl, hcell 3 _ (by omega) rfl, hcell 4 _ (by omega) rfl, hx p (List.mem_of_getElem? hp)⟩
theorem rdR {w : World} {g c : Nat} {l : List ArrD} (hg : w.heap[g]? = some (.cells (l.flatMap arrCells).toArray 50 (0, 0))) (hl : l.length ≤ 1000) (hx : ∀ s ∈ l, InI64 s.size ∧ s.name.size ≤ maxLen) (hcap : l.length ≤ c := by simp) : RdArrs none w (.slice (some ⟨g, 0, none⟩) l.length c) l := by
  refine ⟨some ⟨g, 0, none⟩, c, rfl, by omega, fun i s hs => ⟨g, 0, rfl, Free.none _ _ _, row_of hg (0 + i * 2) _ ?_, row_of hg (0 + i * 2 + 1) _ ?_, hx s (List.mem_of_getElem? hs)⟩⟩
  · have := flat_get arrCells 2 (fun _ => rfl) l i 0 s hs (by omega)
    rw [Nat.zero_add, List.getElem?_toArray, ← Nat.add_zero (i * 2), this]; rfl
  · have := flat_get arrCells 2 (fun _ => rfl) l i 1 s hs (by omega)
    rw [Nat.zero_add, List.getElem?_toArray, this]; rfl
set_option maxRecDepth 100000 in
set_option maxHeartbeats 3200000 in
theorem one_any (x : InstrD) (av : Value) (main : Bool) (w : World) (h : RdInstr none w x av) :
    Calls Tryd.prog 20 #[instrV x av, .bool main] w fun e w' => ∃ P cv av' fv mv, e = .returned (progV P cv av' fv mv) ∧ RdProg none w' P cv av' fv mv ∧ Below w.heap.size w w' := by
  obtain ⟨aa, ka, rfl, -, -⟩ := id h.1
  have H := Lib.hid h
  clear h
  go_enter Tryd.func20, Tryd.ntmps20
  go_upto_region 1 with fail
  have hb1 := ((Below.refl w.heap.size w).alloc (Nat.le_refl _) (.cells #[.int .u8 x.kind, .int .u8 x.op, .string x.dst, .string x.name, .slice aa x.args.length ka, .int .i64 x.line, .int .i64 x.col] 43)).alloc (by simp) (.cells #[.int .i64 0, .slice none 0 0, .slice none 0 0, .slice none 0 0, .slice none 0 0] 27)
  have q0 := heap_alloc2_old w (.cells #[.int .u8 x.kind, .int .u8 x.op, .string x.dst, .string x.name, .slice aa x.args.length ka, .int .i64 x.line, .int .i64 x.col] 43) (.cells #[.int .i64 0, .slice none 0 0, .slice none 0 0, .slice none 0 0, .slice none 0 0] 27)
  have q1 := heap_alloc2_new w (.cells #[.int .u8 x.kind, .int .u8 x.op, .string x.dst, .string x.name, .slice aa x.args.length ka, .int .i64 x.line, .int .i64 x.col] 43) (.cells #[.int .i64 0, .slice none 0 0, .slice none 0 0, .slice none 0 0, .slice none 0 0] 27)
  generalize ((w.alloc (.cells #[.int .u8 x.kind, .int .u8 x.op, .string x.dst, .string x.name, .slice aa x.args.length ka, .int .i64 x.line, .int .i64 x.col] 43)).alloc (.cells #[.int .i64 0, .slice none 0 0, .slice none 0 0, .slice none 0 0, .slice none 0 0] 27)) = W1 at *
  have HB1 := Lib.hid hb1
  have Q0 := Lib.hid q0
  have Q1 := Lib.hid q1
  clear hb1 q0 q1
  go_upto_region 2 with fail
  obtain ⟨n0, n1, n2, n3, n4, hsz, hold⟩ := heap5 W1 (.cells #[.string ⟨#[99]⟩] 9) (.cells #[.string ⟨#[97]⟩, .int .i64 3] 50) (.cells #[.string ⟨#[112]⟩] 9) (.cells #[.string ⟨#[102]⟩, .slice (some ⟨W1.heap.size + 1 + 1, 0, none⟩) 1 1, .slice none 0 0, .int .i64 3, .int .i64 1, .string ⟨#[103]⟩, .slice none 0 0, .slice none 0 0, .int .i64 5, .int .i64 1] 52) (.cells #[.int .i64 4, .slice (some ⟨W1.heap.size, 0, none⟩) 1 1, .slice (some ⟨W1.heap.size + 1, 0, none⟩) 1 1, .slice (some ⟨W1.heap.size + 1 + 1 + 1, 0, none⟩) 2 2, .slice none 0 0] 27)
  have hs1 : w.heap.size + 1 < W1.heap.size := (Array.getElem?_eq_some_iff.1 Q1.out).1
  have q0 := (hold w.heap.size (by omega)).trans Q0.out
  have q1 := (hold (w.heap.size + 1) (by omega)).trans Q1.out
  have hb2 : Below W1.heap.size W1 (((((W1.alloc (.cells #[.string ⟨#[99]⟩] 9)).alloc (.cells #[.string ⟨#[97]⟩, .int .i64 3] 50)).alloc (.cells #[.string ⟨#[112]⟩] 9)).alloc (.cells #[.string ⟨#[102]⟩, .slice (some ⟨W1.heap.size + 1 + 1, 0, none⟩) 1 1, .slice none 0 0, .int .i64 3, .int .i64 1, .string ⟨#[103]⟩, .slice none 0 0, .slice none 0 0, .int .i64 5, .int .i64 1] 52)).alloc (.cells #[.int .i64 4, .slice (some ⟨W1.heap.size, 0, none⟩) 1 1, .slice (some ⟨W1.heap.size + 1, 0, none⟩) 1 1, .slice (some ⟨W1.heap.size + 1 + 1 + 1, 0, none⟩) 2 2, .slice none 0 0] 27)) := (((((Below.refl _ _).alloc (Nat.le_refl _) _).alloc (by simp) _).alloc (by simp; omega) _).alloc (by simp; omega) _).alloc (by simp; omega) _
  generalize (((((W1.alloc (.cells #[.string ⟨#[99]⟩] 9)).alloc (.cells #[.string ⟨#[97]⟩, .int .i64 3] 50)).alloc (.cells #[.string ⟨#[112]⟩] 9)).alloc (.cells #[.string ⟨#[102]⟩, .slice (some ⟨W1.heap.size + 1 + 1, 0, none⟩) 1 1, .slice none 0 0, .int .i64 3, .int .i64 1, .string ⟨#[103]⟩, .slice none 0 0, .slice none 0 0, .int .i64 5, .int .i64 1] 52)).alloc (.cells #[.int .i64 4, .slice (some ⟨W1.heap.size, 0, none⟩) 1 1, .slice (some ⟨W1.heap.size + 1, 0, none⟩) 1 1, .slice (some ⟨W1.heap.size + 1 + 1 + 1, 0, none⟩) 2 2, .slice none 0 0] 27)) = W2 at *
  have HB2 := Lib.hid (bcomp HB1.out (hb2.mono (Nat.le_refl _)))
  have N0 := Lib.hid n0
  have N1 := Lib.hid n1
  have N2 := Lib.hid n2
  have N3 := Lib.hid n3
  have N4 := Lib.hid n4
  have P0 := Lib.hid q0
  have P1 := Lib.hid q1
  have x5 := row_of q0 5 _ rfl
  have x6 := row_of q0 6 _ rfl
  have f5 := frozen_of_row W2 _ 5 _ _ q0
  have f6 := frozen_of_row W2 _ 6 _ _ q0
  clear n0 n1 n2 n3 n4 hold hb2 Q0 Q1 q0 q1 HB1
  generalize W1.heap.size = m at *
  go_upto_region 4 with fail
  have hw2 : w.heap.size < W2.heap.size := (Array.getElem?_eq_some_iff.1 P0.out).1
  have hsz3 : ((W2.setCell ⟨w.heap.size, 5, none⟩ (.int .i64 9)).setCell ⟨w.heap.size, 6, none⟩ (.int .i64 2)).heap.size = W2.heap.size := by simp
  have hk3 : ∀ k, k ≠ w.heap.size → k < W2.heap.size → (((W2.setCell ⟨w.heap.size, 5, none⟩ (.int .i64 9)).setCell ⟨w.heap.size, 6, none⟩ (.int .i64 2)).alloc (.cells #[.int .u8 10, .int .u8 0, .string ⟨#[]⟩, .string ⟨#[76]⟩, .slice none 0 0, .int .i64 10, .int .i64 1] 43)).heap[k]? = W2.heap[k]? := fun k hk hl => ((Below.heap_alloc _ _ _ (by rw [hsz3]; exact hl)).trans (heap_setCell_other _ _ _ _ hk)).trans (heap_setCell_other _ _ _ _ hk)
  have hx3 := heap_push_old (heap_setCell_same _ _ 6 _ _ (.int .i64 2) (heap_setCell_same _ _ 5 _ _ (.int .i64 9) P0.out)) (.cells #[.int .u8 10, .int .u8 0, .string ⟨#[]⟩, .string ⟨#[76]⟩, .slice none 0 0, .int .i64 10, .int .i64 1] 43)
  have hl3 := heap_alloc_new ((W2.setCell ⟨w.heap.size, 5, none⟩ (.int .i64 9)).setCell ⟨w.heap.size, 6, none⟩ (.int .i64 2)) (.cells #[.int .u8 10, .int .u8 0, .string ⟨#[]⟩, .string ⟨#[76]⟩, .slice none 0 0, .int .i64 10, .int .i64 1] 43)
  have hb3 : Below w.heap.size w (((W2.setCell ⟨w.heap.size, 5, none⟩ (.int .i64 9)).setCell ⟨w.heap.size, 6, none⟩ (.int .i64 2)).alloc (.cells #[.int .u8 10, .int .u8 0, .string ⟨#[]⟩, .string ⟨#[76]⟩, .slice none 0 0, .int .i64 10, .int .i64 1] 43)) := ((HB2.out.setCell (Nat.le_refl _) _).setCell (Nat.le_refl _) _).alloc (by rw [hsz3]; omega) _
  rw [hsz3, hsz] at hl3
  have hm : w.heap.size + 1 < m := hs1
  have N0 := Lib.hid ((hk3 m (by omega) (by omega)).trans N0.out)
  have N1 := Lib.hid ((hk3 (m + 1) (by omega) (by omega)).trans N1.out)
  have N2 := Lib.hid ((hk3 (m + 1 + 1) (by omega) (by omega)).trans N2.out)
  have N3 := Lib.hid ((hk3 (m + 1 + 1 + 1) (by omega) (by omega)).trans N3.out)
  have N4 := Lib.hid ((hk3 (m + 1 + 1 + 1 + 1) (by omega) (by omega)).trans N4.out)
  have P1 := Lib.hid ((hk3 (w.heap.size + 1) (by omega) (by omega)).trans P1.out)
  have hsz4 : (((W2.setCell ⟨w.heap.size, 5, none⟩ (.int .i64 9)).setCell ⟨w.heap.size, 6, none⟩ (.int .i64 2)).alloc (.cells #[.int .u8 10, .int .u8 0, .string ⟨#[]⟩, .string ⟨#[76]⟩, .slice none 0 0, .int .i64 10, .int .i64 1] 43)).heap.size = m + 1 + 1 + 1 + 1 + 1 + 1 := by
    show (World.heap _ |>.push _).size = _
    rw [Array.size_push, hsz3, hsz]
  clear hsz3 hk3 hsz x5 x6 f5 f6 hw2 hs1 P0 HB2
  generalize (((W2.setCell ⟨w.heap.size, 5, none⟩ (.int .i64 9)).setCell ⟨w.heap.size, 6, none⟩ (.int .i64 2)).alloc (.cells #[.int .u8 10, .int .u8 0, .string ⟨#[]⟩, .string ⟨#[76]⟩, .slice none 0 0, .int .i64 10, .int .i64 1] 43)) = W3 at *
  have x0 := row_of hx3 0 _ rfl
  have x1 := row_of hx3 1 _ rfl
  have x2 := row_of hx3 2 _ rfl
  have x3 := row_of hx3 3 _ rfl
  have x4 := row_of hx3 4 _ rfl
  have x5 := row_of hx3 5 _ rfl
  have x6 := row_of hx3 6 _ rfl
  have y0 := row_of hl3 0 _ rfl
  have y1 := row_of hl3 1 _ rfl
  have y2 := row_of hl3 2 _ rfl
  have y3 := row_of hl3 3 _ rfl
  have y4 := row_of hl3 4 _ rfl
  have y5 := row_of hl3 5 _ rfl
  have y6 := row_of hl3 6 _ rfl
  have z4 := row_of N4.out 4 _ rfl
  have g4 := frozen_of_row W3 _ 4 _ _ N4.out
  have z3 := row_of N4.out 3 _ rfl
  have u7 := row_of N3.out 7 _ rfl
  have v7 := frozen_of_row W3 _ 7 _ _ N3.out
  have HB3 := Lib.hid hb3
  clear hx3 hl3 hb3
  have HRI : Hid (∀ w', Below w.heap.size w w' → RdInstr none w' { x with line := 9, col := 2 } (.slice aa x.args.length ka) ∧ RdInstr none w' (ins 10 0 (bs []) (bs [76]) [] 10 1) (.slice none 0 0)) := by
    intro w' hb
    obtain ⟨h1, h2, h3, h4, h5, h6, h7⟩ := H.out.keep hb
    exact ⟨⟨h1, h2, h3, (by show InI64 9; unfold InI64; omega), (by show InI64 2; unfold InI64; omega), h6, h7⟩, ⟨rdArgs_nil _ _, by decide, by decide, by decide, by decide, by decide, by decide⟩⟩
  cases main
  · go_upto_region 7 with fail
    have hk4 : ∀ k, k ≠ m + 1 + 1 + 1 → k < m + 1 + 1 + 1 + 1 + 1 + 1 → ((W3.setCell ⟨m + 1 + 1 + 1, 7, none⟩ (.slice (some ⟨m + 1 + 1 + 1 + 1 + 1 + 1, 0, none⟩) 2 2)).alloc (.cells #[.int .u8 10, .int .u8 0, .string ⟨#[]⟩, .string ⟨#[76]⟩, .slice none 0 0, .int .i64 10, .int .i64 1, .int .u8 x.kind, .int .u8 x.op, .string x.dst, .string x.name, .slice aa x.args.length ka, .int .i64 9, .int .i64 2] 43)).heap[k]? = W3.heap[k]? := fun k hk hl => (Below.heap_alloc _ _ _ (by simp; omega)).trans (heap_setCell_other _ _ _ _ hk)
    have hb4 : Below w.heap.size w ((W3.setCell ⟨m + 1 + 1 + 1, 7, none⟩ (.slice (some ⟨m + 1 + 1 + 1 + 1 + 1 + 1, 0, none⟩) 2 2)).alloc (.cells #[.int .u8 10, .int .u8 0, .string ⟨#[]⟩, .string ⟨#[76]⟩, .slice none 0 0, .int .i64 10, .int .i64 1, .int .u8 x.kind, .int .u8 x.op, .string x.dst, .string x.name, .slice aa x.args.length ka, .int .i64 9, .int .i64 2] 43)) := (HB3.out.setCell (by simp; omega) _).alloc (by simp; omega) _
    have hn4 := heap_push_old (heap_setCell_same _ _ 7 _ _ (.slice (some ⟨m + 1 + 1 + 1 + 1 + 1 + 1, 0, none⟩) 2 2) N3.out) (.cells #[.int .u8 10, .int .u8 0, .string ⟨#[]⟩, .string ⟨#[76]⟩, .slice none 0 0, .int .i64 10, .int .i64 1, .int .u8 x.kind, .int .u8 x.op, .string x.dst, .string x.name, .slice aa x.args.length ka, .int .i64 9, .int .i64 2] 43)
    have hi4 := heap_alloc_new (W3.setCell ⟨m + 1 + 1 + 1, 7, none⟩ (.slice (some ⟨m + 1 + 1 + 1 + 1 + 1 + 1, 0, none⟩) 2 2)) (.cells #[.int .u8 10, .int .u8 0, .string ⟨#[]⟩, .string ⟨#[76]⟩, .slice none 0 0, .int .i64 10, .int .i64 1, .int .u8 x.kind, .int .u8 x.op, .string x.dst, .string x.name, .slice aa x.args.length ka, .int .i64 9, .int .i64 2] 43)
    have hz4 : (W3.setCell ⟨m + 1 + 1 + 1, 7, none⟩ (.slice (some ⟨m + 1 + 1 + 1 + 1 + 1 + 1, 0, none⟩) 2 2)).heap.size = m + 1 + 1 + 1 + 1 + 1 + 1 := by simp; omega
    rw [hz4] at hi4
    clear hz4
    generalize ((W3.setCell ⟨m + 1 + 1 + 1, 7, none⟩ (.slice (some ⟨m + 1 + 1 + 1 + 1 + 1 + 1, 0, none⟩) 2 2)).alloc (.cells #[.int .u8 10, .int .u8 0, .string ⟨#[]⟩, .string ⟨#[76]⟩, .slice none 0 0, .int .i64 10, .int .i64 1, .int .u8 x.kind, .int .u8 x.op, .string x.dst, .string x.name, .slice aa x.args.length ka, .int .i64 9, .int .i64 2] 43)) = W4 at *
    have M0 := (hk4 m (by omega) (by omega)).trans N0.out
    have M1 := (hk4 (m + 1) (by omega) (by omega)).trans N1.out
    have M2 := (hk4 (m + 1 + 1) (by omega) (by omega)).trans N2.out
    have M4 := (hk4 (m + 1 + 1 + 1 + 1) (by omega) (by omega)).trans N4.out
    have M3 := hn4
    have MP := Lib.hid ((hk4 (w.heap.size + 1) (by omega) (by omega)).trans P1.out)
    have t0 := row_of M4 0 _ rfl
    have t1 := row_of M4 1 _ rfl
    have t2 := row_of M4 2 _ rfl
    have t3 := row_of M4 3 _ rfl
    have t4 := row_of M4 4 _ rfl
    have HB4 := Lib.hid hb4
    have HRW : Hid (∀ w', (∀ k, m ≤ k → w'.heap[k]? = W4.heap[k]?) → Below w.heap.size w w' → ∃ P cv av' fv mv, Ending.returned (.agg #[.int .i64 4, .slice (some ⟨m, 0, none⟩) 1 1, .slice (some ⟨m + 1, 0, none⟩) 1 1, .slice (some ⟨m + 1 + 1 + 1, 0, none⟩) 2 2, .slice none 0 0]) = .returned (progV P cv av' fv mv) ∧ RdProg none w' P cv av' fv mv ∧ Below w.heap.size w w') := by
      intro w' hk hb
      have m0 := (hk m (by omega)).trans M0
      have m1 := (hk (m + 1) (by omega)).trans M1
      have m2 := (hk (m + 1 + 1) (by omega)).trans M2
      have m3 := (hk (m + 1 + 1 + 1) (by omega)).trans M3
      have mi := (hk (m + 1 + 1 + 1 + 1 + 1 + 1) (by omega)).trans hi4
      obtain ⟨r1, r2⟩ := HRI.out w' hb
      have hI : RdInstrs none w' (.slice (some ⟨m + 1 + 1 + 1 + 1 + 1 + 1, 0, none⟩) 2 2) _ := rdI (l := [(ins 10 0 (bs []) (bs [76]) [] 10 1, (.slice none 0 0 : Value)), ({ x with line := 9, col := 2 }, .slice aa x.args.length ka)]) mi (by simp) (by intro p hp; simp only [List.mem_cons, List.not_mem_nil, or_false] at hp; rcases hp with rfl | rfl; exact r2; exact r1)
      have hF : RdFuncs none w' (.slice (some ⟨m + 1 + 1 + 1, 0, none⟩) 2 2) _ := rdF (l := [((⟨bs [102], [bs [112]], [], 3, 1⟩ : FuncD), (.slice (some ⟨m + 1 + 1, 0, none⟩) 1 1 : Value), (.slice none 0 0 : Value)), (⟨bs [103], [], [ins 10 0 (bs []) (bs [76]) [] 10 1, { x with line := 9, col := 2 }], 5, 1⟩, .slice none 0 0, .slice (some ⟨m + 1 + 1 + 1 + 1 + 1 + 1, 0, none⟩) 2 2)]) m3 (by simp) (by intro p hp; simp only [List.mem_cons, List.not_mem_nil, or_false] at hp; rcases hp with rfl | rfl; exact ⟨rdS (l := [bs [112]]) m2 (by simp) (by intro s hs; rw [List.mem_singleton] at hs; subst hs; decide), rdInstrs_nil _ _, (by show InI64 3; unfold InI64; omega), (by show InI64 1; unfold InI64; omega), (by show (bs [102]).size ≤ maxLen; decide)⟩; exact ⟨rdStrs_nil _ _, hI, (by show InI64 5; unfold InI64; omega), (by show InI64 1; unfold InI64; omega), (by show (bs [103]).size ≤ maxLen; decide)⟩)
      refine ⟨⟨4, [bs [99]], [⟨bs [97], 3⟩], _, _⟩, _, _, _, _, rfl, ⟨rdS (l := [bs [99]]) m0 (by simp) (by intro s hs; rw [List.mem_singleton] at hs; subst hs; decide), rdR (l := [⟨bs [97], 3⟩]) m1 (by simp) (by intro s hs; rw [List.mem_singleton] at hs; subst hs; exact ⟨by show InI64 3; unfold InI64; omega, by decide⟩), hF, rdInstrs_nil _ _, (by show InI64 4; unfold InI64; omega)⟩, hb⟩
    clear hk4 hb4 hn4 hi4 M0 M1 M2 M3 M4
    go_wp2_with (refine wpList_store_row rfl 27 (.tmp 4) (.tmp 33) rfl (w.heap.size + 1) #[.int .i64 4, .slice (some ⟨m, 0, none⟩) 1 1, .slice (some ⟨m + 1, 0, none⟩) 1 1, .slice (some ⟨m + 1 + 1 + 1, 0, none⟩) 2 2, .slice none 0 0] rfl rfl 27 #[.int .i64 0, .slice none 0 0, .slice none 0 0, .slice none 0 0, .slice none 0 0] ?h2 ?s2 ?s3 ?s4 ?_; exact MP.out; kernel_rfl; kernel_rfl; kernel_rfl)
    refine bodyPost_ret (results_cell_row (P := Tryd.prog) (fn := Tryd.f20) rfl _ _ (w.heap.size + 1) 27 _ (0,0) _ rfl (setRow_heap _ _ _ _ _ _ MP.out) Tryd.underlying27 rfl (by kernel_rfl)) rfl ?_
    exact HRW.out _ (fun k hk => setRow_other _ _ _ _ (by omega)) (below_row HB4.out (by omega) _)
  · go_upto_region 7 with fail
    have hk4 : ∀ k, k ≠ m + 1 + 1 + 1 + 1 → k < m + 1 + 1 + 1 + 1 + 1 + 1 → ((W3.setCell ⟨m + 1 + 1 + 1 + 1, 4, none⟩ (.slice (some ⟨m + 1 + 1 + 1 + 1 + 1 + 1, 0, none⟩) 2 2)).alloc (.cells #[.int .u8 x.kind, .int .u8 x.op, .string x.dst, .string x.name, .slice aa x.args.length ka, .int .i64 9, .int .i64 2, .int .u8 10, .int .u8 0, .string ⟨#[]⟩, .string ⟨#[76]⟩, .slice none 0 0, .int .i64 10, .int .i64 1] 43)).heap[k]? = W3.heap[k]? := fun k hk hl => (Below.heap_alloc _ _ _ (by simp; omega)).trans (heap_setCell_other _ _ _ _ hk)
    have hb4 : Below w.heap.size w ((W3.setCell ⟨m + 1 + 1 + 1 + 1, 4, none⟩ (.slice (some ⟨m + 1 + 1 + 1 + 1 + 1 + 1, 0, none⟩) 2 2)).alloc (.cells #[.int .u8 x.kind, .int .u8 x.op, .string x.dst, .string x.name, .slice aa x.args.length ka, .int .i64 9, .int .i64 2, .int .u8 10, .int .u8 0, .string ⟨#[]⟩, .string ⟨#[76]⟩, .slice none 0 0, .int .i64 10, .int .i64 1] 43)) := (HB3.out.setCell (by simp; omega) _).alloc (by simp; omega) _
    have hn4 := heap_push_old (heap_setCell_same _ _ 4 _ _ (.slice (some ⟨m + 1 + 1 + 1 + 1 + 1 + 1, 0, none⟩) 2 2) N4.out) (.cells #[.int .u8 x.kind, .int .u8 x.op, .string x.dst, .string x.name, .slice aa x.args.length ka, .int .i64 9, .int .i64 2, .int .u8 10, .int .u8 0, .string ⟨#[]⟩, .string ⟨#[76]⟩, .slice none 0 0, .int .i64 10, .int .i64 1] 43)
    have hi4 := heap_alloc_new (W3.setCell ⟨m + 1 + 1 + 1 + 1, 4, none⟩ (.slice (some ⟨m + 1 + 1 + 1 + 1 + 1 + 1, 0, none⟩) 2 2)) (.cells #[.int .u8 x.kind, .int .u8 x.op, .string x.dst, .string x.name, .slice aa x.args.length ka, .int .i64 9, .int .i64 2, .int .u8 10, .int .u8 0, .string ⟨#[]⟩, .string ⟨#[76]⟩, .slice none 0 0, .int .i64 10, .int .i64 1] 43)
    have hz4 : (W3.setCell ⟨m + 1 + 1 + 1 + 1, 4, none⟩ (.slice (some ⟨m + 1 + 1 + 1 + 1 + 1 + 1, 0, none⟩) 2 2)).heap.size = m + 1 + 1 + 1 + 1 + 1 + 1 := by simp; omega
    rw [hz4] at hi4
    clear hz4
    generalize ((W3.setCell ⟨m + 1 + 1 + 1 + 1, 4, none⟩ (.slice (some ⟨m + 1 + 1 + 1 + 1 + 1 + 1, 0, none⟩) 2 2)).alloc (.cells #[.int .u8 x.kind, .int .u8 x.op, .string x.dst, .string x.name, .slice aa x.args.length ka, .int .i64 9, .int .i64 2, .int .u8 10, .int .u8 0, .string ⟨#[]⟩, .string ⟨#[76]⟩, .slice none 0 0, .int .i64 10, .int .i64 1] 43)) = W4 at *
    have M0 := (hk4 m (by omega) (by omega)).trans N0.out
    have M1 := (hk4 (m + 1) (by omega) (by omega)).trans N1.out
    have M2 := (hk4 (m + 1 + 1) (by omega) (by omega)).trans N2.out
    have M3 := (hk4 (m + 1 + 1 + 1) (by omega) (by omega)).trans N3.out
    have M4 := hn4
    have MP := Lib.hid ((hk4 (w.heap.size + 1) (by omega) (by omega)).trans P1.out)
    have t0 := row_of M4 0 _ rfl
    have t1 := row_of M4 1 _ rfl
    have t2 := row_of M4 2 _ rfl
    have t3 := row_of M4 3 _ rfl
    have t4 := row_of M4 4 _ rfl
    have HB4 := Lib.hid hb4
    have HRW : Hid (∀ w', (∀ k, m ≤ k → w'.heap[k]? = W4.heap[k]?) → Below w.heap.size w w' → ∃ P cv av' fv mv, Ending.returned (.agg #[.int .i64 4, .slice (some ⟨m, 0, none⟩) 1 1, .slice (some ⟨m + 1, 0, none⟩) 1 1, .slice (some ⟨m + 1 + 1 + 1, 0, none⟩) 2 2, .slice (some ⟨m + 1 + 1 + 1 + 1 + 1 + 1, 0, none⟩) 2 2]) = .returned (progV P cv av' fv mv) ∧ RdProg none w' P cv av' fv mv ∧ Below w.heap.size w w') := by
      intro w' hk hb
      have m0 := (hk m (by omega)).trans M0
      have m1 := (hk (m + 1) (by omega)).trans M1
      have m2 := (hk (m + 1 + 1) (by omega)).trans M2
      have m3 := (hk (m + 1 + 1 + 1) (by omega)).trans M3
      have mi := (hk (m + 1 + 1 + 1 + 1 + 1 + 1) (by omega)).trans hi4
      obtain ⟨r1, r2⟩ := HRI.out w' hb
      have hI : RdInstrs none w' (.slice (some ⟨m + 1 + 1 + 1 + 1 + 1 + 1, 0, none⟩) 2 2) _ := rdI (l := [(({ x with line := 9, col := 2 } : InstrD), (.slice aa x.args.length ka : Value)), (ins 10 0 (bs []) (bs [76]) [] 10 1, .slice none 0 0)]) mi (by simp) (by intro p hp; simp only [List.mem_cons, List.not_mem_nil, or_false] at hp; rcases hp with rfl | rfl; exact r1; exact r2)
      have hF : RdFuncs none w' (.slice (some ⟨m + 1 + 1 + 1, 0, none⟩) 2 2) _ := rdF (l := [((⟨bs [102], [bs [112]], [], 3, 1⟩ : FuncD), (.slice (some ⟨m + 1 + 1, 0, none⟩) 1 1 : Value), (.slice none 0 0 : Value)), (⟨bs [103], [], [], 5, 1⟩, .slice none 0 0, .slice none 0 0)]) m3 (by simp) (by intro p hp; simp only [List.mem_cons, List.not_mem_nil, or_false] at hp; rcases hp with rfl | rfl; exact ⟨rdS (l := [bs [112]]) m2 (by simp) (by intro s hs; rw [List.mem_singleton] at hs; subst hs; decide), rdInstrs_nil _ _, (by show InI64 3; unfold InI64; omega), (by show InI64 1; unfold InI64; omega), (by show (bs [102]).size ≤ maxLen; decide)⟩; exact ⟨rdStrs_nil _ _, rdInstrs_nil _ _, (by show InI64 5; unfold InI64; omega), (by show InI64 1; unfold InI64; omega), (by show (bs [103]).size ≤ maxLen; decide)⟩)
      refine ⟨⟨4, [bs [99]], [⟨bs [97], 3⟩], _, _⟩, _, _, _, _, rfl, ⟨rdS (l := [bs [99]]) m0 (by simp) (by intro s hs; rw [List.mem_singleton] at hs; subst hs; decide), rdR (l := [⟨bs [97], 3⟩]) m1 (by simp) (by intro s hs; rw [List.mem_singleton] at hs; subst hs; exact ⟨by show InI64 3; unfold InI64; omega, by decide⟩), hF, hI, (by show InI64 4; unfold InI64; omega)⟩, hb⟩
    clear hk4 hb4 hn4 hi4 M0 M1 M2 M3 M4
    go_wp2_with (refine wpList_store_row rfl 27 (.tmp 4) (.tmp 33) rfl (w.heap.size + 1) #[.int .i64 4, .slice (some ⟨m, 0, none⟩) 1 1, .slice (some ⟨m + 1, 0, none⟩) 1 1, .slice (some ⟨m + 1 + 1 + 1, 0, none⟩) 2 2, .slice (some ⟨m + 1 + 1 + 1 + 1 + 1 + 1, 0, none⟩) 2 2] rfl rfl 27 #[.int .i64 0, .slice none 0 0, .slice none 0 0, .slice none 0 0, .slice none 0 0] ?g2 ?q2 ?q3 ?q4 ?_; exact MP.out; kernel_rfl; kernel_rfl; kernel_rfl)
    refine bodyPost_ret (results_cell_row (P := Tryd.prog) (fn := Tryd.f20) rfl _ _ (w.heap.size + 1) 27 _ (0,0) _ rfl (setRow_heap _ _ _ _ _ _ MP.out) Tryd.underlying27 rfl (by kernel_rfl)) rfl ?_
    exact HRW.out _ (fun k hk => setRow_other _ _ _ _ (by omega)) (below_row HB4.out (by omega) _)
open Go.ChangeShapes Go.WideShapes Go.ChangeAt Go.RowKit
open Classical in
/-- Some world in which the block b is as in W. -/
noncomputable def keepB (W : World) (b : Nat) (x : World) : World := if x.heap[b]? = W.heap[b]? then x else W
theorem keepB_is (W : World) (b : Nat) (x : World) : (keepB W b x).heap[b]? = W.heap[b]? := by
  unfold keepB
  split
  · assumption
  · rfl
theorem keepB_of {W x : World} {b : Nat} (h : x.heap[b]? = W.heap[b]?) : x = keepB W b x := by unfold keepB; rw [if_pos h]
theorem keepB_cell {W : World} {b o : Nat} {v : Value} (h : W.cell? ⟨b, o, none⟩ = some v) (x : World) : (keepB W b x).cell? ⟨b, o, none⟩ = some v := (World.cell?_of_block (keepB_is W b x)).trans h
theorem wp_region_mixK {P : Program} {Q : Exit → Act → World → Prop} (b : Nat) {id : Nat} {a : Act} {w : World} {l : List Oper} (t : Mix) (E : Nat → Bool) (hm : P.follows .mixedOrders = true) (hs : Region.noSelect l.toArray = true)
    (hl : t.size = l.length) (hok : mixOk .any l.toArray E t (Array.replicate l.length false) = true)
    (hQ : ∀ c (d : Option Tmp) v a w, Q (.panic c) (a.put d v) w → Q (.panic c) a w)
    (h : mixRun P l.toArray Q (fun w' => ∃ x, w' = keepB w b x) E t a w.drew) : (Code.region id l.toArray true).wp P Q a w := by
  refine wp_region_any hm (any_of_G (H := fun w' => ∃ x, w' = keepB w b x) (E := E) _ _ _ _ ?_)
  have := anyG_of_mix (md := .any) (C := fun w' => ∃ x, w' = keepB w b x) (Q := Q) (E := E) hs hQ t (Array.replicate l.length false) a w.drew (Closed.start _) hok h
  rw [hl] at this
  simpa using this
theorem mix_both {P : Program} {ops : Array Oper} {Q : Exit → Act → World → Prop} {C : World → Prop} {E : Nat → Bool} {j m : Nat} {k t : Mix} {w : World} {a : Act}
    (h1 : wpOp P ops Q j (fun a'' w'' => (E j = false → C w'') ∧ mixRun P ops Q C E k a'' w'') a w) (h2 : wpOp P ops Q m (fun a'' w'' => (E m = false → C w'') ∧ mixRun P ops Q C E t a'' w'') a w) : mixRun P ops Q C E (.two [] j m k t) a w := ⟨h1, h2⟩
theorem many_of {w : World} {g : Nat} {xs : List Value} {T : TypeId} (h : w.heap[g]? = some (.cells xs.toArray T (0, 0))) : ∀ j u, xs[j]? = some u → w.cell? ((⟨g, 0, none⟩ : Addr).add j) = some u := by
  intro j u hj
  have e : (⟨g, 0, none⟩ : Addr).add j = ⟨g, j, none⟩ := by simp [Addr.add]; omega
  rw [e]
  exact row_of h j u (by simpa using hj)
theorem conv2 (w : World) (g : Nat) (a b : Int) (ha : 0 ≤ a ∧ a ≤ 255) (hb : 0 ≤ b ∧ b ≤ 255) (hg : w.heap[g]? = some (.cells #[.int .u8 a, .int .u8 b] 5 (0, 0))) : (convert 48 9 (.slice (some ⟨g, 0, none⟩) 2 2)).run Tryd.prog w = .ok (.string (bs [UInt8.ofNat a.toNat, UInt8.ofNat b.toNat])) w :=
  run_convert_bytes_back w 48 9 5 ⟨g, 0, none⟩ 2 [UInt8.ofNat a.toNat, UInt8.ofNat b.toNat] (by kernel_rfl) (by kernel_rfl) (by kernel_rfl) (fun j hj => by
    have hj' : j < 2 := by simpa using hj
    match j, hj' with
    | 0, _ =>
      have e : ([UInt8.ofNat a.toNat, UInt8.ofNat b.toNat][0].toNat : Int) = a := by simp; omega
      rw [e]; exact row_of hg 0 _ rfl
    | 1, _ =>
      have e : ([UInt8.ofNat a.toNat, UInt8.ofNat b.toNat][1].toNat : Int) = b := by simp; omega
      rw [e]; exact row_of hg 1 _ rfl)
theorem n_size (a b : UInt8) : ((⟨#[110]⟩ : ByteArray) ++ bs [a, b]).size ≤ 3 := by
  rw [ByteArray.size_append]
  show 1 + 2 ≤ 3
  omega
/-- A row stays behind an append to a row of another type. -/
theorem own_other {w w' : World} {base base' : Nat} {e e' : TypeId} {size size' : Nat} {v u : Value} {n m : Nat} {xs ys : List Value} (h : w.ownsRow base e size v n xs) (k : w.ownsRow base' e' size' u m ys) (he : e ≠ e') (hg : w.grownBy w' u.ownBlock) : w'.ownsRow base e size v n xs :=
  own_turn h (Turned.of_grown hg (fun b hb => hb)) (fun j hj hs => by
    obtain ⟨_, c1, h1⟩ := own_is h hj
    exact own_ne_cells k h1 he hs)
theorem flat_put {α : Type} (f : α → List Value) (sz : Nat) (hf : ∀ x, (f x).length = sz) (A B : List α) (z h : α) (v : Value) (r r' : List Value) (hz : f z = v :: r) (v1 : Value) (hh : f h = v1 :: r) :
    ((A ++ z :: B).flatMap f).toArray.setIfInBounds (A.length * sz) v1 = ((A ++ h :: B).flatMap f).toArray := by
  have hA : (A.flatMap f).length = A.length * sz := flat_length f sz hf A
  rw [List.setIfInBounds_toArray, List.flatMap_append, List.flatMap_append, List.flatMap_cons, List.flatMap_cons, hz, hh, ← hA, List.set_append_right _ _ (Nat.le_refl _), Nat.sub_self]
  rfl
theorem made_flat (p : InstrD × Value) (n : Nat) : (madeCells (insCells p).toArray (n * 7)).toList = (List.replicate n p).flatMap insCells := by
  have hlen : ((List.replicate n p).flatMap insCells).length = n * 7 := by rw [flat_length insCells 7 (fun _ => rfl), List.length_replicate]
  apply List.ext_getElem?
  intro j
  by_cases hj : j < n * 7
  · have h1 : (List.replicate n p)[j / 7]? = some p := by rw [List.getElem?_replicate, if_pos (by omega)]
    have h2 := flat_get insCells 7 (fun _ => rfl) (List.replicate n p) (j / 7) (j % 7) p h1 (by omega)
    have h3 : j / 7 * 7 + j % 7 = j := by omega
    rw [h3] at h2
    rw [h2]
    have h4 : j % 7 < 7 := by omega
    have h5 : (madeCells (insCells p).toArray (n * 7)).toList[j]? = some ((insCells p).toArray[j % 7]!) := by
      rw [Array.getElem?_toList]
      unfold madeCells
      simp [hj, insCells]
    rw [h5]
    generalize j % 7 = r at *
    match r, h4 with
    | 0, _ | 1, _ | 2, _ | 3, _ | 4, _ | 5, _ | 6, _ => rfl
  · rw [List.getElem?_eq_none (l := (madeCells (insCells p).toArray (n * 7)).toList) (by rw [Array.length_toList, size_madeCells]; omega), List.getElem?_eq_none (l := (List.replicate n p).flatMap insCells) (by rw [hlen]; omega)]
theorem own_of {w : World} {base g n size : Nat} {e : TypeId} {xs : List Value} (hg : w.heap[g]? = some (.cells xs.toArray e (0, 0))) (hb : base ≤ g) (hl : xs.length = n * size) (hn : n ≤ maxLen) : w.ownsRow base e size (.slice (some ⟨g, 0, none⟩) n n) n xs :=
  ⟨hl, .inr ⟨g, n, xs.toArray, rfl, hb, hg, Nat.le_refl _, hn, by simpa using hl, by show List.take (n * size) xs = xs; exact List.take_of_length_le (Nat.le_of_eq hl)⟩⟩
theorem own_full {w : World} {base g n size : Nat} {e : TypeId} {xs : List Value} (h : w.ownsRow base e size (.slice (some ⟨g, 0, none⟩) n n) n xs) : w.heap[g]? = some (.cells xs.toArray e (0, 0)) := by
  obtain ⟨hl, ⟨h1, h2⟩ | ⟨g', cap, cur, h1, _, hb, _, _, hs, ht⟩⟩ := h
  · cases h1
  · simp only [Value.slice.injEq, Option.some.injEq, Addr.mk.injEq, and_true, true_and] at h1
    obtain ⟨rfl, rfl⟩ := h1
    rw [hb]
    have : xs = cur.toList := by
      rw [← ht, List.take_of_length_le]
      rw [Array.length_toList, hs, ← hl]
      exact Nat.le_refl _
    rw [this]
/-! ### long programs -/
def iHalt : InstrD := ⟨11, 0, ⟨#[]⟩, ⟨#[]⟩, [], 0, 0⟩
theorem halt_form : formB iHalt = true := by kernel_rfl
theorem halts_code (n : Nat) : codeF [] [] true [] (List.replicate n iHalt) = none := by
  unfold codeF
  refine (firstF_none _ _ _).2 fun d x r hd => ?_
  have hx : x = iHalt := by
    have : x ∈ List.replicate n iHalt := by rw [hd]; simp
    exact List.eq_of_mem_replicate this
  subst hx
  unfold instrF
  rw [halt_form]
  rfl
theorem halts_ok {n : Nat} (h : n ≤ 1024) : checkF (pMain (List.replicate n iHalt)) = none := by
  have h1 : instrsF [] [] true [] (List.replicate n iHalt) 0 0 = none := by
    unfold instrsF
    rw [halts_code, List.length_replicate, decide_eq_true h]; rfl
  have h2 : targetsF [] (labelsOf (List.replicate n iHalt)) (List.replicate n iHalt) = none := by
    unfold targetsF
    refine (firstF_none _ _ _).2 fun d x r hd => ?_
    have hx : x = iHalt := by
      have : x ∈ List.replicate n iHalt := by rw [hd]; simp
      exact List.eq_of_mem_replicate this
    subst hx
    rfl
  rw [check_plain rfl]
  show (none.or (none.or (none.or (none.or (none.or (none.or (none.or ((instrsF [] [] true [] (List.replicate n iHalt) 0 0).or (none.or (targetsF [] (labelsOf (List.replicate n iHalt)) (List.replicate n iHalt)))))))))) : Option FaultD) = none
  rw [h1, h2]; rfl
theorem halts_long {n : Nat} (h : 1024 < n) : checkF (pMain (List.replicate n iHalt)) = some ⟨0, 0, 5⟩ := by
  have h1 : instrsF [] [] true [] (List.replicate n iHalt) 0 0 = some ⟨0, 0, 5⟩ := by
    unfold instrsF
    rw [List.length_replicate, decide_eq_false (by omega)]; rfl
  rw [check_plain rfl]
  show (none.or (none.or (none.or (none.or (none.or (none.or (none.or ((instrsF [] [] true [] (List.replicate n iHalt) 0 0).or (none.or (targetsF [] (labelsOf (List.replicate n iHalt)) (List.replicate n iHalt)))))))))) : Option FaultD) = _
  rw [h1]; rfl
def zI : InstrD := ⟨0, 0, ⟨#[]⟩, ⟨#[]⟩, [], 0, 0⟩
/-- A row of 1024 instructions of which the first k are halts. -/
def haltsP (k : Nat) : List (InstrD × Value) := List.replicate k (iHalt, .slice none 0 0) ++ List.replicate (1024 - k) (zI, .slice none 0 0)
theorem haltsP_at {k : Nat} (h : k < 1024) : haltsP k = List.replicate k (iHalt, Value.slice none 0 0) ++ (zI, .slice none 0 0) :: List.replicate (1024 - (k + 1)) (zI, Value.slice none 0 0) := by
  unfold haltsP
  rw [show 1024 - k = (1024 - (k + 1)) + 1 by omega, List.replicate_succ]
theorem haltsP_next {k : Nat} (_h : k < 1024) : haltsP (k + 1) = List.replicate k (iHalt, Value.slice none 0 0) ++ (iHalt, .slice none 0 0) :: List.replicate (1024 - (k + 1)) (zI, Value.slice none 0 0) := by
  unfold haltsP
  rw [List.replicate_succ', List.append_assoc]; rfl
theorem haltsP_put {k : Nat} (h : k < 1024) : ((haltsP k).flatMap insCells).toArray.setIfInBounds (k * 7) (.int .u8 11) = ((haltsP (k + 1)).flatMap insCells).toArray := by
  have := flat_put insCells 7 (fun _ => rfl) (List.replicate k (iHalt, Value.slice none 0 0)) (List.replicate (1024 - (k + 1)) (zI, Value.slice none 0 0)) (zI, .slice none 0 0) (iHalt, .slice none 0 0) (.int .u8 0) _ [] rfl (.int .u8 11) rfl
  rw [List.length_replicate] at this
  rw [haltsP_at h, haltsP_next h, this]
theorem haltsP_len {k : Nat} (h : k ≤ 1024) : (haltsP k).length = 1024 := by unfold haltsP; rw [List.length_append, List.length_replicate, List.length_replicate]; omega
theorem haltsP_cell {k : Nat} (h : k < 1024) : ((haltsP k).flatMap insCells)[k * 7]? = some (.int .u8 0) := by
  have h1 : (haltsP k)[k]? = some (zI, .slice none 0 0) := by
    rw [haltsP_at h, List.getElem?_append_right (by rw [List.length_replicate]; exact Nat.le_refl _), List.length_replicate, Nat.sub_self]; rfl
  have := flat_get insCells 7 (fun _ => rfl) (haltsP k) k 0 _ h1 (by omega)
  rw [Nat.add_zero] at this
  rw [this]; rfl
theorem haltsP_end : haltsP 1024 = List.replicate 1024 (iHalt, Value.slice none 0 0) := by unfold haltsP; rw [Nat.sub_self, List.replicate_zero, List.append_nil]
theorem halt_rd (lo : Option (Nat → Prop)) (w : World) : RdInstr lo w iHalt (.slice none 0 0) :=
  ⟨rdArgs_nil _ _, (by show InU8 11; unfold InU8; omega), (by show InU8 0; unfold InU8; omega), (by show InI64 0; unfold InI64; omega), (by show InI64 0; unfold InI64; omega), (by show (ByteArray.mk #[]).size ≤ maxLen; decide), (by show (ByteArray.mk #[]).size ≤ maxLen; decide)⟩
theorem halts_rd {w : World} {base : Nat} {v : Value} {n : Nat} (hn : n ≤ 2000) (h : w.ownsRow base 43 7 v n ((List.replicate n (iHalt, Value.slice none 0 0)).flatMap insCells)) : RdInstrs none w v (List.replicate n iHalt) :=
  (own_instrs (P := List.replicate n (iHalt, Value.slice none 0 0)) (by rw [List.map_replicate]) (by rw [List.length_replicate]; exact h) (by rw [List.length_replicate]; omega) (fun p hp => by rw [List.eq_of_mem_replicate hp]; exact halt_rd _ _)).forget
end Go.Proofs.YtjdbdoeopobciaaDoor
