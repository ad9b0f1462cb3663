/- Contract of the law's awake: the chapter's examples hold. Condition: the tables hold what they are laid with. -/
import Derived.Test.YthmdioldnnhidaaDoorKMd
set_option linter.unnecessarySimpa false
set_option linter.unusedVariables false
set_option linter.unusedSimpArgs false
namespace Go.Proofs.YthmdioldnnhidaaDoor
open Go.ChangeShapes Go.WideShapes Go.ChangeAt Go.RowKit
def fH : FlatD := ⟨0, 0, [], [], [], [⟨9, 0, 0, 0, ⟨0, 0⟩, ⟨0, 0⟩⟩]⟩
def fJ : FlatD := ⟨0, 0, [], [], [], [⟨7, 0, 0, 0, ⟨0, 0⟩, ⟨0, 0⟩⟩]⟩
def fC : FlatD := ⟨0, 1, [⟨#[99]⟩], [], [], [⟨4, 0, 0, 0, ⟨0, 0⟩, ⟨0, 0⟩⟩, ⟨8, 0, 0, 3, ⟨0, 0⟩, ⟨0, 0⟩⟩, ⟨5, 0, 0, 0, ⟨-1, 2⟩, ⟨0, 0⟩⟩, ⟨9, 0, 0, 0, ⟨0, 0⟩, ⟨0, 0⟩⟩]⟩
def fA : FlatD := ⟨0, 0, [], [], [2], [⟨3, 0, 0, 0, ⟨-1, 2⟩, ⟨-1, 1⟩⟩, ⟨9, 0, 0, 0, ⟨0, 0⟩, ⟨0, 0⟩⟩]⟩
def fB : FlatD := ⟨2, 2, [], [⟨#[115]⟩], [2], [⟨3, 0, 0, 0, ⟨-1, 1⟩, ⟨-1, 3⟩⟩, ⟨2, 0, 0, 0, ⟨-1, 1⟩, ⟨0, 0⟩⟩, ⟨6, 0, 1, 0, ⟨0, 0⟩, ⟨0, 0⟩⟩, ⟨9, 0, 0, 0, ⟨0, 0⟩, ⟨0, 0⟩⟩]⟩
theorem num_any (n : Int) (w : World) : Calls Tryd.prog 42 #[.int .u64 n] w fun e w' => e = .returned (.agg #[.int .i64 (-1), .int .u64 n]) ∧ Below w.heap.size w w' := by
  have hn := Lib.hid (heap_alloc_new w (.cells #[.int .i64 0, .int .u64 0] 42))
  have hb := Lib.hid ((Below.refl w.heap.size w).alloc (Nat.le_refl _) (.cells #[.int .i64 0, .int .u64 0] 42))
  go_enter Tryd.func42, Tryd.ntmps42
  go_wp2_with (refine wpList_store_row rfl 42 (.tmp 2) (.tmp 4) rfl w.heap.size #[.int .i64 (-1), .int .u64 n] rfl rfl 42 #[.int .i64 0, .int .u64 0] ?hs (by as_aux_lemma => kernel_rfl) (by as_aux_lemma => kernel_rfl) (by as_aux_lemma => kernel_rfl) ?_; exact hn.out)
  refine bodyPost_ret (v := .agg #[.int .i64 (-1), .int .u64 n]) ?_ rfl ⟨rfl, below_row hb.out (Nat.le_refl _) _⟩
  exact results_cell_row (P := Tryd.prog) (fn := Tryd.f42) rfl _ _ w.heap.size 42 #[.int .i64 (-1), .int .u64 n] (0, 0) _ rfl (setRow_heap _ _ _ _ _ _ hn.out) Tryd.underlying42 rfl (by as_aux_lemma => kernel_rfl)
/-- A row stays where a block of another type is written. -/
theorem RdRow.setRowT {α : Type} {K : Kind α} {G : Nat → Prop} {w : World} {v : Value} {l : List α} (h : RdRow K (some G) w v l) {g : Nat} {cs : Array Value} {S : TypeId} (hg : w.heap[g]? = some (.cells cs S (0, 0))) (hT : K.T ≠ S) (cs' : Array Value) : RdRow K (some G) (w.setRow g cs') v l := by
  have hb : ∀ b, Free (some G) K.T w b → (w.setRow g cs').heap[b]? = w.heap[b]? := fun b hf => setRow_other w g b cs' (by
    obtain ⟨_, c, hc⟩ := hf G rfl
    rintro rfl
    rw [hg] at hc
    simp only [Option.some.injEq, Obj.cells.injEq] at hc
    exact hT hc.2.1.symm)
  refine RdRow.map (fun b _ hf => ?_) (fun b o v hf hc => ?_) h
  · obtain ⟨g1, c, hc⟩ := hf G rfl
    exact Free.of g1 ((hb b hf).trans hc)
  · rw [World.cell?_of_block (w := w) (hb b hf)]; exact hc
theorem row_new {α : Type} (K : Kind α) {w : World} {g : Nat} {l : List α} {cs : Array Value} (h : w.heap[g]? = some (.cells cs K.T (0, 0))) (hc : cs = (l.flatMap K.cells).toArray) (hl : l.length * K.bytes ≤ 140737488351232) (hs : ∀ s ∈ l, K.ok s) : RdRow K (some (upFrom 0)) w (.slice (some ⟨g, 0, none⟩) l.length l.length) l := by
  obtain ⟨a, c, e, hx, hr⟩ := row_rd K h hc hl hs
  simp only [Value.slice.injEq] at e
  obtain ⟨rfl, -, rfl⟩ := e
  refine ⟨_, _, rfl, hx, fun i x hi => ?_⟩
  obtain ⟨b, o, e1, hf, hcc, hk⟩ := hr i x hi
  simp only [Option.some.injEq, Addr.mk.injEq, and_true] at e1
  obtain ⟨rfl, rfl⟩ := e1
  exact ⟨g, 0, rfl, Free.of (Nat.zero_le _) h, hcc, hk⟩
def RowOf {α : Type} (K : Kind α) (w : World) (v : Value) (n : Nat) (l : List α) : Prop := ∃ g : Nat, v = .slice (some ⟨g, 0, none⟩) n n ∧ RdRow K (some (upFrom 0)) w v l
def FlatOf (p : Prop) : Prop := p
def AggIs (v : Value) (cs : Array Value) : Prop := v = .agg cs
theorem RowOf.keep {α : Type} {K : Kind α} {w w' : World} {v : Value} {n : Nat} {l : List α} (h : RowOf K w v n l) (k : Below w.heap.size w w') : RowOf K w' v n l := by
  obtain ⟨g, e, h⟩ := h; exact ⟨g, e, h.keep k⟩
/-- A flat program in a block of its own. -/
structure FlatAt (w : World) (v : Value) (f : FlatD) : Prop where
  is : ∃ (g : Nat) (ca sa aa ka : Option Addr) (cc sc ac kc : Nat), v = .pointer (some ⟨g, 0, none⟩) ∧ w.heap[g]? = some (.cells #[.int .i64 f.width, .int .i64 f.regs, .slice ca f.chans.length cc, .slice sa f.sites.length sc, .slice aa f.arrays.length ac, .slice ka f.code.length kc] 26 (0, 0)) ∧
    RdFlat none w f (.slice ca f.chans.length cc) (.slice sa f.sites.length sc) (.slice aa f.arrays.length ac) (.slice ka f.code.length kc)
theorem FlatAt.keep {w w' : World} {v : Value} {f : FlatD} (h : FlatAt w v f) (k : Below w.heap.size w w') : FlatAt w' v f := by
  obtain ⟨g, ca, sa, aa, ka, cc, sc, ac, kc, e, hg, hr⟩ := h.is
  exact ⟨g, ca, sa, aa, ka, cc, sc, ac, kc, e, (k.block _ (Array.getElem?_eq_some_iff.1 hg).1).trans hg, hr.keep k⟩
theorem FlatAt.new {w : World} {g : Nat} {f : FlatD} {cs : Array Value} {G1 G2 G3 G4 : Nat → Prop} {ca sa aa ka : Option Addr} {cc sc ac kc : Nat} (hg : w.heap[g]? = some (.cells cs 26 (0, 0))) (h1 : RdRow kStr (some G1) w (.slice ca f.chans.length cc) f.chans) (h2 : RdRow kStr (some G2) w (.slice sa f.sites.length sc) f.sites) (h3 : RdRow kInt (some G3) w (.slice aa f.arrays.length ac) f.arrays) (h4 : RdRow kCode (some G4) w (.slice ka f.code.length kc) f.code) (hw : InI64 f.width ∧ InI64 f.regs) :
    FlatAt (w.setRow g #[.int .i64 f.width, .int .i64 f.regs, .slice ca f.chans.length cc, .slice sa f.sites.length sc, .slice aa f.arrays.length ac, .slice ka f.code.length kc]) (.pointer (some ⟨g, 0, none⟩)) f :=
  ⟨g, ca, sa, aa, ka, cc, sc, ac, kc, rfl, setRow_heap _ _ _ _ _ _ hg, (h1.setRowT hg (by decide) _).forget, (h2.setRowT hg (by decide) _).forget, (h3.setRowT hg (by decide) _).forget, (h4.setRowT hg (by decide) _).forget, hw⟩
theorem chain5 (w : World) (A B C D E : Obj) : (((((w.alloc A).alloc B).alloc C).alloc D).alloc E).heap[w.heap.size]? = some A ∧ (((((w.alloc A).alloc B).alloc C).alloc D).alloc E).heap[w.heap.size + 1]? = some B ∧ (((((w.alloc A).alloc B).alloc C).alloc D).alloc E).heap[w.heap.size + 1 + 1]? = some C ∧ (((((w.alloc A).alloc B).alloc C).alloc D).alloc E).heap[w.heap.size + 1 + 1 + 1]? = some D ∧ (((((w.alloc A).alloc B).alloc C).alloc D).alloc E).heap[w.heap.size + 1 + 1 + 1 + 1]? = some E ∧ Below w.heap.size w (((((w.alloc A).alloc B).alloc C).alloc D).alloc E) := by
  have hb : ∀ (x : World) (o : Obj), Below x.heap.size x (x.alloc o) := fun x o => (Below.refl _ _).alloc (Nat.le_refl _) _
  have hn : ∀ (x : World) (o : Obj) (n : Nat), n = x.heap.size → (x.alloc o).heap[n]? = some o := fun x o n h => h ▸ heap_alloc_new x o
  have ho : ∀ (x : World) (o : Obj) (n : Nat) (q : Obj), x.heap[n]? = some q → (x.alloc o).heap[n]? = some q := fun x o n q h => ((hb x o).block n (Array.getElem?_eq_some_iff.1 h).1).trans h
  refine ⟨ho _ _ _ _ (ho _ _ _ _ (ho _ _ _ _ (ho _ _ _ _ (hn _ _ _ rfl)))), ho _ _ _ _ (ho _ _ _ _ (ho _ _ _ _ (hn _ _ _ (by simp)))), ho _ _ _ _ (ho _ _ _ _ (hn _ _ _ (by simp))), ho _ _ _ _ (hn _ _ _ (by simp)), hn _ _ _ (by simp), bcomp (bcomp (bcomp (bcomp (hb _ _) (hb _ _)) (hb _ _)) (hb _ _)) (hb _ _)⟩
theorem chain4 (w : World) (A B C D : Obj) : ((((w.alloc A).alloc B).alloc C).alloc D).heap[w.heap.size]? = some A ∧ ((((w.alloc A).alloc B).alloc C).alloc D).heap[w.heap.size + 1]? = some B ∧ ((((w.alloc A).alloc B).alloc C).alloc D).heap[w.heap.size + 1 + 1]? = some C ∧ ((((w.alloc A).alloc B).alloc C).alloc D).heap[w.heap.size + 1 + 1 + 1]? = some D ∧ Below w.heap.size w ((((w.alloc A).alloc B).alloc C).alloc D) := by
  have hb : ∀ (x : World) (o : Obj), Below x.heap.size x (x.alloc o) := fun x o => (Below.refl _ _).alloc (Nat.le_refl _) _
  have hn : ∀ (x : World) (o : Obj) (n : Nat), n = x.heap.size → (x.alloc o).heap[n]? = some o := fun x o n h => h ▸ heap_alloc_new x o
  have ho : ∀ (x : World) (o : Obj) (n : Nat) (q : Obj), x.heap[n]? = some q → (x.alloc o).heap[n]? = some q := fun x o n q h => ((hb x o).block n (Array.getElem?_eq_some_iff.1 h).1).trans h
  exact ⟨ho _ _ _ _ (ho _ _ _ _ (ho _ _ _ _ (hn _ _ _ rfl))), ho _ _ _ _ (ho _ _ _ _ (hn _ _ _ (by simp))), ho _ _ _ _ (hn _ _ _ (by simp)), hn _ _ _ (by simp), bcomp (bcomp (bcomp (hb _ _) (hb _ _)) (hb _ _)) (hb _ _)⟩
/-- One list in a block of its own. -/
theorem lists_rd {w : World} {g b : Nat} {l : List Int} (hg : w.heap[g]? = some (.cells #[.slice (some ⟨b, 0, none⟩) l.length l.length] 45 (0, 0))) (h : RdRow kNum none w (.slice (some ⟨b, 0, none⟩) l.length l.length) l) : RdLists none w (.slice (some ⟨g, 0, none⟩) 1 1) [l] := by
  refine ⟨_, _, rfl, ⟨by simp, Nat.le_refl _⟩, fun i x hx => ?_⟩
  match i, hx with
  | 0, hx =>
    simp only [List.getElem?_cons_zero, Option.some.injEq] at hx
    subst hx
    exact ⟨g, 0, _, rfl, Free.none _ _ _, row_of hg 0 _ rfl, h⟩
theorem nilLists (lo : Option (Nat → Prop)) (w : World) : RdLists lo w (.slice none 0 0) [] := ⟨none, 0, rfl, ⟨by simp, by simp⟩, fun i x hx => by simp at hx⟩
theorem regNew {n0 : Nat} {w : World} {bm : Nat} {f : FlatD} {ins : List (List Int)} {m : MachD} (h : NewIn n0 w bm f ins m) (i : Int) (hi : InI64 i) (hl : m.regs.length ≤ 2097152) :
    Calls Tryd.prog 21 #[.pointer (some ⟨bm, 0, none⟩), .int .i64 i] w fun e w' => e = .returned (.int .u64 (regM m i)) ∧ w = w' := by
  obtain ⟨I, c8, c9, c10, kv, iv, av, ov, rv, bv, gb, db, bs, h⟩ := h
  exact machReg h i hi hl
theorem atNew {n0 : Nat} {w : World} {bm : Nat} {f : FlatD} {ins : List (List Int)} {m : MachD} (h : NewIn n0 w bm f ins m) :
    Calls Tryd.prog 20 #[.pointer (some ⟨bm, 0, none⟩)] w fun e w' => e = .returned (.int .i64 m.pc) ∧ w = w' := by
  obtain ⟨I, c8, c9, c10, kv, iv, av, ov, rv, bv, gb, db, bs, h⟩ := h
  exact machAtOf h
set_option maxRecDepth 100000 in
set_option maxHeartbeats 6400000 in
theorem awake_any (w : World) (hL : Laid w) : Calls Tryd.prog 17 #[] w fun e w' => e = .returned (.bool true) ∧ Below w.heap.size w w' := by
  have HL := Lib.hid hL
  clear hL
  have hn := Lib.hid (heap_alloc_new w (.cells #[.int .u8 0, .int .u8 0, .int .i64 0, .int .i64 0, .int .i64 0, .int .u64 0, .int .i64 0, .int .u64 0] 44))
  have hbn := (Below.refl w.heap.size w).alloc (Nat.le_refl _) (.cells #[.int .u8 0, .int .u8 0, .int .i64 0, .int .i64 0, .int .i64 0, .int .u64 0, .int .i64 0, .int .u64 0] 44)
  go_enter Tryd.func17, Tryd.ntmps17
  go_upto_region 2 with (refine wpList_store_row rfl 44 (.tmp 1) (.tmp 12) rfl w.heap.size #[.int .u8 9, .int .u8 0, .int .i64 0, .int .i64 0, .int .i64 0, .int .u64 0, .int .i64 0, .int .u64 0] rfl rfl 44 #[.int .u8 0, .int .u8 0, .int .i64 0, .int .i64 0, .int .i64 0, .int .u64 0, .int .i64 0, .int .u64 0] ?hs0 (by as_aux_lemma => kernel_rfl) (by as_aux_lemma => kernel_rfl) (by as_aux_lemma => kernel_rfl) ?_; exact hn.out)
  try simp only [Act.put]
  have HH1 : Hid (((w.alloc (.cells #[.int .u8 0, .int .u8 0, .int .i64 0, .int .i64 0, .int .i64 0, .int .u64 0, .int .i64 0, .int .u64 0] 44)).setRow w.heap.size #[.int .u8 9, .int .u8 0, .int .i64 0, .int .i64 0, .int .i64 0, .int .u64 0, .int .i64 0, .int .u64 0]).heap[w.heap.size]? = some (.cells #[.int .u8 9, .int .u8 0, .int .i64 0, .int .i64 0, .int .i64 0, .int .u64 0, .int .i64 0, .int .u64 0] 44 (0, 0))) := setRow_heap _ _ _ _ _ _ hn.out
  have HB1 := Lib.hid (below_row hbn (Nat.le_refl _) #[.int .u8 9, .int .u8 0, .int .i64 0, .int .i64 0, .int .i64 0, .int .u64 0, .int .i64 0, .int .u64 0])
  clear hn hbn
  generalize ((w.alloc (.cells #[.int .u8 0, .int .u8 0, .int .i64 0, .int .i64 0, .int .i64 0, .int .u64 0, .int .i64 0, .int .u64 0] 44)).setRow w.heap.size #[.int .u8 9, .int .u8 0, .int .i64 0, .int .i64 0, .int .i64 0, .int .u64 0, .int .i64 0, .int .u64 0]) = W1 at *
  go_cut [2] from 13 to 22 (fun v wx => FlatAt wx v fC ∧ Below W1.heap.size W1 wx)
  case first =>
    refine wp_region_own [1, 2, 3, 6] [⟨0, some 13, []⟩, ⟨4, some 17, []⟩, ⟨5, some 18, [(4, some 17)]⟩, ⟨7, some 20, [(5, some 18)]⟩, ⟨8, some 21, [(0, some 13), (7, some 20)]⟩, ⟨9, some 2, []⟩] [10] [_] (fun j => decide (10 ≤ j))
      (fun j v w lo hi => match j with
        | 0 => RowOf kStr w v 1 [⟨#[99]⟩]
        | 4 => AggIs v #[.int .i64 (-1), .int .u64 2]
        | 5 => AggIs v #[.int .u8 5, .int .u8 0, .int .i64 0, .int .i64 0, .int .i64 (-1), .int .u64 2, .int .i64 0, .int .u64 0]
        | 7 => RowOf kCode w v 4 [⟨4, 0, 0, 0, ⟨0, 0⟩, ⟨0, 0⟩⟩, ⟨8, 0, 0, 3, ⟨0, 0⟩, ⟨0, 0⟩⟩, ⟨5, 0, 0, 0, ⟨-1, 2⟩, ⟨0, 0⟩⟩, ⟨9, 0, 0, 0, ⟨0, 0⟩, ⟨0, 0⟩⟩]
        | 8 => FlatOf (∃ g0 g3 : Nat, v = .agg #[.int .i64 0, .int .i64 1, .slice (some ⟨g0, 0, none⟩) 1 1, .slice none 0 0, .slice none 0 0, .slice (some ⟨g3, 0, none⟩) 4 4] ∧ RdRow kStr (some (upFrom 0)) w (.slice (some ⟨g0, 0, none⟩) 1 1) fC.chans ∧ RdRow kCode (some (upFrom 0)) w (.slice (some ⟨g3, 0, none⟩) 4 4) fC.code)
        | 9 => ∃ g : Nat, v = .pointer (some ⟨g, 0, none⟩) ∧ W1.heap.size ≤ g ∧ w.heap[g]? = some (.cells #[.int .i64 0, .int .i64 0, .slice none 0 0, .slice none 0 0, .slice none 0 0, .slice none 0 0] 26 (0, 0))
        | _ => True) (by kernel_rfl) (by kernel_rfl) rfl (by kernel_rfl) rfl rfl (fun _ d _ _ _ h => by cases d <;> exact h) ?_ ?_
    · intro j v w w' lo hi hy hbw
      match j, hy with
      | 0, hy => exact RowOf.keep hy hbw
      | 4, hy => exact hy
      | 5, hy => exact hy
      | 7, hy => exact RowOf.keep hy hbw
      | 8, hy => obtain ⟨g0, g3, e, r0, r1⟩ := hy; exact ⟨g0, g3, e, r0.keep hbw, r1.keep hbw⟩
      | 9, hy => obtain ⟨g, e, hl, h⟩ := hy; exact ⟨g, e, hl, (hbw.block _ (Array.getElem?_eq_some_iff.1 h).1).trans h⟩
      | 1, _ | 2, _ | 3, _ | 6, _ | (x + 10), _ => trivial
    · have l1 := ext_cell (W := W1) (row_of HH1.out 0 (.int .u8 9) rfl)
      have l2 := ext_cell (W := W1) (row_of HH1.out 1 (.int .u8 0) rfl)
      have l3 := ext_cell (W := W1) (row_of HH1.out 2 (.int .i64 0) rfl)
      have l4 := ext_cell (W := W1) (row_of HH1.out 3 (.int .i64 0) rfl)
      have l5 := ext_cell (W := W1) (row_of HH1.out 4 (.int .i64 0) rfl)
      have l6 := ext_cell (W := W1) (row_of HH1.out 5 (.int .u64 0) rfl)
      have l7 := ext_cell (W := W1) (row_of HH1.out 6 (.int .i64 0) rfl)
      have l8 := ext_cell (W := W1) (row_of HH1.out 7 (.int .u64 0) rfl)
      refine mix_reads (by simp only [opsOf, List.filterMap_cons, List.filterMap_nil, List.getElem?_toArray, List.getElem?_cons_succ, List.getElem?_cons_zero]; rfl) ⟨_, ext_of (Below.refl _ _).drew⟩ ?_
      change wpQuiet _ _ _ _ [_, _, _, _] _
      (repeat (go_big_quiet_step (fail)))
      refine wpQuiet_nil ?_
      clear l1 l2 l3 l4 l5 l6 l7 l8
      refine ⟨⟨fun vs w hb hn => ?_, fun vs w hb hn => ?_, fun vs w hb hn => ?_, fun vs w hb hn => ?_, fun vs w hb hn => ?_, fun vs w hb hn => ?_, trivial⟩, fun vs w hb hy hd => ?_⟩
      · clear hn
        refine mix_step rfl ?_
        simp only [pv]
        go_wp2_with fail
        exact ⟨_, rfl, (Below.refl _ _).alloc (Nat.le_refl _) _, w.heap.size, rfl, row_new kStr (l := [⟨#[99]⟩]) (heap_alloc_new _ _) rfl (by decide) (fun s hs => by simp only [List.mem_cons, List.not_mem_nil, or_false] at hs; rcases hs with rfl <;> (first | decide | (refine ⟨⟨?_, ?_⟩, ⟨?_, ?_⟩, ⟨?_, ?_⟩, ⟨?_, ?_⟩, ⟨?_, ?_⟩, ⟨?_, ?_⟩, ⟨?_, ?_⟩, ⟨?_, ?_⟩⟩ <;> decide) | (refine ⟨?_, ?_⟩ <;> decide)))⟩
      · clear hn
        refine mix_step rfl ?_
        simp only [pv]
        go_wp2_with (go_at_call 42; refine (num_any _ _).mono ?_; rintro e w1 ⟨rfl, hb1⟩)
        exact ⟨_, rfl, hb1, rfl⟩
      · have e0 : _ = Value.agg _ := hn (4, some 17) (by simp)
        clear hn
        refine mix_step rfl ?_
        simp only [pv]
        rw [e0]
        go_wp2_with fail
        exact ⟨_, rfl, Below.refl _ _, rfl⟩
      · have e0 : _ = Value.agg _ := hn (5, some 18) (by simp)
        clear hn
        refine mix_step rfl ?_
        simp only [pv]
        rw [e0]
        go_wp2_with fail
        exact ⟨_, rfl, (Below.refl _ _).alloc (Nat.le_refl _) _, w.heap.size, rfl, row_new kCode (l := [⟨4, 0, 0, 0, ⟨0, 0⟩, ⟨0, 0⟩⟩, ⟨8, 0, 0, 3, ⟨0, 0⟩, ⟨0, 0⟩⟩, ⟨5, 0, 0, 0, ⟨-1, 2⟩, ⟨0, 0⟩⟩, ⟨9, 0, 0, 0, ⟨0, 0⟩, ⟨0, 0⟩⟩]) (heap_alloc_new _ _) rfl (by decide) (fun s hs => by simp only [List.mem_cons, List.not_mem_nil, or_false] at hs; rcases hs with rfl | rfl | rfl | rfl <;> (first | decide | (refine ⟨⟨?_, ?_⟩, ⟨?_, ?_⟩, ⟨?_, ?_⟩, ⟨?_, ?_⟩, ⟨?_, ?_⟩, ⟨?_, ?_⟩, ⟨?_, ?_⟩, ⟨?_, ?_⟩⟩ <;> decide) | (refine ⟨?_, ?_⟩ <;> decide)))⟩
      · obtain ⟨g0, e0, h0⟩ := hn (0, some 13) (by simp)
        obtain ⟨g1, e1, h1⟩ := hn (7, some 20) (by simp)
        clear hn
        refine mix_step rfl ?_
        simp only [pv]
        rw [e0, e1]
        go_wp2_with fail
        exact ⟨_, rfl, Below.refl _ _, g0, g1, rfl, (by rw [e0] at h0; exact h0), (by rw [e1] at h1; exact h1)⟩
      · clear hn
        refine mix_step rfl ?_
        simp only [pv]
        go_wp2_with fail
        exact ⟨_, rfl, (Below.refl _ _).alloc (Nat.le_refl _) _, w.heap.size, rfl, by have := hb.size; simpa using this, heap_alloc_new _ _⟩
      · obtain ⟨⟨g, eg, lg, hg⟩, -⟩ := hy ⟨9, some 2, []⟩ (by simp)
        obtain ⟨⟨g0, g1, ef, r0, r1⟩, -⟩ := hy ⟨8, some 21, [(0, some 13), (7, some 20)]⟩ (by simp)
        clear hy hd
        have eg' : (vs 9).1 = .pointer (some ⟨g, 0, none⟩) := eg
        have ef' : (vs 8).1 = .agg #[.int .i64 0, .int .i64 1, .slice (some ⟨g0, 0, none⟩) 1 1, .slice none 0 0, .slice none 0 0, .slice (some ⟨g1, 0, none⟩) 4 4] := ef
        clear eg ef
        have HG := Lib.hid hg
        have HR : Hid (FlatAt (w.setRow g #[.int .i64 0, .int .i64 1, .slice (some ⟨g0, 0, none⟩) 1 1, .slice none 0 0, .slice none 0 0, .slice (some ⟨g1, 0, none⟩) 4 4]) (.pointer (some ⟨g, 0, none⟩)) fC) := FlatAt.new (f := fC) hg r0 (nilRow kStr (some (upFrom 0)) w) (nilRow kInt (some (upFrom 0)) w) r1 ⟨⟨by decide, by decide⟩, ⟨by decide, by decide⟩⟩
        have HBE := Lib.hid (below_row ((Below.refl W1.heap.size W1).drew.trans hb) lg #[.int .i64 0, .int .i64 1, .slice (some ⟨g0, 0, none⟩) 1 1, .slice none 0 0, .slice none 0 0, .slice (some ⟨g1, 0, none⟩) 4 4])
        clear hg hb lg r0 r1
        simp only [List.map, Maker.pr, pv]
        rw [eg', ef']
        clear eg' ef'
        simp only [Act.put, List.setIfInBounds_toArray, List.set_cons_succ, List.set_cons_zero, List.getElem_toArray, List.getElem_cons_succ, List.getElem_cons_zero]
        go_wp2_with (refine wpList_store_row rfl 26 (.tmp 2) (.tmp 21) rfl g #[.int .i64 0, .int .i64 1, .slice (some ⟨g0, 0, none⟩) 1 1, .slice none 0 0, .slice none 0 0, .slice (some ⟨g1, 0, none⟩) 4 4] rfl rfl 26 #[.int .i64 0, .int .i64 0, .slice none 0 0, .slice none 0 0, .slice none 0 0, .slice none 0 0] ?hs1 (by as_aux_lemma => kernel_rfl) (by as_aux_lemma => kernel_rfl) (by as_aux_lemma => kernel_rfl) ?_; exact HG.out)
        go_meet
        exact ⟨HR.out, HBE.out⟩
  case rest =>
    generalize wc = W2 at *
    obtain ⟨⟨⟨gC, caC, saC, aaC, kaC, ccC, scC, acC, kcC, rfl, hgC, hrC⟩⟩, hbC⟩ := hcut
    have HGC := Lib.hid hgC
    have HRC := Lib.hid hrC
    have HBC := Lib.hid hbC
    clear hgC hrC hbC
    have HL2 := Lib.hid (HL.out.keep (bcomp HB1.out HBC.out))
    have HH2 := Lib.hid ((HBC.out.block _ (Array.getElem?_eq_some_iff.1 HH1.out).1).trans HH1.out)
    have HB2 := Lib.hid (bcomp HB1.out HBC.out)
    have HKC : Hid (∀ w' : World, Below W2.heap.size W2 w' → w'.cell? ⟨gC, 0, none⟩ = some (.int .i64 fC.width) ∧ w'.cell? ⟨gC, 1, none⟩ = some (.int .i64 fC.regs) ∧ w'.cell? ⟨gC, 2, none⟩ = some (.slice caC fC.chans.length ccC) ∧ w'.cell? ⟨gC, 3, none⟩ = some (.slice saC fC.sites.length scC) ∧ w'.cell? ⟨gC, 4, none⟩ = some (.slice aaC fC.arrays.length acC) ∧ w'.cell? ⟨gC, 5, none⟩ = some (.slice kaC fC.code.length kcC)) := fun w' hb => by
      have h := (hb.block _ (Array.getElem?_eq_some_iff.1 HGC.out).1).trans HGC.out
      exact ⟨row_of h 0 _ rfl, row_of h 1 _ rfl, row_of h 2 _ rfl, row_of h 3 _ rfl, row_of h 4 _ rfl, row_of h 5 _ rfl⟩
    have HA1 : Hid (∀ w0 : World, Below W2.heap.size W2 w0 → Calls Tryd.prog 43 #[.agg #[.int .i64 0, .int .i64 0, .slice none 0 0, .slice none 0 0, .slice none 0 0, .slice (some ⟨w0.heap.size, 0, none⟩) 1 1], .int .i64 1, .agg #[.int .u8 0, .int .i64 1, .slice none 0 0, .slice none 0 0, .slice none 0 0, .slice none 0 0], .slice none 0 0] (w0.alloc (.cells #[.int .u8 9, .int .u8 0, .int .i64 0, .int .i64 0, .int .i64 0, .int .u64 0, .int .i64 0, .int .u64 0] 44)) fun e w' => e = .returned (.bool true) ∧ Below w0.heap.size w0 w') := fun w0 hb => by
      have h0 := heap_alloc_new w0 (.cells #[.int .u8 9, .int .u8 0, .int .i64 0, .int .i64 0, .int .i64 0, .int .u64 0, .int .i64 0, .int .u64 0] 44)
      have hal := (Below.refl w0.heap.size w0).alloc (Nat.le_refl _) (.cells #[.int .u8 9, .int .u8 0, .int .i64 0, .int .i64 0, .int .i64 0, .int .u64 0, .int .i64 0, .int .u64 0] 44)
      have := runs_true fH _ _ _ _ (⟨0, 1, [], [], [], []⟩ : TraceD) _ _ _ _ _ [] 1 _ ⟨(nilRow kStr _ _), (nilRow kStr _ _), (nilRow kInt _ _), (row_new kCode (l := [⟨9, 0, 0, 0, ⟨0, 0⟩, ⟨0, 0⟩⟩]) h0 rfl (by decide) (fun s hs => by simp only [List.mem_cons, List.not_mem_nil, or_false] at hs; rcases hs with rfl; refine ⟨⟨?_, ?_⟩, ⟨?_, ?_⟩, ⟨?_, ?_⟩, ⟨?_, ?_⟩, ⟨?_, ?_⟩, ⟨?_, ?_⟩, ⟨?_, ?_⟩, ⟨?_, ?_⟩⟩ <;> decide)).forget, ⟨by decide, by decide⟩, ⟨by decide, by decide⟩⟩ ⟨(nilRow kEv _ _), (nilRow kEv _ _), (nilRow kBool _ _), (nilRow kInt _ _), ⟨by decide, by decide⟩, ⟨by decide, by decide⟩⟩ (nilLists _ _) (HL2.out.keep (bcomp hb hal)) ⟨by decide, by decide⟩ (by decide) (by as_aux_lemma => kernel_rfl) (by as_aux_lemma => kernel_rfl)
      exact this.mono fun e w' h => ⟨h.1, bcomp hal h.2⟩
    have HA2 : Hid (∀ w0 : World, Below W2.heap.size W2 w0 → Calls Tryd.prog 43 #[.agg #[.int .i64 0, .int .i64 0, .slice none 0 0, .slice none 0 0, .slice none 0 0, .slice (some ⟨w0.heap.size, 0, none⟩) 1 1], .int .i64 3, .agg #[.int .u8 2, .int .i64 3, .slice none 0 0, .slice none 0 0, .slice none 0 0, .slice none 0 0], .slice none 0 0] (w0.alloc (.cells #[.int .u8 7, .int .u8 0, .int .i64 0, .int .i64 0, .int .i64 0, .int .u64 0, .int .i64 0, .int .u64 0] 44)) fun e w' => e = .returned (.bool true) ∧ Below w0.heap.size w0 w') := fun w0 hb => by
      have h0 := heap_alloc_new w0 (.cells #[.int .u8 7, .int .u8 0, .int .i64 0, .int .i64 0, .int .i64 0, .int .u64 0, .int .i64 0, .int .u64 0] 44)
      have hal := (Below.refl w0.heap.size w0).alloc (Nat.le_refl _) (.cells #[.int .u8 7, .int .u8 0, .int .i64 0, .int .i64 0, .int .i64 0, .int .u64 0, .int .i64 0, .int .u64 0] 44)
      have := runs_true fJ _ _ _ _ (⟨2, 3, [], [], [], []⟩ : TraceD) _ _ _ _ _ [] 3 _ ⟨(nilRow kStr _ _), (nilRow kStr _ _), (nilRow kInt _ _), (row_new kCode (l := [⟨7, 0, 0, 0, ⟨0, 0⟩, ⟨0, 0⟩⟩]) h0 rfl (by decide) (fun s hs => by simp only [List.mem_cons, List.not_mem_nil, or_false] at hs; rcases hs with rfl; refine ⟨⟨?_, ?_⟩, ⟨?_, ?_⟩, ⟨?_, ?_⟩, ⟨?_, ?_⟩, ⟨?_, ?_⟩, ⟨?_, ?_⟩, ⟨?_, ?_⟩, ⟨?_, ?_⟩⟩ <;> decide)).forget, ⟨by decide, by decide⟩, ⟨by decide, by decide⟩⟩ ⟨(nilRow kEv _ _), (nilRow kEv _ _), (nilRow kBool _ _), (nilRow kInt _ _), ⟨by decide, by decide⟩, ⟨by decide, by decide⟩⟩ (nilLists _ _) (HL2.out.keep (bcomp hb hal)) ⟨by decide, by decide⟩ (by decide) (by as_aux_lemma => kernel_rfl) (by as_aux_lemma => kernel_rfl)
      exact this.mono fun e w' h => ⟨h.1, bcomp hal h.2⟩
    have HA3 : Hid (∀ w0 : World, Below W2.heap.size W2 w0 → Calls Tryd.prog 43 #[.agg #[.int .i64 fC.width, .int .i64 fC.regs, .slice caC fC.chans.length ccC, .slice saC fC.sites.length scC, .slice aaC fC.arrays.length acC, .slice kaC fC.code.length kcC], .int .i64 9, .agg #[.int .u8 0, .int .i64 4, .slice (some ⟨w0.heap.size, 0, none⟩) 1 1, .slice none 0 0, .slice (some ⟨w0.heap.size + 1, 0, none⟩) 1 1, .slice (some ⟨w0.heap.size + 1 + 1, 0, none⟩) 1 1], .slice (some ⟨w0.heap.size + 1 + 1 + 1 + 1, 0, none⟩) 1 1] (((((w0.alloc (.cells #[.int .i64 0, .int .u64 2] 56)).alloc (.cells #[.bool false] 4)).alloc (.cells #[.int .i64 1] 3)).alloc (.cells #[.int .u64 4] 40)).alloc (.cells #[.slice (some ⟨w0.heap.size + 1 + 1 + 1, 0, none⟩) 1 1] 45)) fun e w' => e = .returned (.bool true) ∧ Below w0.heap.size w0 w') := fun w0 hb => by
      obtain ⟨h0, h1, h2, h3, h4, hal⟩ := chain5 w0 (.cells #[.int .i64 0, .int .u64 2] 56) (.cells #[.bool false] 4) (.cells #[.int .i64 1] 3) (.cells #[.int .u64 4] 40) (.cells #[.slice (some ⟨w0.heap.size + 1 + 1 + 1, 0, none⟩) 1 1] 45)
      have := runs_true fC _ _ _ _ (⟨0, 4, [⟨0, 2⟩], [], [false], [1]⟩ : TraceD) _ _ _ _ _ [[4]] 9 _ (HRC.out.keep (bcomp hb hal)) ⟨(row_new kEv (l := [⟨0, 2⟩]) h0 rfl (by decide) (fun s hs => by simp only [List.mem_cons, List.not_mem_nil, or_false] at hs; rcases hs with rfl; first | trivial | exact ⟨⟨by decide, by decide⟩, ⟨by decide, by decide⟩⟩ | exact ⟨by decide, by decide⟩)).forget, (nilRow kEv _ _), (row_new kBool (l := [false]) h1 rfl (by decide) (fun s hs => by simp only [List.mem_cons, List.not_mem_nil, or_false] at hs; rcases hs with rfl; first | trivial | exact ⟨⟨by decide, by decide⟩, ⟨by decide, by decide⟩⟩ | exact ⟨by decide, by decide⟩)).forget, (row_new kInt (l := [1]) h2 rfl (by decide) (fun s hs => by simp only [List.mem_cons, List.not_mem_nil, or_false] at hs; rcases hs with rfl; first | trivial | exact ⟨⟨by decide, by decide⟩, ⟨by decide, by decide⟩⟩ | exact ⟨by decide, by decide⟩)).forget, ⟨by decide, by decide⟩, ⟨by decide, by decide⟩⟩ (lists_rd (l := [4]) h4 (row_new kNum (l := [4]) h3 rfl (by decide) (fun s hs => by simp only [List.mem_cons, List.not_mem_nil, or_false] at hs; rcases hs with rfl; first | trivial | exact ⟨⟨by decide, by decide⟩, ⟨by decide, by decide⟩⟩ | exact ⟨by decide, by decide⟩)).forget) (HL2.out.keep (bcomp hb hal)) ⟨by decide, by decide⟩ (by decide) (by as_aux_lemma => kernel_rfl) (by as_aux_lemma => kernel_rfl)
      exact this.mono fun e w' h => ⟨h.1, bcomp hal h.2⟩
    have HA4 : Hid (∀ w0 : World, Below W2.heap.size W2 w0 → Calls Tryd.prog 43 #[.agg #[.int .i64 fC.width, .int .i64 fC.regs, .slice caC fC.chans.length ccC, .slice saC fC.sites.length scC, .slice aaC fC.arrays.length acC, .slice kaC fC.code.length kcC], .int .i64 9, .agg #[.int .u8 0, .int .i64 3, .slice none 0 0, .slice none 0 0, .slice (some ⟨w0.heap.size, 0, none⟩) 1 1, .slice (some ⟨w0.heap.size + 1, 0, none⟩) 1 1], .slice (some ⟨w0.heap.size + 1 + 1 + 1, 0, none⟩) 1 1] ((((w0.alloc (.cells #[.bool true] 4)).alloc (.cells #[.int .i64 1] 3)).alloc (.cells #[.int .u64 1] 40)).alloc (.cells #[.slice (some ⟨w0.heap.size + 1 + 1, 0, none⟩) 1 1] 45)) fun e w' => e = .returned (.bool true) ∧ Below w0.heap.size w0 w') := fun w0 hb => by
      obtain ⟨h0, h1, h2, h3, hal⟩ := chain4 w0 (.cells #[.bool true] 4) (.cells #[.int .i64 1] 3) (.cells #[.int .u64 1] 40) (.cells #[.slice (some ⟨w0.heap.size + 1 + 1, 0, none⟩) 1 1] 45)
      have := runs_true fC _ _ _ _ (⟨0, 3, [], [], [true], [1]⟩ : TraceD) _ _ _ _ _ [[1]] 9 _ (HRC.out.keep (bcomp hb hal)) ⟨(nilRow kEv _ _), (nilRow kEv _ _), (row_new kBool (l := [true]) h0 rfl (by decide) (fun s hs => by simp only [List.mem_cons, List.not_mem_nil, or_false] at hs; rcases hs with rfl; first | trivial | exact ⟨⟨by decide, by decide⟩, ⟨by decide, by decide⟩⟩ | exact ⟨by decide, by decide⟩)).forget, (row_new kInt (l := [1]) h1 rfl (by decide) (fun s hs => by simp only [List.mem_cons, List.not_mem_nil, or_false] at hs; rcases hs with rfl; first | trivial | exact ⟨⟨by decide, by decide⟩, ⟨by decide, by decide⟩⟩ | exact ⟨by decide, by decide⟩)).forget, ⟨by decide, by decide⟩, ⟨by decide, by decide⟩⟩ (lists_rd (l := [1]) h3 (row_new kNum (l := [1]) h2 rfl (by decide) (fun s hs => by simp only [List.mem_cons, List.not_mem_nil, or_false] at hs; rcases hs with rfl; first | trivial | exact ⟨⟨by decide, by decide⟩, ⟨by decide, by decide⟩⟩ | exact ⟨by decide, by decide⟩)).forget) (HL2.out.keep (bcomp hb hal)) ⟨by decide, by decide⟩ (by decide) (by as_aux_lemma => kernel_rfl) (by as_aux_lemma => kernel_rfl)
      exact this.mono fun e w' h => ⟨h.1, bcomp hal h.2⟩
    have c0 := row_of HH2.out 0 (.int .u8 9) rfl
    have c1 := row_of HH2.out 1 (.int .u8 0) rfl
    have c2 := row_of HH2.out 2 (.int .i64 0) rfl
    have c3 := row_of HH2.out 3 (.int .i64 0) rfl
    have c4 := row_of HH2.out 4 (.int .i64 0) rfl
    have c5 := row_of HH2.out 5 (.int .u64 0) rfl
    have c6 := row_of HH2.out 6 (.int .i64 0) rfl
    have c7 := row_of HH2.out 7 (.int .u64 0) rfl
    go_upto_region 5 with (first | (go_at_call 43; with_reducible refine (HA1.out _ (Below.refl _ _)).mono ?_; rintro e z1 ⟨rfl, hz⟩; have Z1 := Lib.hid (hz); clear hz) | (go_at_call 43; with_reducible refine (HA2.out _ Z1.out).mono ?_; rintro e z2 ⟨rfl, hz⟩; have Z2 := Lib.hid (bcomp Z1.out hz); clear hz; obtain ⟨p0, p1, p2, p3, p4, p5⟩ := HKC.out _ Z2.out) | (go_at_call 43; with_reducible refine (HA3.out _ Z2.out).mono ?_; rintro e z3 ⟨rfl, hz⟩; have Z3 := Lib.hid (bcomp Z2.out hz); clear hz; clear p0 p1 p2 p3 p4 p5; obtain ⟨p0, p1, p2, p3, p4, p5⟩ := HKC.out _ Z3.out) | (go_at_call 43; with_reducible refine (HA4.out _ Z3.out).mono ?_; rintro e z4 ⟨rfl, hz⟩; have Z4 := Lib.hid (bcomp Z3.out hz); clear hz; clear p0 p1 p2 p3 p4 p5))
    clear c0 c1 c2 c3 c4 c5 c6 c7 HA1 HA2 HA3 HA4 Z1 Z2 Z3 HKC
    generalize z4 = W3 at *
    have HB3 := Lib.hid (bcomp HB2.out Z4.out)
    have HL3 := Lib.hid (HL.out.keep HB3.out)
    have HH3 := Lib.hid ((Z4.out.block _ (Array.getElem?_eq_some_iff.1 HH2.out).1).trans HH2.out)
    clear HH1 HH2 Z4 HGC HRC HBC HL2 HB2
    go_cut [3] from 58 to 65 (fun v wx => FlatAt wx v fA ∧ Below W3.heap.size W3 wx)
    case first =>
      refine wp_region_own [4] [⟨0, some 58, []⟩, ⟨1, some 59, []⟩, ⟨2, some 60, [(1, some 59)]⟩, ⟨3, some 61, [(1, some 59), (2, some 60)]⟩, ⟨5, some 63, [(3, some 61)]⟩, ⟨6, some 64, [(0, some 58), (5, some 63)]⟩, ⟨7, some 3, []⟩] [8] [_] (fun j => decide (8 ≤ j))
        (fun j v w lo hi => match j with
          | 0 => RowOf kInt w v 1 [2]
          | 1 => AggIs v #[.int .i64 (-1), .int .u64 2]
          | 2 => AggIs v #[.int .i64 (-1), .int .u64 1]
          | 3 => AggIs v #[.int .u8 3, .int .u8 0, .int .i64 0, .int .i64 0, .int .i64 (-1), .int .u64 2, .int .i64 (-1), .int .u64 1]
          | 5 => RowOf kCode w v 2 [⟨3, 0, 0, 0, ⟨-1, 2⟩, ⟨-1, 1⟩⟩, ⟨9, 0, 0, 0, ⟨0, 0⟩, ⟨0, 0⟩⟩]
          | 6 => FlatOf (∃ g2 g3 : Nat, v = .agg #[.int .i64 0, .int .i64 0, .slice none 0 0, .slice none 0 0, .slice (some ⟨g2, 0, none⟩) 1 1, .slice (some ⟨g3, 0, none⟩) 2 2] ∧ RdRow kInt (some (upFrom 0)) w (.slice (some ⟨g2, 0, none⟩) 1 1) fA.arrays ∧ RdRow kCode (some (upFrom 0)) w (.slice (some ⟨g3, 0, none⟩) 2 2) fA.code)
          | 7 => ∃ g : Nat, v = .pointer (some ⟨g, 0, none⟩) ∧ W3.heap.size ≤ g ∧ w.heap[g]? = some (.cells #[.int .i64 0, .int .i64 0, .slice none 0 0, .slice none 0 0, .slice none 0 0, .slice none 0 0] 26 (0, 0))
          | _ => True) (by kernel_rfl) (by kernel_rfl) rfl (by kernel_rfl) rfl rfl (fun _ d _ _ _ h => by cases d <;> exact h) ?_ ?_
      · intro j v w w' lo hi hy hbw
        match j, hy with
        | 0, hy => exact RowOf.keep hy hbw
        | 1, hy => exact hy
        | 2, hy => exact hy
        | 3, hy => exact hy
        | 5, hy => exact RowOf.keep hy hbw
        | 6, hy => obtain ⟨g2, g3, e, r0, r1⟩ := hy; exact ⟨g2, g3, e, r0.keep hbw, r1.keep hbw⟩
        | 7, hy => obtain ⟨g, e, hl, h⟩ := hy; exact ⟨g, e, hl, (hbw.block _ (Array.getElem?_eq_some_iff.1 h).1).trans h⟩
        | 4, _ | (x + 8), _ => trivial
      · have l1 := ext_cell (W := W3) (row_of HH3.out 0 (.int .u8 9) rfl)
        have l2 := ext_cell (W := W3) (row_of HH3.out 1 (.int .u8 0) rfl)
        have l3 := ext_cell (W := W3) (row_of HH3.out 2 (.int .i64 0) rfl)
        have l4 := ext_cell (W := W3) (row_of HH3.out 3 (.int .i64 0) rfl)
        have l5 := ext_cell (W := W3) (row_of HH3.out 4 (.int .i64 0) rfl)
        have l6 := ext_cell (W := W3) (row_of HH3.out 5 (.int .u64 0) rfl)
        have l7 := ext_cell (W := W3) (row_of HH3.out 6 (.int .i64 0) rfl)
        have l8 := ext_cell (W := W3) (row_of HH3.out 7 (.int .u64 0) rfl)
        refine mix_reads (by simp only [opsOf, List.filterMap_cons, List.filterMap_nil, List.getElem?_toArray, List.getElem?_cons_succ, List.getElem?_cons_zero]; rfl) ⟨_, ext_of (Below.refl _ _).drew⟩ ?_
        change wpQuiet _ _ _ _ [_] _
        (repeat (go_big_quiet_step (fail)))
        refine wpQuiet_nil ?_
        clear l1 l2 l3 l4 l5 l6 l7 l8
        refine ⟨⟨fun vs w hb hn => ?_, fun vs w hb hn => ?_, fun vs w hb hn => ?_, fun vs w hb hn => ?_, fun vs w hb hn => ?_, fun vs w hb hn => ?_, fun vs w hb hn => ?_, trivial⟩, fun vs w hb hy hd => ?_⟩
        · clear hn
          refine mix_step rfl ?_
          simp only [pv]
          go_wp2_with fail
          exact ⟨_, rfl, (Below.refl _ _).alloc (Nat.le_refl _) _, w.heap.size, rfl, row_new kInt (l := [2]) (heap_alloc_new _ _) rfl (by decide) (fun s hs => by simp only [List.mem_cons, List.not_mem_nil, or_false] at hs; rcases hs with rfl <;> (first | decide | (refine ⟨⟨?_, ?_⟩, ⟨?_, ?_⟩, ⟨?_, ?_⟩, ⟨?_, ?_⟩, ⟨?_, ?_⟩, ⟨?_, ?_⟩, ⟨?_, ?_⟩, ⟨?_, ?_⟩⟩ <;> decide) | (refine ⟨?_, ?_⟩ <;> decide)))⟩
        · clear hn
          refine mix_step rfl ?_
          simp only [pv]
          go_wp2_with (go_at_call 42; refine (num_any _ _).mono ?_; rintro e w1 ⟨rfl, hb1⟩)
          exact ⟨_, rfl, hb1, rfl⟩
        · clear hn
          refine mix_step rfl ?_
          simp only [pv]
          go_wp2_with (go_at_call 42; refine (num_any _ _).mono ?_; rintro e w1 ⟨rfl, hb1⟩)
          exact ⟨_, rfl, hb1, rfl⟩
        · have e0 : _ = Value.agg _ := hn (1, some 59) (by simp)
          have e1 : _ = Value.agg _ := hn (2, some 60) (by simp)
          clear hn
          refine mix_step rfl ?_
          simp only [pv]
          rw [e0, e1]
          go_wp2_with fail
          exact ⟨_, rfl, Below.refl _ _, rfl⟩
        · have e0 : _ = Value.agg _ := hn (3, some 61) (by simp)
          clear hn
          refine mix_step rfl ?_
          simp only [pv]
          rw [e0]
          go_wp2_with fail
          exact ⟨_, rfl, (Below.refl _ _).alloc (Nat.le_refl _) _, w.heap.size, rfl, row_new kCode (l := [⟨3, 0, 0, 0, ⟨-1, 2⟩, ⟨-1, 1⟩⟩, ⟨9, 0, 0, 0, ⟨0, 0⟩, ⟨0, 0⟩⟩]) (heap_alloc_new _ _) rfl (by decide) (fun s hs => by simp only [List.mem_cons, List.not_mem_nil, or_false] at hs; rcases hs with rfl | rfl <;> (first | decide | (refine ⟨⟨?_, ?_⟩, ⟨?_, ?_⟩, ⟨?_, ?_⟩, ⟨?_, ?_⟩, ⟨?_, ?_⟩, ⟨?_, ?_⟩, ⟨?_, ?_⟩, ⟨?_, ?_⟩⟩ <;> decide) | (refine ⟨?_, ?_⟩ <;> decide)))⟩
        · obtain ⟨g0, e0, h0⟩ := hn (0, some 58) (by simp)
          obtain ⟨g1, e1, h1⟩ := hn (5, some 63) (by simp)
          clear hn
          refine mix_step rfl ?_
          simp only [pv]
          rw [e0, e1]
          go_wp2_with fail
          exact ⟨_, rfl, Below.refl _ _, g0, g1, rfl, (by rw [e0] at h0; exact h0), (by rw [e1] at h1; exact h1)⟩
        · clear hn
          refine mix_step rfl ?_
          simp only [pv]
          go_wp2_with fail
          exact ⟨_, rfl, (Below.refl _ _).alloc (Nat.le_refl _) _, w.heap.size, rfl, by have := hb.size; simpa using this, heap_alloc_new _ _⟩
        · obtain ⟨⟨g, eg, lg, hg⟩, -⟩ := hy ⟨7, some 3, []⟩ (by simp)
          obtain ⟨⟨g0, g1, ef, r0, r1⟩, -⟩ := hy ⟨6, some 64, [(0, some 58), (5, some 63)]⟩ (by simp)
          clear hy hd
          have eg' : (vs 7).1 = .pointer (some ⟨g, 0, none⟩) := eg
          have ef' : (vs 6).1 = .agg #[.int .i64 0, .int .i64 0, .slice none 0 0, .slice none 0 0, .slice (some ⟨g0, 0, none⟩) 1 1, .slice (some ⟨g1, 0, none⟩) 2 2] := ef
          clear eg ef
          have HG := Lib.hid hg
          have HR : Hid (FlatAt (w.setRow g #[.int .i64 0, .int .i64 0, .slice none 0 0, .slice none 0 0, .slice (some ⟨g0, 0, none⟩) 1 1, .slice (some ⟨g1, 0, none⟩) 2 2]) (.pointer (some ⟨g, 0, none⟩)) fA) := FlatAt.new (f := fA) hg (nilRow kStr (some (upFrom 0)) w) (nilRow kStr (some (upFrom 0)) w) r0 r1 ⟨⟨by decide, by decide⟩, ⟨by decide, by decide⟩⟩
          have HBE := Lib.hid (below_row ((Below.refl W3.heap.size W3).drew.trans hb) lg #[.int .i64 0, .int .i64 0, .slice none 0 0, .slice none 0 0, .slice (some ⟨g0, 0, none⟩) 1 1, .slice (some ⟨g1, 0, none⟩) 2 2])
          clear hg hb lg r0 r1
          simp only [List.map, Maker.pr, pv]
          rw [eg', ef']
          clear eg' ef'
          simp only [Act.put, List.setIfInBounds_toArray, List.set_cons_succ, List.set_cons_zero, List.getElem_toArray, List.getElem_cons_succ, List.getElem_cons_zero]
          go_wp2_with (refine wpList_store_row rfl 26 (.tmp 3) (.tmp 64) rfl g #[.int .i64 0, .int .i64 0, .slice none 0 0, .slice none 0 0, .slice (some ⟨g0, 0, none⟩) 1 1, .slice (some ⟨g1, 0, none⟩) 2 2] rfl rfl 26 #[.int .i64 0, .int .i64 0, .slice none 0 0, .slice none 0 0, .slice none 0 0, .slice none 0 0] ?hs3 (by as_aux_lemma => kernel_rfl) (by as_aux_lemma => kernel_rfl) (by as_aux_lemma => kernel_rfl) ?_; exact HG.out)
          go_meet
          exact ⟨HR.out, HBE.out⟩
    case rest =>
      generalize wc = W4 at *
      obtain ⟨⟨⟨gA, caA, saA, aaA, kaA, ccA, scA, acA, kcA, rfl, hgA, hrA⟩⟩, hbA⟩ := hcut
      have HGA := Lib.hid hgA
      have HRA := Lib.hid hrA
      have HBA := Lib.hid hbA
      clear hgA hrA hbA
      have HB4 := Lib.hid (bcomp HB3.out HBA.out)
      have HL4 := Lib.hid (HL.out.keep HB4.out)
      have HH4 := Lib.hid ((HBA.out.block _ (Array.getElem?_eq_some_iff.1 HH3.out).1).trans HH3.out)
      clear HH3 HL3 HBA HB3
      go_upto_region 6 with fail
      go_cut [4] from 65 to 76 (fun v wx => FlatAt wx v fB ∧ Below W4.heap.size W4 wx)
      case first =>
        refine wp_region_own [7, 8] [⟨0, some 65, []⟩, ⟨1, some 66, []⟩, ⟨2, some 67, []⟩, ⟨3, some 68, [(2, some 67)]⟩, ⟨4, some 69, [(2, some 67), (3, some 68)]⟩, ⟨5, some 70, [(3, some 68)]⟩, ⟨6, some 71, [(5, some 70)]⟩, ⟨9, some 74, [(4, some 69), (6, some 71)]⟩, ⟨10, some 75, [(0, some 65), (1, some 66), (9, some 74)]⟩, ⟨11, some 4, []⟩] [12] [_] (fun j => decide (12 ≤ j))
          (fun j v w lo hi => match j with
            | 0 => RowOf kStr w v 1 [⟨#[115]⟩]
            | 1 => RowOf kInt w v 1 [2]
            | 2 => AggIs v #[.int .i64 (-1), .int .u64 1]
            | 3 => AggIs v #[.int .i64 (-1), .int .u64 3]
            | 4 => AggIs v #[.int .u8 3, .int .u8 0, .int .i64 0, .int .i64 0, .int .i64 (-1), .int .u64 1, .int .i64 (-1), .int .u64 3]
            | 5 => AggIs v #[.int .i64 (-1), .int .u64 1]
            | 6 => AggIs v #[.int .u8 2, .int .u8 0, .int .i64 0, .int .i64 0, .int .i64 (-1), .int .u64 1, .int .i64 0, .int .u64 0]
            | 9 => RowOf kCode w v 4 [⟨3, 0, 0, 0, ⟨-1, 1⟩, ⟨-1, 3⟩⟩, ⟨2, 0, 0, 0, ⟨-1, 1⟩, ⟨0, 0⟩⟩, ⟨6, 0, 1, 0, ⟨0, 0⟩, ⟨0, 0⟩⟩, ⟨9, 0, 0, 0, ⟨0, 0⟩, ⟨0, 0⟩⟩]
            | 10 => FlatOf (∃ g1 g2 g3 : Nat, v = .agg #[.int .i64 2, .int .i64 2, .slice none 0 0, .slice (some ⟨g1, 0, none⟩) 1 1, .slice (some ⟨g2, 0, none⟩) 1 1, .slice (some ⟨g3, 0, none⟩) 4 4] ∧ RdRow kStr (some (upFrom 0)) w (.slice (some ⟨g1, 0, none⟩) 1 1) fB.sites ∧ RdRow kInt (some (upFrom 0)) w (.slice (some ⟨g2, 0, none⟩) 1 1) fB.arrays ∧ RdRow kCode (some (upFrom 0)) w (.slice (some ⟨g3, 0, none⟩) 4 4) fB.code)
            | 11 => ∃ g : Nat, v = .pointer (some ⟨g, 0, none⟩) ∧ W4.heap.size ≤ g ∧ w.heap[g]? = some (.cells #[.int .i64 0, .int .i64 0, .slice none 0 0, .slice none 0 0, .slice none 0 0, .slice none 0 0] 26 (0, 0))
            | _ => True) (by kernel_rfl) (by kernel_rfl) rfl (by kernel_rfl) rfl rfl (fun _ d _ _ _ h => by cases d <;> exact h) ?_ ?_
        · intro j v w w' lo hi hy hbw
          match j, hy with
          | 0, hy => exact RowOf.keep hy hbw
          | 1, hy => exact RowOf.keep hy hbw
          | 2, hy => exact hy
          | 3, hy => exact hy
          | 4, hy => exact hy
          | 5, hy => exact hy
          | 6, hy => exact hy
          | 9, hy => exact RowOf.keep hy hbw
          | 10, hy => obtain ⟨g1, g2, g3, e, r0, r1, r2⟩ := hy; exact ⟨g1, g2, g3, e, r0.keep hbw, r1.keep hbw, r2.keep hbw⟩
          | 11, hy => obtain ⟨g, e, hl, h⟩ := hy; exact ⟨g, e, hl, (hbw.block _ (Array.getElem?_eq_some_iff.1 h).1).trans h⟩
          | 7, _ | 8, _ | (x + 12), _ => trivial
        · have l1 := ext_cell (W := W4) (row_of HH4.out 0 (.int .u8 9) rfl)
          have l2 := ext_cell (W := W4) (row_of HH4.out 1 (.int .u8 0) rfl)
          have l3 := ext_cell (W := W4) (row_of HH4.out 2 (.int .i64 0) rfl)
          have l4 := ext_cell (W := W4) (row_of HH4.out 3 (.int .i64 0) rfl)
          have l5 := ext_cell (W := W4) (row_of HH4.out 4 (.int .i64 0) rfl)
          have l6 := ext_cell (W := W4) (row_of HH4.out 5 (.int .u64 0) rfl)
          have l7 := ext_cell (W := W4) (row_of HH4.out 6 (.int .i64 0) rfl)
          have l8 := ext_cell (W := W4) (row_of HH4.out 7 (.int .u64 0) rfl)
          refine mix_reads (by simp only [opsOf, List.filterMap_cons, List.filterMap_nil, List.getElem?_toArray, List.getElem?_cons_succ, List.getElem?_cons_zero]; rfl) ⟨_, ext_of (Below.refl _ _).drew⟩ ?_
          change wpQuiet _ _ _ _ [_, _] _
          (repeat (go_big_quiet_step (fail)))
          refine wpQuiet_nil ?_
          clear l1 l2 l3 l4 l5 l6 l7 l8
          refine ⟨⟨fun vs w hb hn => ?_, fun vs w hb hn => ?_, fun vs w hb hn => ?_, fun vs w hb hn => ?_, fun vs w hb hn => ?_, fun vs w hb hn => ?_, fun vs w hb hn => ?_, fun vs w hb hn => ?_, fun vs w hb hn => ?_, fun vs w hb hn => ?_, trivial⟩, fun vs w hb hy hd => ?_⟩
          · clear hn
            refine mix_step rfl ?_
            simp only [pv]
            go_wp2_with fail
            exact ⟨_, rfl, (Below.refl _ _).alloc (Nat.le_refl _) _, w.heap.size, rfl, row_new kStr (l := [⟨#[115]⟩]) (heap_alloc_new _ _) rfl (by decide) (fun s hs => by simp only [List.mem_cons, List.not_mem_nil, or_false] at hs; rcases hs with rfl <;> (first | decide | (refine ⟨⟨?_, ?_⟩, ⟨?_, ?_⟩, ⟨?_, ?_⟩, ⟨?_, ?_⟩, ⟨?_, ?_⟩, ⟨?_, ?_⟩, ⟨?_, ?_⟩, ⟨?_, ?_⟩⟩ <;> decide) | (refine ⟨?_, ?_⟩ <;> decide)))⟩
          · clear hn
            refine mix_step rfl ?_
            simp only [pv]
            go_wp2_with fail
            exact ⟨_, rfl, (Below.refl _ _).alloc (Nat.le_refl _) _, w.heap.size, rfl, row_new kInt (l := [2]) (heap_alloc_new _ _) rfl (by decide) (fun s hs => by simp only [List.mem_cons, List.not_mem_nil, or_false] at hs; rcases hs with rfl <;> (first | decide | (refine ⟨⟨?_, ?_⟩, ⟨?_, ?_⟩, ⟨?_, ?_⟩, ⟨?_, ?_⟩, ⟨?_, ?_⟩, ⟨?_, ?_⟩, ⟨?_, ?_⟩, ⟨?_, ?_⟩⟩ <;> decide) | (refine ⟨?_, ?_⟩ <;> decide)))⟩
          · clear hn
            refine mix_step rfl ?_
            simp only [pv]
            go_wp2_with (go_at_call 42; refine (num_any _ _).mono ?_; rintro e w1 ⟨rfl, hb1⟩)
            exact ⟨_, rfl, hb1, rfl⟩
          · clear hn
            refine mix_step rfl ?_
            simp only [pv]
            go_wp2_with (go_at_call 42; refine (num_any _ _).mono ?_; rintro e w1 ⟨rfl, hb1⟩)
            exact ⟨_, rfl, hb1, rfl⟩
          · have e0 : _ = Value.agg _ := hn (2, some 67) (by simp)
            have e1 : _ = Value.agg _ := hn (3, some 68) (by simp)
            clear hn
            refine mix_step rfl ?_
            simp only [pv]
            rw [e0, e1]
            go_wp2_with fail
            exact ⟨_, rfl, Below.refl _ _, rfl⟩
          · clear hn
            refine mix_step rfl ?_
            simp only [pv]
            go_wp2_with (go_at_call 42; refine (num_any _ _).mono ?_; rintro e w1 ⟨rfl, hb1⟩)
            exact ⟨_, rfl, hb1, rfl⟩
          · have e0 : _ = Value.agg _ := hn (5, some 70) (by simp)
            clear hn
            refine mix_step rfl ?_
            simp only [pv]
            rw [e0]
            go_wp2_with fail
            exact ⟨_, rfl, Below.refl _ _, rfl⟩
          · have e0 : _ = Value.agg _ := hn (4, some 69) (by simp)
            have e1 : _ = Value.agg _ := hn (6, some 71) (by simp)
            clear hn
            refine mix_step rfl ?_
            simp only [pv]
            rw [e0, e1]
            go_wp2_with fail
            exact ⟨_, rfl, (Below.refl _ _).alloc (Nat.le_refl _) _, w.heap.size, rfl, row_new kCode (l := [⟨3, 0, 0, 0, ⟨-1, 1⟩, ⟨-1, 3⟩⟩, ⟨2, 0, 0, 0, ⟨-1, 1⟩, ⟨0, 0⟩⟩, ⟨6, 0, 1, 0, ⟨0, 0⟩, ⟨0, 0⟩⟩, ⟨9, 0, 0, 0, ⟨0, 0⟩, ⟨0, 0⟩⟩]) (heap_alloc_new _ _) rfl (by decide) (fun s hs => by simp only [List.mem_cons, List.not_mem_nil, or_false] at hs; rcases hs with rfl | rfl | rfl | rfl <;> (first | decide | (refine ⟨⟨?_, ?_⟩, ⟨?_, ?_⟩, ⟨?_, ?_⟩, ⟨?_, ?_⟩, ⟨?_, ?_⟩, ⟨?_, ?_⟩, ⟨?_, ?_⟩, ⟨?_, ?_⟩⟩ <;> decide) | (refine ⟨?_, ?_⟩ <;> decide)))⟩
          · obtain ⟨g0, e0, h0⟩ := hn (0, some 65) (by simp)
            obtain ⟨g1, e1, h1⟩ := hn (1, some 66) (by simp)
            obtain ⟨g2, e2, h2⟩ := hn (9, some 74) (by simp)
            clear hn
            refine mix_step rfl ?_
            simp only [pv]
            rw [e0, e1, e2]
            go_wp2_with fail
            exact ⟨_, rfl, Below.refl _ _, g0, g1, g2, rfl, (by rw [e0] at h0; exact h0), (by rw [e1] at h1; exact h1), (by rw [e2] at h2; exact h2)⟩
          · clear hn
            refine mix_step rfl ?_
            simp only [pv]
            go_wp2_with fail
            exact ⟨_, rfl, (Below.refl _ _).alloc (Nat.le_refl _) _, w.heap.size, rfl, by have := hb.size; simpa using this, heap_alloc_new _ _⟩
          · obtain ⟨⟨g, eg, lg, hg⟩, -⟩ := hy ⟨11, some 4, []⟩ (by simp)
            obtain ⟨⟨g0, g1, g2, ef, r0, r1, r2⟩, -⟩ := hy ⟨10, some 75, [(0, some 65), (1, some 66), (9, some 74)]⟩ (by simp)
            clear hy hd
            have eg' : (vs 11).1 = .pointer (some ⟨g, 0, none⟩) := eg
            have ef' : (vs 10).1 = .agg #[.int .i64 2, .int .i64 2, .slice none 0 0, .slice (some ⟨g0, 0, none⟩) 1 1, .slice (some ⟨g1, 0, none⟩) 1 1, .slice (some ⟨g2, 0, none⟩) 4 4] := ef
            clear eg ef
            have HG := Lib.hid hg
            have HR : Hid (FlatAt (w.setRow g #[.int .i64 2, .int .i64 2, .slice none 0 0, .slice (some ⟨g0, 0, none⟩) 1 1, .slice (some ⟨g1, 0, none⟩) 1 1, .slice (some ⟨g2, 0, none⟩) 4 4]) (.pointer (some ⟨g, 0, none⟩)) fB) := FlatAt.new (f := fB) hg (nilRow kStr (some (upFrom 0)) w) r0 r1 r2 ⟨⟨by decide, by decide⟩, ⟨by decide, by decide⟩⟩
            have HBE := Lib.hid (below_row ((Below.refl W4.heap.size W4).drew.trans hb) lg #[.int .i64 2, .int .i64 2, .slice none 0 0, .slice (some ⟨g0, 0, none⟩) 1 1, .slice (some ⟨g1, 0, none⟩) 1 1, .slice (some ⟨g2, 0, none⟩) 4 4])
            clear hg hb lg r0 r1 r2
            simp only [List.map, Maker.pr, pv]
            rw [eg', ef']
            clear eg' ef'
            simp only [Act.put, List.setIfInBounds_toArray, List.set_cons_succ, List.set_cons_zero, List.getElem_toArray, List.getElem_cons_succ, List.getElem_cons_zero]
            go_wp2_with (refine wpList_store_row rfl 26 (.tmp 4) (.tmp 75) rfl g #[.int .i64 2, .int .i64 2, .slice none 0 0, .slice (some ⟨g0, 0, none⟩) 1 1, .slice (some ⟨g1, 0, none⟩) 1 1, .slice (some ⟨g2, 0, none⟩) 4 4] rfl rfl 26 #[.int .i64 0, .int .i64 0, .slice none 0 0, .slice none 0 0, .slice none 0 0, .slice none 0 0] ?hs4 (by as_aux_lemma => kernel_rfl) (by as_aux_lemma => kernel_rfl) (by as_aux_lemma => kernel_rfl) ?_; exact HG.out)
            go_meet
            exact ⟨HR.out, HBE.out⟩
      case rest =>
        generalize wc = W5 at *
        obtain ⟨⟨⟨gB, caB, saB, aaB, kaB, ccB, scB, acB, kcB, rfl, hgB, hrB⟩⟩, hbB⟩ := hcut
        have HGB := Lib.hid hgB
        have HRB := Lib.hid hrB
        have HBB := Lib.hid hbB
        clear hgB hrB hbB
        have HB5 := Lib.hid (bcomp HB4.out HBB.out)
        have HL5 := Lib.hid (HL.out.keep HB5.out)
        have HGA5 := Lib.hid ((HBB.out.block _ (Array.getElem?_eq_some_iff.1 HGA.out).1).trans HGA.out)
        have HRA5 := Lib.hid (HRA.out.keep HBB.out)
        clear HGA HRA HBB HH4 HB4 HL4
        have HGA := HGA5; have HRA := HRA5; clear HGA5 HRA5
        have HKA : Hid (∀ w' : World, Below W5.heap.size W5 w' → w'.cell? ⟨gA, 0, none⟩ = some (.int .i64 fA.width) ∧ w'.cell? ⟨gA, 1, none⟩ = some (.int .i64 fA.regs) ∧ w'.cell? ⟨gA, 2, none⟩ = some (.slice caA fA.chans.length ccA) ∧ w'.cell? ⟨gA, 3, none⟩ = some (.slice saA fA.sites.length scA) ∧ w'.cell? ⟨gA, 4, none⟩ = some (.slice aaA fA.arrays.length acA) ∧ w'.cell? ⟨gA, 5, none⟩ = some (.slice kaA fA.code.length kcA)) := fun w' hb => by
          have h := (hb.block _ (Array.getElem?_eq_some_iff.1 HGA.out).1).trans HGA.out
          exact ⟨row_of h 0 _ rfl, row_of h 1 _ rfl, row_of h 2 _ rfl, row_of h 3 _ rfl, row_of h 4 _ rfl, row_of h 5 _ rfl⟩
        have HKB : Hid (∀ w' : World, Below W5.heap.size W5 w' → w'.cell? ⟨gB, 0, none⟩ = some (.int .i64 fB.width) ∧ w'.cell? ⟨gB, 1, none⟩ = some (.int .i64 fB.regs) ∧ w'.cell? ⟨gB, 2, none⟩ = some (.slice caB fB.chans.length ccB) ∧ w'.cell? ⟨gB, 3, none⟩ = some (.slice saB fB.sites.length scB) ∧ w'.cell? ⟨gB, 4, none⟩ = some (.slice aaB fB.arrays.length acB) ∧ w'.cell? ⟨gB, 5, none⟩ = some (.slice kaB fB.code.length kcB)) := fun w' hb => by
          have h := (hb.block _ (Array.getElem?_eq_some_iff.1 HGB.out).1).trans HGB.out
          exact ⟨row_of h 0 _ rfl, row_of h 1 _ rfl, row_of h 2 _ rfl, row_of h 3 _ rfl, row_of h 4 _ rfl, row_of h 5 _ rfl⟩
        have HA1 : Hid (∀ w0 : World, Below W5.heap.size W5 w0 → Calls Tryd.prog 43 #[.agg #[.int .i64 fA.width, .int .i64 fA.regs, .slice caA fA.chans.length ccA, .slice saA fA.sites.length scA, .slice aaA fA.arrays.length acA, .slice kaA fA.code.length kcA], .int .i64 9, .agg #[.int .u8 1, .int .i64 1, .slice none 0 0, .slice none 0 0, .slice none 0 0, .slice none 0 0], .slice none 0 0] w0 fun e w' => e = .returned (.bool true) ∧ Below w0.heap.size w0 w') := fun w0 hb => by
          have hal := Below.refl w0.heap.size w0
          have := runs_true fA _ _ _ _ (⟨1, 1, [], [], [], []⟩ : TraceD) _ _ _ _ _ [] 9 _ (HRA.out.keep (bcomp hb hal)) ⟨(nilRow kEv _ _), (nilRow kEv _ _), (nilRow kBool _ _), (nilRow kInt _ _), ⟨by decide, by decide⟩, ⟨by decide, by decide⟩⟩ (nilLists _ _) (HL5.out.keep (bcomp hb hal)) ⟨by decide, by decide⟩ (by decide) (by as_aux_lemma => kernel_rfl) (by as_aux_lemma => kernel_rfl)
          exact this.mono fun e w' h => ⟨h.1, bcomp hal h.2⟩
        have HA2 : Hid (∀ w0 : World, Below W5.heap.size W5 w0 → Calls Tryd.prog 43 #[.agg #[.int .i64 fB.width, .int .i64 fB.regs, .slice caB fB.chans.length ccB, .slice saB fB.sites.length scB, .slice aaB fB.arrays.length acB, .slice kaB fB.code.length kcB], .int .i64 9, .agg #[.int .u8 0, .int .i64 4, .slice none 0 0, .slice (some ⟨w0.heap.size, 0, none⟩) 1 1, .slice none 0 0, .slice none 0 0], .slice none 0 0] (w0.alloc (.cells #[.int .i64 0, .int .u64 3] 56)) fun e w' => e = .returned (.bool true) ∧ Below w0.heap.size w0 w') := fun w0 hb => by
          have h0 := heap_alloc_new w0 (.cells #[.int .i64 0, .int .u64 3] 56)
          have hal := (Below.refl w0.heap.size w0).alloc (Nat.le_refl _) (.cells #[.int .i64 0, .int .u64 3] 56)
          have := runs_true fB _ _ _ _ (⟨0, 4, [], [⟨0, 3⟩], [], []⟩ : TraceD) _ _ _ _ _ [] 9 _ (HRB.out.keep (bcomp hb hal)) ⟨(nilRow kEv _ _), (row_new kEv (l := [⟨0, 3⟩]) h0 rfl (by decide) (fun s hs => by simp only [List.mem_cons, List.not_mem_nil, or_false] at hs; rcases hs with rfl; first | trivial | exact ⟨⟨by decide, by decide⟩, ⟨by decide, by decide⟩⟩ | exact ⟨by decide, by decide⟩)).forget, (nilRow kBool _ _), (nilRow kInt _ _), ⟨by decide, by decide⟩, ⟨by decide, by decide⟩⟩ (nilLists _ _) (HL5.out.keep (bcomp hb hal)) ⟨by decide, by decide⟩ (by decide) (by as_aux_lemma => kernel_rfl) (by as_aux_lemma => kernel_rfl)
          exact this.mono fun e w' h => ⟨h.1, bcomp hal h.2⟩
        obtain ⟨o0, o1, o2, o3, o4, o5⟩ := HKA.out _ (Below.refl _ _)
        go_upto_region 9 with (first | (go_at_call 43; with_reducible refine (HA1.out _ (Below.refl _ _)).mono ?_; rintro e z1 ⟨rfl, hz⟩; have Z1 := Lib.hid (hz); clear hz; clear o0 o1 o2 o3 o4 o5; obtain ⟨p0, p1, p2, p3, p4, p5⟩ := HKB.out _ Z1.out) | (go_at_call 43; with_reducible refine (HA2.out _ Z1.out).mono ?_; rintro e z2 ⟨rfl, hz⟩; have Z2 := Lib.hid (bcomp Z1.out hz); clear hz; clear p0 p1 p2 p3 p4 p5))
        clear HA1 HA2 Z1 HKA HGA HRA
        generalize z2 = W6 at *
        have HN := Lib.hid (machNew fB _ _ _ _ _ [] W6 (HRB.out.keep Z2.out) (nilLists none _) (HL5.out.keep Z2.out) (by as_aux_lemma => kernel_rfl) (by decide))
        have HB6 := Lib.hid (bcomp HB5.out Z2.out)
        have HL6 := Lib.hid (HL.out.keep HB6.out)
        obtain ⟨p0, p1, p2, p3, p4, p5⟩ := HKB.out _ Z2.out
        have hh : HeadP fB := headP (by as_aux_lemma => kernel_rfl)
        have hci : ∀ c ∈ fB.code, CodeIn c := HRB.out.2.2.2.1.ok
        have HH := Lib.hid hh
        have HGO := Lib.hid (fun (k : Nat) => going_run (ins := insM fB []) hh hci k)
        have HIN : Hid ((insM fB []).length = fB.chans.length) := rfl
        clear hh hci
        go_upto_region 12 with (go_at_call 13; refine HN.out.mono ?_; rintro e z7 ⟨bm, rfl, hm7, hb7⟩)
        have HM7 : Hid (NewIn W6.heap.size z7 bm fB (insM fB []) (iterM fB (insM fB []) 0 (newM fB))) := hm7
        have HB7 := Lib.hid hb7
        clear hm7 hb7 p0 p1 p2 p3 p4 p5
        go_wp2_with fail
        go_loopw [7] (fun i wr => ∃ k : Nat, k ≤ 4 ∧ i = .int .i64 k ∧ NewIn W6.heap.size wr bm fB (insM fB []) (iterM fB (insM fB []) k (newM fB)) ∧ Below W6.heap.size W6 wr) (fun i _ => 4 - (intOf i).toNat)
        case atStart => exact ⟨0, by omega, rfl, HM7.out, HB7.out⟩
        case round =>
          obtain ⟨k, hk, rfl, hmr, hbr⟩ := hrel
          by_cases hlt : k < 4
          · have hk1 : (k : Int) < 4 := by omega
            have hs : (iterM fB (insM fB []) k (newM fB)).t.status = 2 := by
              match k, hlt with
              | 0, _ => show _ = _; kernel_rfl
              | 1, _ => show _ = _; kernel_rfl
              | 2, _ => show _ = _; kernel_rfl
              | 3, _ => show _ = _; kernel_rfl
            have HS := Lib.hid (stepNew hmr hbr HL6.out HH.out (HGO.out k) (by omega) HIN.out)
            rw [← iterM_succ, hs] at HS
            have hs2 : ((2 : Int) == 2) = true := rfl
            clear hmr hbr hs
            go_wp2_with (go_at_call 23; refine HS.out.mono ?_; rintro e w3 ⟨rfl, hm3, hb3⟩)
            go_roundw
            case rel => exact ⟨k + 1, by omega, by go_num, hm3, hb3⟩
            case measure => simp [intOf]; omega
          · obtain rfl : k = 4 := by omega
            have HMR := Lib.hid hmr
            have HBR := Lib.hid hbr
            clear hmr hbr hk hlt
            have HNB := Lib.hid (machNewBad ⟨0, 0, [], [], [], []⟩ (.slice none 0 0) (.slice none 0 0) (.slice none 0 0) (.slice none 0 0) none 0 0 wr ⟨nilRow _ _ _, nilRow _ _ _, nilRow _ _ _, nilRow _ _ _, ⟨by decide, by decide⟩, ⟨by decide, by decide⟩⟩ (HL6.out.keep HBR.out) (by omega) (.inl (by as_aux_lemma => kernel_rfl)))
            rw [show flatOk ⟨0, 0, [], [], [], []⟩ = false from by as_aux_lemma => kernel_rfl] at HNB
            have hs4 : (iterM fB (insM fB []) 4 (newM fB)).t.status = 0 := by as_aux_lemma => kernel_rfl
            have hp5 : (iterM fB (insM fB []) 5 (newM fB)).pc = 3 := by as_aux_lemma => kernel_rfl
            have hr5 : regM (iterM fB (insM fB []) 5 (newM fB)) 1 = 3 := by as_aux_lemma => kernel_rfl
            have hl5 : (iterM fB (insM fB []) 5 (newM fB)).regs.length ≤ 2097152 := by have := (HGO.out 5).good.regs; rw [this]; decide
            have HSTEP : Hid (∀ w' : World, Below wr.heap.size wr w' → Calls Tryd.prog 23 #[.pointer (some ⟨bm, 0, none⟩)] w' fun e w'' => e = .returned (.bool false) ∧ NewIn W6.heap.size w'' bm fB (insM fB []) (iterM fB (insM fB []) 5 (newM fB)) ∧ Below W6.heap.size W6 w'') := fun w' hb => by
              have := stepNew (HMR.out.keep hb) (bcomp HBR.out hb) HL6.out HH.out (HGO.out 4) (by omega) HIN.out
              rw [← iterM_succ, hs4] at this
              exact this
            generalize iterM fB (insM fB []) 5 (newM fB) = m5 at *
            have HREG : Hid (∀ w' : World, NewIn W6.heap.size w' bm fB (insM fB []) m5 → Calls Tryd.prog 21 #[.pointer (some ⟨bm, 0, none⟩), .int .i64 1] w' fun e w'' => e = .returned (.int .u64 3) ∧ w' = w'') := fun w' h => by
              have := regNew h 1 ⟨by decide, by decide⟩ hl5
              rw [hr5] at this; exact this
            have HAT : Hid (∀ w' : World, NewIn W6.heap.size w' bm fB (insM fB []) m5 → Calls Tryd.prog 20 #[.pointer (some ⟨bm, 0, none⟩)] w' fun e w'' => e = .returned (.int .i64 3) ∧ w' = w'') := fun w' h => by
              have := atNew h
              rw [hp5] at this; exact this
            have HRUN : Hid (∀ w' : World, Below W6.heap.size W6 w' → Calls Tryd.prog 25 #[.agg #[.int .i64 fB.width, .int .i64 fB.regs, .slice caB fB.chans.length ccB, .slice saB fB.sites.length scB, .slice aaB fB.arrays.length acB, .slice kaB fB.code.length kcB], .int .i64 0, .slice none 0 0] w' fun e w'' => ∃ a1 a2 a3 a4 a5 a6 a7 a8, e = .returned (.tuple #[.agg #[.int .u8 0, .int .i64 0, .slice a1 0 a2, .slice a3 0 a4, .slice a5 0 a6, .slice a7 0 a8], .int .i64 3]) ∧ Below w'.heap.size w' w'') := fun w' hb => by
              refine (machRun fB _ _ _ _ _ [] 0 w' (HRB.out.keep (bcomp Z2.out hb)) (nilLists none _) (HL6.out.keep hb) ⟨by decide, by decide⟩ (by decide)).mono ?_
              rintro e w'' ⟨v1, v2, v3, v4, rfl, hr, hb'⟩
              rw [show runT fB [] 0 = zeroT from rfl] at hr ⊢
              obtain ⟨a1, a2, rfl⟩ := hr.1.is
              obtain ⟨a3, a4, rfl⟩ := hr.2.1.is
              obtain ⟨a5, a6, rfl⟩ := hr.2.2.1.is
              obtain ⟨a7, a8, rfl⟩ := hr.2.2.2.1.is
              exact ⟨a1, a2, a3, a4, a5, a6, a7, a8, rfl, hb'⟩
            clear hs4 hp5 hr5 hl5
            go_upto_region 18 with (go_at_call 13; refine HNB.out.mono ?_; rintro e y1 ⟨rfl, hy1⟩)
            have BY1 := Lib.hid hy1
            obtain ⟨p0, p1, p2, p3, p4, p5⟩ := HKB.out y1 (bcomp Z2.out (bcomp HBR.out BY1.out))
            clear hy1
            go_upto_region 19 with (first | (go_at_call 25; with_reducible refine (HRUN.out _ (bcomp HBR.out BY1.out)).mono ?_; rintro e y2 ⟨a1, a2, a3, a4, a5, a6, a7, a8, rfl, hy2⟩; have BY2 := Lib.hid hy2; have HNW := Lib.hid (heap_alloc_new y2 (.cells #[.int .u8 0, .int .i64 0, .slice none 0 0, .slice none 0 0, .slice none 0 0, .slice none 0 0] 49)); have HBW := Lib.hid (below_row ((Below.refl y2.heap.size y2).alloc (Nat.le_refl _) (.cells #[.int .u8 0, .int .i64 0, .slice none 0 0, .slice none 0 0, .slice none 0 0, .slice none 0 0] 49)) (Nat.le_refl _) #[.int .u8 0, .int .i64 0, .slice a1 0 a2, .slice a3 0 a4, .slice a5 0 a6, .slice a7 0 a8]); clear hy2 p0 p1 p2 p3 p4 p5) | (refine wpList_store_row rfl 49 (.tmp 10) (.tmp 114) rfl y2.heap.size #[.int .u8 0, .int .i64 0, .slice a1 0 a2, .slice a3 0 a4, .slice a5 0 a6, .slice a7 0 a8] rfl rfl 49 #[.int .u8 0, .int .i64 0, .slice none 0 0, .slice none 0 0, .slice none 0 0, .slice none 0 0] ?hs9 (by as_aux_lemma => kernel_rfl) (by as_aux_lemma => kernel_rfl) (by as_aux_lemma => kernel_rfl) ?_; exact HNW.out))
            try simp only [Act.put]
            generalize ((y2.alloc (.cells #[.int .u8 0, .int .i64 0, .slice none 0 0, .slice none 0 0, .slice none 0 0, .slice none 0 0] 49)).setRow y2.heap.size #[.int .u8 0, .int .i64 0, .slice a1 0 a2, .slice a3 0 a4, .slice a5 0 a6, .slice a7 0 a8]) = y3 at *
            have BY3 := Lib.hid (bcomp BY1.out (bcomp BY2.out HBW.out))
            go_wp2_with (first | (go_at_call 23; with_reducible refine (HSTEP.out _ BY3.out).mono ?_; rintro e y4 ⟨rfl, hm4, hy4⟩; have HM4 := Lib.hid hm4; have BY4 := Lib.hid hy4; clear hm4 hy4) | (go_at_call 21; with_reducible refine (HREG.out _ HM4.out).mono ?_; rintro e y5 ⟨rfl, rfl⟩) | (go_at_call 20; with_reducible refine (HAT.out _ HM4.out).mono ?_; rintro e y6 ⟨rfl, rfl⟩))
            go_ret
            exact ⟨rfl, bcomp HB6.out BY4.out⟩
end Go.Proofs.YthmdioldnnhidaaDoor
