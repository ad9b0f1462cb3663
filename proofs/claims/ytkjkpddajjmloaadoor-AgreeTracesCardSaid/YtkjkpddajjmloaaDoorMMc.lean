/- Contracts of what the kinds of instructions do in the program: called on a run they leave the run that the plain functions say, and write nothing that was there but the run's own rows. Conditions: the run lies at the pointer, and the instruction is one that may be done. -/
import Derived.Test.YtkjkpddajjmloaaDoorMMb
import Derived.Maps.AppendAt
set_option linter.unusedVariables false
set_option linter.unusedSimpArgs false
namespace Go.Proofs.YtkjkpddajjmloaaDoor
open Go.ChangeShapes Go.WideShapes Go.ChangeAt Go.RowKit
def Grow (G : Nat → Prop) (w w' : World) : Nat → Prop := fun b => G b ∨ (w.heap.size ≤ b ∧ b < w'.heap.size)
/-- A run of the program's lies in the block bm; all its blocks are of G. -/
def MachIn (G : Nat → Prop) (w : World) (bm : Nat) (f : FlatD) (ins : List (List Int)) (m : MachD) : Prop :=
  ∃ (I : Nat → Prop) (c8 c9 c10 kv iv av ov rv bv : Value) (gb db : Nat) (bs : List Nat), MachAt G I w bm f ins m c8 c9 c10 kv iv av ov rv bv gb db bs
/-- Behind a call that does something to a run. -/
def Post (G : Nat → Prop) (w w' : World) (bm : Nat) (f : FlatD) (ins : List (List Int)) (m : MachD) : Prop := MachIn (Grow G w w') w' bm f ins m ∧ Turn G w w'
theorem Mem.mono {G G' I : Nat → Prop} {w : World} {f : FlatD} {ins : List (List Int)} {m : MachD} {kv iv av ov rv bv : Value} {gb db : Nat} {bs : List Nat} (h : Mem G I w f ins m kv iv av ov rv bv gb db bs) (k : ∀ b, b < w.heap.size → G b → G' b) (kI : ∀ b, I b → G' b) : Mem G' I w f ins m kv iv av ov rv bv gb db bs :=
  { h with iG := kI, sep := ⟨k _ (Array.getElem?_eq_some_iff.1 h.regs).1 h.sep.1, h.sep.2.1, k _ (Array.getElem?_eq_some_iff.1 h.reads).1 h.sep.2.2.1, h.sep.2.2.2.1, fun b hb => ⟨k b (by obtain ⟨_, l, _, _, hr⟩ := zip_rows h hb; exact (Array.getElem?_eq_some_iff.1 hr).1) (h.sep.2.2.2.2 b hb).1, (h.sep.2.2.2.2 b hb).2⟩⟩, osep := ⟨fun b hb => ⟨k b (own_lt h.outs b hb) (h.osep.1 b hb).1, (h.osep.1 b hb).2⟩, fun b hb => ⟨k b (own_lt h.rels b hb) (h.osep.2.1 b hb).1, (h.osep.2.1 b hb).2⟩, fun b hb => ⟨k b (own_lt h.brs b hb) (h.osep.2.2 b hb).1, (h.osep.2.2 b hb).2⟩⟩ }
theorem MachAt.mono {G G' I : Nat → Prop} {w : World} {bm : Nat} {f : FlatD} {ins : List (List Int)} {m : MachD} {c8 c9 c10 kv iv av ov rv bv : Value} {gb db : Nat} {bs : List Nat} (h : MachAt G I w bm f ins m c8 c9 c10 kv iv av ov rv bv gb db bs) (k : ∀ b, G b → G' b) : MachAt G' I w bm f ins m c8 c9 c10 kv iv av ov rv bv gb db bs :=
  ⟨h.mem.mono (fun b _ hb => k b hb) (fun b hb => k b (h.mem.iG b hb)), h.box, k _ h.bG.1, h.bG.2⟩
theorem MachIn.mono {G G' : Nat → Prop} {w : World} {bm : Nat} {f : FlatD} {ins : List (List Int)} {m : MachD} (h : MachIn G w bm f ins m) (k : ∀ b, G b → G' b) : MachIn G' w bm f ins m := by
  obtain ⟨I, c8, c9, c10, kv, iv, av, ov, rv, bv, gb, db, bs, h⟩ := h
  exact ⟨I, c8, c9, c10, kv, iv, av, ov, rv, bv, gb, db, bs, h.mono k⟩
theorem post_of {G I : Nat → Prop} {w w' : World} {bm : Nat} {f : FlatD} {ins : List (List Int)} {m : MachD} {c8 c9 c10 kv iv av ov rv bv : Value} {gb db : Nat} {bs : List Nat} (h : MachAt G I w' bm f ins m c8 c9 c10 kv iv av ov rv bv gb db bs) (t : Turn G w w') : Post G w w' bm f ins m :=
  ⟨⟨I, c8, c9, c10, kv, iv, av, ov, rv, bv, gb, db, bs, h.mono fun _ hb => .inl hb⟩, t⟩
/-- The next instruction is written. -/
theorem MachAt.setPc {G I : Nat → Prop} {w : World} {bm : Nat} {f : FlatD} {ins : List (List Int)} {m : MachD} {c8 c9 c10 kv iv av ov rv bv : Value} {gb db : Nat} {bs : List Nat} (h : MachAt G I w bm f ins m c8 c9 c10 kv iv av ov rv bv gb db bs) (v : Int) : MachAt G I (w.setCell ⟨bm, 15, none⟩ (.int .i64 v)) bm f ins { m with pc := v } c8 c9 c10 kv iv av ov rv bv gb db bs :=
  ⟨(h.mem.apart (h.mem.notIn h.box h.bG.2 (by decide)) (fun b _ hb => heap_setCell_other _ _ _ _ (by simpa using hb))).alike rfl rfl rfl rfl rfl rfl, by rw [heap_setCell_same _ _ _ _ _ _ h.box]; rfl, h.bG⟩
/-- The count of steps is written. -/
theorem MachAt.setSteps {G I : Nat → Prop} {w : World} {bm : Nat} {f : FlatD} {ins : List (List Int)} {m : MachD} {c8 c9 c10 kv iv av ov rv bv : Value} {gb db : Nat} {bs : List Nat} (h : MachAt G I w bm f ins m c8 c9 c10 kv iv av ov rv bv gb db bs) (v : Int) : MachAt G I (w.setCell ⟨bm, 1, none⟩ (.int .i64 v)) bm f ins { m with t := { m.t with steps := v } } c8 c9 c10 kv iv av ov rv bv gb db bs :=
  ⟨(h.mem.apart (h.mem.notIn h.box h.bG.2 (by decide)) (fun b _ hb => heap_setCell_other _ _ _ _ (by simpa using hb))).alike rfl rfl rfl rfl rfl rfl, by rw [heap_setCell_same _ _ _ _ _ _ h.box]; rfl, h.bG⟩
/-- The status is written, and that the run has ended. -/
theorem MachAt.setStatus {G I : Nat → Prop} {w : World} {bm : Nat} {f : FlatD} {ins : List (List Int)} {m : MachD} {c8 c9 c10 kv iv av ov rv bv : Value} {gb db : Nat} {bs : List Nat} (h : MachAt G I w bm f ins m c8 c9 c10 kv iv av ov rv bv gb db bs) (s : Int) (hs : (s != 2) = true) : MachAt G I ((w.setCell ⟨bm, 0, none⟩ (.int .u8 s)).setCell ⟨bm, 16, none⟩ (.bool true)) bm f ins { m with t := { m.t with status := s } } c8 c9 c10 kv iv av ov rv bv gb db bs :=
  ⟨(h.mem.apart (h.mem.notIn h.box h.bG.2 (by decide)) (fun b _ hb => by rw [heap_setCell_other _ _ _ _ (by simpa using hb), heap_setCell_other _ _ _ _ (by simpa using hb)])).alike rfl rfl rfl rfl rfl rfl, by
    rw [heap_setCell_same _ _ _ _ _ _ (heap_setCell_same _ _ _ _ _ _ h.box)]
    simp only [cellsP, hs]
    rfl, h.bG⟩
set_option maxRecDepth 100000 in
set_option maxHeartbeats 1600000 in
theorem machEnd {G I : Nat → Prop} {w : World} {bm : Nat} {f : FlatD} {ins : List (List Int)} {m : MachD} {c8 c9 c10 kv iv av ov rv bv : Value} {gb db : Nat} {bs : List Nat} (h : MachAt G I w bm f ins m c8 c9 c10 kv iv av ov rv bv gb db bs) (s : Int) (hs : (s != 2) = true) (hp : 0 ≤ m.pc) (hp1 : m.pc ≤ 4096) :
    Calls Tryd.prog 157 #[.pointer (some ⟨bm, 0, none⟩), .int .u8 s] w fun e w' => e = .returned (.tuple #[]) ∧ Post G w w' bm f ins (endM m s) := by
  have c15 := row_of h.box 15 _ rfl
  have c0 := row_of h.box 0 _ rfl
  have c16 := row_of h.box 16 _ rfl
  have f15 := frozen_of_row w bm 15 _ _ h.box
  have f0 := frozen_of_row w bm 0 _ _ h.box
  have f16 := frozen_of_row w bm 16 _ _ h.box
  have H := Lib.hid ((h.setStatus s hs).setPc (m.pc - 1))
  have hT : Hid (Turn G w (((w.setCell ⟨bm, 0, none⟩ (.int .u8 s)).setCell ⟨bm, 16, none⟩ (.bool true)).setCell ⟨bm, 15, none⟩ (.int .i64 (m.pc - 1)))) := (((Turn.refl G w).setCell h.bG.1 _).setCell h.bG.1 _).setCell h.bG.1 _
  clear h
  go_enter Tryd.func157, Tryd.ntmps157
  go_wp2
  go_end0
  exact ⟨rfl, post_of H.out hT.out⟩
set_option maxRecDepth 100000 in
set_option maxHeartbeats 1600000 in
theorem machJump {G I : Nat → Prop} {w : World} {bm : Nat} {f : FlatD} {ins : List (List Int)} {m : MachD} {c8 c9 c10 kv iv av ov rv bv : Value} {gb db : Nat} {bs : List Nat} (h : MachAt G I w bm f ins m c8 c9 c10 kv iv av ov rv bv gb db bs) (c : CodeD) :
    Calls Tryd.prog 150 #[.pointer (some ⟨bm, 0, none⟩), codeV c] w fun e w' => e = .returned (.tuple #[]) ∧ Post G w w' bm f ins (doM f ins c m 7) := by
  have c15 := row_of h.box 15 _ rfl
  have f15 := frozen_of_row w bm 15 _ _ h.box
  have hlt : bm < w.heap.size := (Array.getElem?_eq_some_iff.1 h.box).1
  have h1 := h.setPc c.n
  have hb : Below (w.setCell ⟨bm, 15, none⟩ (.int .i64 c.n)).heap.size (w.setCell ⟨bm, 15, none⟩ (.int .i64 c.n)) ((w.setCell ⟨bm, 15, none⟩ (.int .i64 c.n)).alloc (.cells #[.int .u8 c.kind, .int .u8 c.op, .int .i64 c.dst, .int .i64 c.n, .int .i64 c.a.reg, .int .u64 c.a.num, .int .i64 c.b.reg, .int .u64 c.b.num] 103)) := (Below.refl _ _).alloc (Nat.le_refl _) _
  have H := Lib.hid (h1.keep hb)
  have hT := Lib.hid (((Turn.refl G w).setCell (a := ⟨bm, 15, none⟩) h.bG.1 (.int .i64 c.n)).trans (Turn.of_below hb))
  clear h h1 hb
  go_enter Tryd.func150, Tryd.ntmps150
  go_wp2
  go_end0
  exact ⟨rfl, post_of H.out hT.out⟩
theorem code_box (w : World) (c : CodeD) : Below w.heap.size w (w.alloc (.cells #[.int .u8 c.kind, .int .u8 c.op, .int .i64 c.dst, .int .i64 c.n, .int .i64 c.a.reg, .int .u64 c.a.num, .int .i64 c.b.reg, .int .u64 c.b.num] 103)) := (Below.refl _ _).alloc (Nat.le_refl _) _
/-- A register is written, in the box's run. -/
theorem MachAt.setReg {G I : Nat → Prop} {w : World} {bm : Nat} {f : FlatD} {ins : List (List Int)} {m : MachD} {c8 c9 c10 kv iv av ov rv bv : Value} {gb db : Nat} {bs : List Nat} (h : MachAt G I w bm f ins m c8 c9 c10 kv iv av ov rv bv gb db bs) (d v : Int) : MachAt G I (w.setCell ⟨gb, d.toNat, none⟩ (.int .u64 v)) bm f ins (setR m d v) c8 c9 c10 kv iv av ov rv bv gb db bs :=
  ⟨h.mem.setReg d.toNat v, by rw [heap_setCell_other _ _ _ _ (by simpa using row_ne h.box h.mem.regs (by decide)), h.box]; simp [cellsP, setR], h.bG⟩
set_option maxRecDepth 100000 in
set_option maxHeartbeats 1600000 in
theorem machCopy {G I : Nat → Prop} {w : World} {bm : Nat} {f : FlatD} {ins : List (List Int)} {m : MachD} {c8 c9 c10 kv iv av ov rv bv : Value} {gb db : Nat} {bs : List Nat} (h : MachAt G I w bm f ins m c8 c9 c10 kv iv av ov rv bv gb db bs) (c : CodeD) (hl : m.regs.length ≤ 2097152) (ha : RefIn m c.a) (hd0 : 0 ≤ c.dst) (hd1 : c.dst < m.regs.length) :
    Calls Tryd.prog 143 #[.pointer (some ⟨bm, 0, none⟩), codeV c] w fun e w' => e = .returned (.tuple #[]) ∧ Post G w w' bm f ins (doM f ins c m 0) := by
  obtain ⟨ck, co, cd, cn, cra, crb⟩ := c
  obtain ⟨d, rfl⟩ : ∃ d : Nat, cd = d := ⟨cd.toNat, by simp only at hd0; omega⟩
  simp only at ha hd0 hd1
  obtain ⟨x, hx⟩ : ∃ x, m.regs[d]? = some x := ⟨_, List.getElem?_eq_getElem (by omega)⟩
  have hb : Below w.heap.size w (w.alloc (.cells #[.int .u8 ck, .int .u8 co, .int .i64 d, .int .i64 cn, .int .i64 cra.reg, .int .u64 cra.num, .int .i64 crb.reg, .int .u64 crb.num] 103)) := (Below.refl _ _).alloc (Nat.le_refl _) _
  have hgb := heap_alloc_new w (.cells #[.int .u8 ck, .int .u8 co, .int .i64 d, .int .i64 cn, .int .i64 cra.reg, .int .u64 cra.num, .int .i64 crb.reg, .int .u64 crb.num] 103)
  have h1 := h.keep hb
  have hlt : bm < w.heap.size := (Array.getElem?_eq_some_iff.1 h.box).1
  go_enter Tryd.func143, Tryd.ntmps143
  go_upto_region 1 with fail
  generalize w.alloc (.cells #[.int .u8 ck, .int .u8 co, .int .i64 d, .int .i64 cn, .int .i64 cra.reg, .int .u64 cra.num, .int .i64 crb.reg, .int .u64 crb.num] 103) = W at *
  have HB := Lib.hid hb
  have HG := Lib.hid hgb
  clear h hb hgb
  have l13 := ext_cell (row_of h1.box 13 _ rfl)
  have l2 := ext_cell (row_of HG.out 2 _ rfl)
  have l4 := ext_cell (row_of HG.out 4 _ rfl)
  have l5 := ext_cell (row_of HG.out 5 _ rfl)
  have H1 := Lib.hid h1
  have HV := Lib.hid (fun x => machValue (h1.keep (ext_below W x)) cra ha hl)
  have HX := Lib.hid hx
  clear h1 hx ha
  (refine wp_region_calm_tail 10 (by kernel_rfl) (by kernel_rfl) ?_; simp only [List.take_succ_cons, List.take_zero, List.drop_succ_cons, List.drop_zero]; (repeat (go_big_quiet_step ((go_at_call 153; exact calls_calm (HV.out _))))); refine wpQuiet_nil ?_; intro wc hwc)
  have H2 := H1.out.keep hwc
  have cg := row_of H2.mem.regs d _ (u64s_get _ _ _ HX.out)
  have fg := frozen_of_row wc gb d _ _ H2.mem.regs
  have HP := Lib.hid (H2.setReg d (valM m cra))
  have hT : Hid (Turn G w (wc.setCell ⟨gb, (d : Int).toNat, none⟩ (.int .u64 (valM m cra)))) := ((Turn.of_below HB.out).trans (Turn.of_below hwc)).setCell H2.mem.sep.1 _
  have hi : (d : Int) < (m.regs.length : Int) := hd1
  clear H2 hwc l13 l2 l4 l5
  go_wp2
  go_end0
  exact ⟨rfl, post_of HP.out hT.out⟩
/-- Behind new memory. -/
theorem Post.under {G : Nat → Prop} {w w1 w2 : World} {bm : Nat} {f : FlatD} {ins : List (List Int)} {m : MachD} (hb : Below w.heap.size w w1) (h : Post G w1 w2 bm f ins m) : Post G w w2 bm f ins m :=
  ⟨h.1.mono fun b hb' => hb'.elim .inl fun k => .inr ⟨Nat.le_trans hb.size k.1, k.2⟩, (Turn.of_below hb).trans h.2⟩
set_option maxRecDepth 100000 in
set_option maxHeartbeats 1600000 in
theorem machHalt {G I : Nat → Prop} {w : World} {bm : Nat} {f : FlatD} {ins : List (List Int)} {m : MachD} {c8 c9 c10 kv iv av ov rv bv : Value} {gb db : Nat} {bs : List Nat} (h : MachAt G I w bm f ins m c8 c9 c10 kv iv av ov rv bv gb db bs) (c : CodeD) (hp : 0 ≤ m.pc) (hp1 : m.pc ≤ 4096) :
    Calls Tryd.prog 152 #[.pointer (some ⟨bm, 0, none⟩), codeV c] w fun e w' => e = .returned (.tuple #[]) ∧ Post G w w' bm f ins (doM f ins c m 9) := by
  have hb := code_box w c
  have HE := Lib.hid (machEnd (h.keep hb) 0 rfl hp hp1)
  have HB := Lib.hid hb
  clear h hb
  go_enter Tryd.func152, Tryd.ntmps152
  go_wp2_with (go_at_call 157; refine HE.out.mono ?_; rintro e w2 ⟨rfl, hp2⟩)
  go_end0
  exact ⟨rfl, hp2.under HB.out⟩
end Go.Proofs.YtkjkpddajjmloaaDoor
