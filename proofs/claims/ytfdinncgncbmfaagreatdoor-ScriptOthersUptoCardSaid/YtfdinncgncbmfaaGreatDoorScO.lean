/- Contract of the maker's one: it takes an instruction. Conditions: the maker's block, the bytes and the program's block hold what is said. -/
import Derived.Test.YtfdinncgncbmfaaGreatDoorScK
import Derived.Test.YtfdinncgncbmfaaGreatDoorScG
import Derived.Test.YtfdinncgncbmfaaGreatDoorKitE
import Derived.Test.YtfdinncgncbmfaaGreatDoorPur
set_option linter.unusedVariables false
set_option linter.unusedSimpArgs false
set_option linter.unnecessarySimpa false
namespace Go.Proofs.YtfdinncgncbmfaaGreatDoor
open Go.Maps (Keyed int_keyed)
open Go.WideShapes Go.ChangeMaps Go.MapKept Go.WideMaps Go.ChangeAt Go.RowKit Go.ChangeShapes
/-- The method of a byte modulo 16. -/
def methodF (k : Nat) : FuncId := match k with
  | 0 => 68
  | 1 => 69
  | 2 => 69
  | 3 => 69
  | 4 => 69
  | 5 => 70
  | 6 => 71
  | 7 => 72
  | 8 => 73
  | 9 => 73
  | 10 => 74
  | 11 => 74
  | 12 => 75
  | 13 => 76
  | 14 => 77
  | _ => 78
def methodV (m k : Nat) : Value := .func (.func (methodF k)) #[.pointer (some ⟨m, 0, none⟩)] #[]
theorem methods_at (m k : Nat) (hk : k < 16) : methods m = (List.range 16).map (fun (i : Nat) => (((i : Nat) : Int), methodV m i)) := rfl
theorem run_method (k : Nat) (hk : k < 16) (args : Array Value) (w : World) : (callFunc (methodF k) args).run Tryz.prog w = .ok (.enter (methodF k) args) w := by
  have h : k = 0 ∨ k = 1 ∨ k = 2 ∨ k = 3 ∨ k = 4 ∨ k = 5 ∨ k = 6 ∨ k = 7 ∨ k = 8 ∨ k = 9 ∨ k = 10 ∨ k = 11 ∨ k = 12 ∨ k = 13 ∨ k = 14 ∨ k = 15 := by omega
  rcases h with rfl | rfl | rfl | rfl | rfl | rfl | rfl | rfl | rfl | rfl | rfl | rfl | rfl | rfl | rfl | rfl
  · exact Tryz.call68 args w
  · exact Tryz.call69 args w
  · exact Tryz.call69 args w
  · exact Tryz.call69 args w
  · exact Tryz.call69 args w
  · exact Tryz.call70 args w
  · exact Tryz.call71 args w
  · exact Tryz.call72 args w
  · exact Tryz.call73 args w
  · exact Tryz.call73 args w
  · exact Tryz.call74 args w
  · exact Tryz.call74 args w
  · exact Tryz.call75 args w
  · exact Tryz.call76 args w
  · exact Tryz.call77 args w
  · exact Tryz.call78 args w
theorem method_look (m b k : Nat) (hk : k < 16) (w : World) (h : ZIs w b (methods m)) : (Instr.lookup 113 (.map (some b)) (.int .i64 (k : Nat)) false).run Tryz.prog w = .ok (methodV m k) w := by
  have hz : (zeroValue 1).run Tryz.prog w = .ok .nilFunc w := by kernel_rfl
  rcases h.lookup (P := Tryz.prog) (t := 113) Tryz.underlying3 Tryz.underlying113 hz (k : Nat) (by
      simp [Lit.wf, IntKind.min, IntKind.max, IntKind.bits, IntKind.signed]; omega) false with ⟨h1, h2⟩ | ⟨v, h1, h2⟩
  · refine absurd rfl (h2 ((k : Int), methodV m k) ?_)
    rw [methods_at m k hk]
    exact List.mem_map.2 ⟨k, by simpa using hk, rfl⟩
  · rw [methods_at m k hk] at h2
    obtain ⟨i, hi, e⟩ := List.mem_map.1 h2
    simp only [Prod.mk.injEq] at e
    obtain ⟨e1, e2⟩ := e
    obtain rfl : i = k := by omega
    rw [← e2] at h1
    exact h1
theorem EnvAt.up {w : World} {m s p base b1 : Nat} {E : EnvS} (h : EnvAt w m s p base E) (hb : base ≤ b1) : EnvAt w m s p b1 E := by
  have hm : ∀ x, mS m s b1 x → mS m s base x := fun x hx => by unfold mS at *; omega
  obtain ⟨wd, ca, cc, aa, ac, fa, fc, mv, h1, h2⟩ := h.box
  refine ⟨⟨wd, ca, cc, aa, ac, fa, fc, mv, h1, fun i n hi => ?_⟩, fun e => h.hp (hm _ e), h.hc, h.hc2, h.ha2, h.hf2, h.ho⟩
  obtain ⟨b, q, pa, pc, e, hx, hb'⟩ := h2 i n hi
  exact ⟨b, q, pa, pc, e, hx, fun e => hb' (hm _ e)⟩
/-- Whatever the byte says, its method makes the instruction. -/
theorem method_any (m s p par fn : Nat) (mn : Bool) (tv cv : Value) (base : Nat) (l : List UInt8) (E : EnvS) (nc k : Nat) (xa : Option Addr) (xc : Nat) (w : World) (hE : E.par = par) (hfn : E.calls.length = fn) (hmn : E.main = mn) (hcv : cv = .slice xa nc xc) (hnc : nc ≤ 100) (hEnv : EnvAt w m s p base E) (hk : k < 16) (h : MS w m s p par fn mn tv cv base 0 0 .empty .empty [] (-1) l) :
    Calls Tryz.prog (methodF k) #[.pointer (some ⟨m, 0, none⟩)] w (Made1 m s p par fn mn tv cv base (makerS E nc k l).1 (makerS E nc k l).2 w) := by
  have h16 : k = 0 ∨ k = 1 ∨ k = 2 ∨ k = 3 ∨ k = 4 ∨ k = 5 ∨ k = 6 ∨ k = 7 ∨ k = 8 ∨ k = 9 ∨ k = 10 ∨ k = 11 ∨ k = 12 ∨ k = 13 ∨ k = 14 ∨ k = 15 := by omega
  rcases h16 with rfl | rfl | rfl | rfl | rfl | rfl | rfl | rfl | rfl | rfl | rfl | rfl | rfl | rfl | rfl | rfl
  · exact copied_any m s p par fn mn tv cv base l E w hE h
  · exact op_any m s p par fn mn tv cv base l E w hE h
  · exact op_any m s p par fn mn tv cv base l E w hE h
  · exact op_any m s p par fn mn tv cv base l E w hE h
  · exact op_any m s p par fn mn tv cv base l E w hE h
  · exact load_any m s p par fn mn tv cv base l E w hE hEnv h
  · exact store_any m s p par fn mn tv cv base l E w hE hEnv h
  · exact call_any m s p par fn mn tv cv base l E w hE hfn hEnv h
  · exact read_any m s p par fn mn tv cv base l E w hE hEnv h
  · exact read_any m s p par fn mn tv cv base l E w hE hEnv h
  · exact write_any m s p par fn mn tv cv base l E w hE hEnv h
  · exact write_any m s p par fn mn tv cv base l E w hE hEnv h
  · exact release_any m s p par fn mn tv cv base l E w hE h
  · exact branch_any m s p par fn mn tv cv base l E w hE nc xa xc hcv hnc h
  · exact jump_any m s p par fn mn tv cv base l E w hE nc xa xc hcv hnc h
  · exact endm_any m s p par fn mn tv cv base l E w hE hmn h
/-- The instructions and targets so far, in rows of the maker's own. -/
def CodeAt (w : World) (base : Nat) (cv tv : Value) (c : List (InstrD × Int)) : Prop := ∃ P : List (InstrD × Value), P.map Prod.fst = c.map Prod.fst ∧ w.ownsRow base 44 7 cv c.length (P.flatMap insCells) ∧ (∀ q ∈ P, RdInstr (some (upFrom base)) w q.1 q.2) ∧ w.ownsRow base 3 1 tv c.length (c.flatMap fun x => [.int .i64 x.2])
theorem RdInstr.sameT {S : Nat → Prop} {w w' : World} {base : Nat} {x : InstrD} {av : Value} (h : RdInstr (some (upFrom base)) w x av) (t : Trn S w w') (hs : ∀ b, base ≤ b → ¬ S b) : RdInstr (some (upFrom base)) w' x av := by
  exact h.same (fun b hb hl => t.block b hl (hs b hb)) (fun b _ hb => hb)
theorem reset_at (m s p par fn : Nat) (mn : Bool) (tv cv : Value) (k o : Int) (d nm : ByteArray) (av : Value) (t : Int) (w : World) (hM : MkAt w m s p par fn mn tv cv k o d nm av t) : MkAt ((((((((w.setCell ⟨m, 7, none⟩ (.int .u8 0)).setCell ⟨m, 8, none⟩ (.int .u8 0)).setCell ⟨m, 9, none⟩ (.string ⟨#[]⟩)).setCell ⟨m, 10, none⟩ (.string ⟨#[]⟩)).setCell ⟨m, 11, none⟩ (.slice none 0 0)).setCell ⟨m, 12, none⟩ (.int .i64 0)).setCell ⟨m, 13, none⟩ (.int .i64 0)).setCell ⟨m, 14, none⟩ (.int .i64 (-1))) m s p par fn mn tv cv 0 0 .empty .empty (.slice none 0 0) (-1) ∧ Trn (fun x => x = m) w ((((((((w.setCell ⟨m, 7, none⟩ (.int .u8 0)).setCell ⟨m, 8, none⟩ (.int .u8 0)).setCell ⟨m, 9, none⟩ (.string ⟨#[]⟩)).setCell ⟨m, 10, none⟩ (.string ⟨#[]⟩)).setCell ⟨m, 11, none⟩ (.slice none 0 0)).setCell ⟨m, 12, none⟩ (.int .i64 0)).setCell ⟨m, 13, none⟩ (.int .i64 0)).setCell ⟨m, 14, none⟩ (.int .i64 (-1))) := by
  unfold MkAt at hM ⊢
  have g1 := heap_setCell_same w m 7 _ _ (.int .u8 0) hM
  simp only [List.setIfInBounds_toArray, List.set_cons_succ, List.set_cons_zero] at g1
  have g2 := heap_setCell_same (w.setCell ⟨m, 7, none⟩ (.int .u8 0)) m 8 _ _ (.int .u8 0) g1
  simp only [List.setIfInBounds_toArray, List.set_cons_succ, List.set_cons_zero] at g2
  have g3 := heap_setCell_same ((w.setCell ⟨m, 7, none⟩ (.int .u8 0)).setCell ⟨m, 8, none⟩ (.int .u8 0)) m 9 _ _ (.string ⟨#[]⟩) g2
  simp only [List.setIfInBounds_toArray, List.set_cons_succ, List.set_cons_zero] at g3
  have g4 := heap_setCell_same (((w.setCell ⟨m, 7, none⟩ (.int .u8 0)).setCell ⟨m, 8, none⟩ (.int .u8 0)).setCell ⟨m, 9, none⟩ (.string ⟨#[]⟩)) m 10 _ _ (.string ⟨#[]⟩) g3
  simp only [List.setIfInBounds_toArray, List.set_cons_succ, List.set_cons_zero] at g4
  have g5 := heap_setCell_same ((((w.setCell ⟨m, 7, none⟩ (.int .u8 0)).setCell ⟨m, 8, none⟩ (.int .u8 0)).setCell ⟨m, 9, none⟩ (.string ⟨#[]⟩)).setCell ⟨m, 10, none⟩ (.string ⟨#[]⟩)) m 11 _ _ (.slice none 0 0) g4
  simp only [List.setIfInBounds_toArray, List.set_cons_succ, List.set_cons_zero] at g5
  have g6 := heap_setCell_same (((((w.setCell ⟨m, 7, none⟩ (.int .u8 0)).setCell ⟨m, 8, none⟩ (.int .u8 0)).setCell ⟨m, 9, none⟩ (.string ⟨#[]⟩)).setCell ⟨m, 10, none⟩ (.string ⟨#[]⟩)).setCell ⟨m, 11, none⟩ (.slice none 0 0)) m 12 _ _ (.int .i64 0) g5
  simp only [List.setIfInBounds_toArray, List.set_cons_succ, List.set_cons_zero] at g6
  have g7 := heap_setCell_same ((((((w.setCell ⟨m, 7, none⟩ (.int .u8 0)).setCell ⟨m, 8, none⟩ (.int .u8 0)).setCell ⟨m, 9, none⟩ (.string ⟨#[]⟩)).setCell ⟨m, 10, none⟩ (.string ⟨#[]⟩)).setCell ⟨m, 11, none⟩ (.slice none 0 0)).setCell ⟨m, 12, none⟩ (.int .i64 0)) m 13 _ _ (.int .i64 0) g6
  simp only [List.setIfInBounds_toArray, List.set_cons_succ, List.set_cons_zero] at g7
  have g8 := heap_setCell_same (((((((w.setCell ⟨m, 7, none⟩ (.int .u8 0)).setCell ⟨m, 8, none⟩ (.int .u8 0)).setCell ⟨m, 9, none⟩ (.string ⟨#[]⟩)).setCell ⟨m, 10, none⟩ (.string ⟨#[]⟩)).setCell ⟨m, 11, none⟩ (.slice none 0 0)).setCell ⟨m, 12, none⟩ (.int .i64 0)).setCell ⟨m, 13, none⟩ (.int .i64 0)) m 14 _ _ (.int .i64 (-1)) g7
  simp only [List.setIfInBounds_toArray, List.set_cons_succ, List.set_cons_zero] at g8
  refine ⟨g8, ?_⟩
  have t0 := Trn.refl (fun x => x = m) w
  have t1 := t0.trans (setCell_trn w ⟨m, 7, none⟩ (.int .u8 0))
  have t2 := t1.trans (setCell_trn (w.setCell ⟨m, 7, none⟩ (.int .u8 0)) ⟨m, 8, none⟩ (.int .u8 0))
  have t3 := t2.trans (setCell_trn ((w.setCell ⟨m, 7, none⟩ (.int .u8 0)).setCell ⟨m, 8, none⟩ (.int .u8 0)) ⟨m, 9, none⟩ (.string ⟨#[]⟩))
  have t4 := t3.trans (setCell_trn (((w.setCell ⟨m, 7, none⟩ (.int .u8 0)).setCell ⟨m, 8, none⟩ (.int .u8 0)).setCell ⟨m, 9, none⟩ (.string ⟨#[]⟩)) ⟨m, 10, none⟩ (.string ⟨#[]⟩))
  have t5 := t4.trans (setCell_trn ((((w.setCell ⟨m, 7, none⟩ (.int .u8 0)).setCell ⟨m, 8, none⟩ (.int .u8 0)).setCell ⟨m, 9, none⟩ (.string ⟨#[]⟩)).setCell ⟨m, 10, none⟩ (.string ⟨#[]⟩)) ⟨m, 11, none⟩ (.slice none 0 0))
  have t6 := t5.trans (setCell_trn (((((w.setCell ⟨m, 7, none⟩ (.int .u8 0)).setCell ⟨m, 8, none⟩ (.int .u8 0)).setCell ⟨m, 9, none⟩ (.string ⟨#[]⟩)).setCell ⟨m, 10, none⟩ (.string ⟨#[]⟩)).setCell ⟨m, 11, none⟩ (.slice none 0 0)) ⟨m, 12, none⟩ (.int .i64 0))
  have t7 := t6.trans (setCell_trn ((((((w.setCell ⟨m, 7, none⟩ (.int .u8 0)).setCell ⟨m, 8, none⟩ (.int .u8 0)).setCell ⟨m, 9, none⟩ (.string ⟨#[]⟩)).setCell ⟨m, 10, none⟩ (.string ⟨#[]⟩)).setCell ⟨m, 11, none⟩ (.slice none 0 0)).setCell ⟨m, 12, none⟩ (.int .i64 0)) ⟨m, 13, none⟩ (.int .i64 0))
  have t8 := t7.trans (setCell_trn (((((((w.setCell ⟨m, 7, none⟩ (.int .u8 0)).setCell ⟨m, 8, none⟩ (.int .u8 0)).setCell ⟨m, 9, none⟩ (.string ⟨#[]⟩)).setCell ⟨m, 10, none⟩ (.string ⟨#[]⟩)).setCell ⟨m, 11, none⟩ (.slice none 0 0)).setCell ⟨m, 12, none⟩ (.int .i64 0)).setCell ⟨m, 13, none⟩ (.int .i64 0)) ⟨m, 14, none⟩ (.int .i64 (-1)))
  exact t8
/-- The maker between the two appends: its box, the bytes, the rows of instructions and of targets, and the new instruction. -/
structure OSt (w : World) (m s p par fn : Nat) (mn : Bool) (tS cS : Value) (base : Nat) (x : InstrD) (av : Value) (t : Int) (l2 : List UInt8) (z : World) (cv : Value) (P : List (InstrD × Value)) (tv : Value) (ts : List Int) : Prop where
  box : MkAt z m s p par fn mn tS cS x.kind x.op x.dst x.name av t
  src : SrcAt z s l2
  oc : z.ownsRow base 44 7 cv P.length (P.flatMap insCells)
  rp : ∀ q ∈ P, RdInstr (some (upFrom base)) z q.1 q.2
  rx : RdInstr (some (upFrom base)) z x av
  ot : z.ownsRow base 3 1 tv ts.length (ts.flatMap fun t => [.int .i64 t])
  tr : Trn (mS m s base) w z
  hm : m < base
  hs : s < base
  hne : m ≠ s
theorem instr_grownI {base : Nat} {W w' : World} {v : Value} {size n : Nat} {xs : List Value} {x : InstrD} {av : Value} (hown : W.ownsRow base 3 size v n xs) (hg : W.grownBy w' v.ownBlock) (h : RdInstr (some (upFrom base)) W x av) : RdInstr (some (upFrom base)) w' x av :=
  RdInstr.map (S := fun T => T ≠ 3) (grown_hF hown hg) (grown_hC hown hg) (by decide) h
theorem own_rowS {w : World} {base : Nat} {e : TypeId} {size : Nat} {v : Value} {n : Nat} {xs : List Value} (h : w.ownsRow base e size v n xs) {b : Nat} (hb : v.ownBlock = some b) : ∃ cs, w.heap[b]? = some (.cells cs e (0, 0)) := by
  obtain ⟨hl, h | ⟨g, cap, cur, rfl, hg, hc, hr⟩⟩ := h
  · obtain ⟨rfl, -⟩ := h
    simp [Value.ownBlock] at hb
  · simp only [Value.ownBlock, Option.some.injEq] at hb
    subst hb
    exact ⟨cur, hc⟩
theorem own_apart {w : World} {base : Nat} {e f : TypeId} {size size' : Nat} {v u : Value} {n n' : Nat} {xs ys : List Value} (h : w.ownsRow base e size v n xs) (g : w.ownsRow base f size' u n' ys) (hT : e ≠ f) {k : Nat} (hk : u.ownBlock = some k) : v.ownBlock ≠ some k := by
  intro e1
  obtain ⟨cs, h1⟩ := own_rowS h e1
  obtain ⟨ds, h2⟩ := own_rowS g hk
  rw [h1] at h2
  simp only [Option.some.injEq, Obj.cells.injEq] at h2
  exact hT h2.2.1
section
variable {w : World} {m s p par fn : Nat} {mn : Bool} {tS cS : Value} {base : Nat} {x : InstrD} {av : Value} {t : Int} {l2 : List UInt8} {z z' : World} {cv : Value} {P : List (InstrD × Value)} {tv : Value} {ts : List Int}
theorem OSt.below (h : OSt w m s p par fn mn tS cS base x av t l2 z cv P tv ts) (hb : Below z.heap.size z z') : OSt w m s p par fn mn tS cS base x av t l2 z' cv P tv ts :=
  ⟨(hb.block m (Array.getElem?_eq_some_iff.1 h.box).1).trans h.box, (hb.block s h.src.lt).trans h.src, own_below h.oc hb, fun q hq => (h.rp q hq).keep hb, h.rx.keep hb, own_below h.ot hb, h.tr.trans (Trn.of_below hb), h.hm, h.hs, h.hne⟩
theorem OSt.growC {cv' : Value} (h : OSt w m s p par fn mn tS cS base x av t l2 z cv P tv ts) (hg : z.grownBy z' cv.ownBlock) (ho : z'.ownsRow base 44 7 cv' (P.length + 1) (P.flatMap insCells ++ insCells (x, av))) : OSt w m s p par fn mn tS cS base x av t l2 z' cv' (P ++ [(x, av)]) tv ts := by
  have hgr := Trn.of_grown (S := fun b => cv.ownBlock = some b) hg (fun b e => e)
  refine ⟨hgr.heap h.box (fun e => by have := own_ge h.oc e; have := h.hm; omega), hgr.heap h.src (fun e => by have := own_ge h.oc e; have := h.hs; omega), by simpa using ho, fun q hq => ?_, instr_grown h.oc hg h.rx, own_trn h.ot hgr (fun k hk e => own_apart h.oc h.ot (by decide) hk e), h.tr.trans (hgr.mono fun i e => .inr (.inr (own_ge h.oc e))), h.hm, h.hs, h.hne⟩
  rcases List.mem_append.1 hq with hq | hq
  · exact instr_grown h.oc hg (h.rp q hq)
  · rw [List.mem_singleton] at hq; subst hq
    exact instr_grown h.oc hg h.rx
theorem OSt.growT {tv' : Value} (h : OSt w m s p par fn mn tS cS base x av t l2 z cv P tv ts) (hg : z.grownBy z' tv.ownBlock) (ho : z'.ownsRow base 3 1 tv' (ts.length + 1) ((ts.flatMap fun t => [.int .i64 t]) ++ [.int .i64 t])) : OSt w m s p par fn mn tS cS base x av t l2 z' cv P tv' (ts ++ [t]) := by
  have hgr := Trn.of_grown (S := fun b => tv.ownBlock = some b) hg (fun b e => e)
  exact ⟨hgr.heap h.box (fun e => by have := own_ge h.ot e; have := h.hm; omega), hgr.heap h.src (fun e => by have := own_ge h.ot e; have := h.hs; omega), own_trn h.oc hgr (fun k hk e => own_apart h.ot h.oc (by decide) hk e), fun q hq => instr_grownI h.ot hg (h.rp q hq), instr_grownI h.ot hg h.rx, by simpa using ho, h.tr.trans (hgr.mono fun i e => .inr (.inr (own_ge h.ot e))), h.hm, h.hs, h.hne⟩
theorem OSt.size (h : OSt w m s p par fn mn tS cS base x av t l2 z cv P tv ts) (hb : base ≤ w.heap.size) : base ≤ z.heap.size := Nat.le_trans hb h.tr.size
/-- Both rows are put into the box. -/
theorem OSt.done {n : Nat} (h : OSt w m s p par fn mn tS cS base x av t l2 z cv P tv ts) : MkAt ((z.setCell ⟨m, 6, none⟩ cv).setCell ⟨m, 5, none⟩ tv) m s p par fn mn tv cv x.kind x.op x.dst x.name av t ∧ SrcAt ((z.setCell ⟨m, 6, none⟩ cv).setCell ⟨m, 5, none⟩ tv) s l2 ∧ Trn (mS m s base) w ((z.setCell ⟨m, 6, none⟩ cv).setCell ⟨m, 5, none⟩ tv) ∧
    (∀ c : List (InstrD × Int), P.map Prod.fst = c.map Prod.fst → ts = c.map Prod.snd → CodeAt ((z.setCell ⟨m, 6, none⟩ cv).setCell ⟨m, 5, none⟩ tv) base cv tv c) := by
  have t0 := (setCell_trn z ⟨m, 6, none⟩ cv).trans (setCell_trn (z.setCell ⟨m, 6, none⟩ cv) ⟨m, 5, none⟩ tv)
  have hb := h.box
  unfold MkAt at hb ⊢
  have g1 := heap_setCell_same z m 6 _ _ cv hb
  simp only [List.setIfInBounds_toArray, List.set_cons_succ, List.set_cons_zero] at g1
  have g2 := heap_setCell_same (z.setCell ⟨m, 6, none⟩ cv) m 5 _ _ tv g1
  simp only [List.setIfInBounds_toArray, List.set_cons_succ, List.set_cons_zero] at g2
  refine ⟨g2, t0.heap h.src (fun e => by exact h.hne (show s = m from e).symm), h.tr.trans (t0.mono fun i e => .inl e), fun c hc ht => ?_⟩
  have hlp : P.length = c.length := by have := congrArg List.length hc; simpa using this
  have hlt : ts.length = c.length := by rw [ht]; simp
  refine ⟨P, hc, ?_, fun q hq => (h.rp q hq).sameT t0 (fun b hb e => by have := h.hm; have e' : b = m := e; omega), ?_⟩
  · rw [← hlp]
    exact own_trn h.oc t0 (fun k hk e => by have := own_ge h.oc hk; have := h.hm; have e' : k = m := e; omega)
  · rw [← hlt]
    have := own_trn h.ot t0 (fun k hk e => by have := own_ge h.ot hk; have := h.hm; have e' : k = m := e; omega)
    rw [ht] at this ⊢
    simpa [List.flatMap_map] using this
end
/-- A region: readers, operations that look at no memory, readers again, and a tail. -/
theorem wp_region_pure2 {P : Program} {Q : Exit → Act → World → Prop} (S : List Nat) {id : Nat} {a : Act} {w : World} {l : List Oper} (r1 p1 r2 : List Nat) (t : Mix) (E : Nat → Bool) (hm : P.follows .mixedOrders = true) (hs : Region.noSelect l.toArray = true)
    (hl : r1.length + (p1.length + (r2.length + t.size)) = l.length) (hok : (match readOk .any l.toArray E r1 (Array.replicate l.length false) with | some L => (match pureOk .any l.toArray p1 L with | some L1 => (match readOk .any l.toArray E r2 L1 with | some L2 => mixOk .any l.toArray E t L2 | none => false) | none => false) | none => false) = true)
    (hQ : ∀ c (d : Option Tmp) v a w, Q (.panic c) (a.put d v) w → Q (.panic c) a w)
    (h : wpQuiet P l.toArray (fun w' => ∃ x, w' = keepS w S x) (fun a1 => wpQuiet P l.toArray (fun w' => ∃ x, w' = anyW w x) (fun a2 => wpQuiet P l.toArray (fun w' => ∃ x, w' = keepS w S x) (fun a3 => mixRun P l.toArray Q (fun w' => ∃ x, w' = keepS w S x) E t a3 w.drew) (opsOf l.toArray r2) a2) (opsOf l.toArray p1) a1) (opsOf l.toArray r1) a) : (Code.region id l.toArray true).wp P Q a w := by
  refine wp_region_any hm (any_of_H (C := fun w' => ∃ x, w' = keepS w S x) (E := E) _ _ _ _ ?_)
  cases hr : readOk .any l.toArray E r1 (Array.replicate l.length false) with
  | none => rw [hr] at hok; cases hok
  | some L =>
    rw [hr] at hok
    simp only at hok
    cases hp : pureOk .any l.toArray p1 L with
    | none => rw [hp] at hok; cases hok
    | some L1 =>
      rw [hp] at hok
      simp only at hok
      cases hr2 : readOk .any l.toArray E r2 L1 with
      | none => rw [hr2] at hok; cases hok
      | some L2 =>
        rw [hr2] at hok
        simp only at hok
        have := anyH_reads (md := .any) (C := fun w' => ∃ x, w' = keepS w S x) (Q := Q) (E := E) (n := p1.length + (r2.length + t.size)) (w := w.drew) hs hQ ⟨w.drew, keepS_of (fun _ _ => rfl)⟩ r1 (Array.replicate l.length false) L a (Closed.start _) hr h
          (fun a' hcl hq => anyH_pures (md := .any) (C := fun w' => ∃ x, w' = keepS w S x) (Q := Q) (E := E) (n := r2.length + t.size) (C0 := fun w' => ∃ x, w' = anyW w x) hs hQ (fun x => ⟨x, rfl⟩) p1 L L1 a' hcl hp hq
            (fun a2 hcl2 hq2 => anyH_reads (md := .any) (C := fun w' => ∃ x, w' = keepS w S x) (Q := Q) (E := E) (n := t.size) (w := w.drew) hs hQ ⟨w.drew, keepS_of (fun _ _ => rfl)⟩ r2 L1 L2 a2 hcl2 hr2 hq2
              (fun a3 hcl3 hq3 => anyH_of_G _ _ _ _ (anyG_of_mix (md := .any) hs hQ t L2 a3 w.drew hcl3 hok hq3))))
        rw [hl] at this
        simpa using this
theorem pure_walk2 {P : Program} {ops : Array Oper} {C C0 : World → Prop} {K : Act → Prop} {rs ps qs : List Nat} {l1 l2 l3 : List Oper} {a : Act} (e1 : opsOf ops rs = l1) (e2 : opsOf ops ps = l2) (e3 : opsOf ops qs = l3) (h : wpQuiet P ops C (fun a' => wpQuiet P ops C0 (fun a2 => wpQuiet P ops C K l3 a2) l2 a') l1 a) :
    wpQuiet P ops C (fun a' => wpQuiet P ops C0 (fun a2 => wpQuiet P ops C K (opsOf ops qs) a2) (opsOf ops ps) a') (opsOf ops rs) a := by rw [e1, e2, e3]; exact h
theorem row_news {w : World} {g : Nat} {xs : List Value} {T : TypeId} (h : w.heap[g]? = some (.cells xs.toArray T (0, 0))) : ∀ j u, xs[j]? = some u → w.cell? ((⟨g, 0, none⟩ : Addr).add j) = some u := by
  intro j u hu
  have h1 := row_of h j u (by simpa using hu)
  by_cases h0 : j = 0
  · subst h0; simpa [Addr.add] using h1
  · simpa [Addr.add, h0] using h1
theorem mix_endS {P : Program} {ops : Array Oper} {Q : Exit → Act → World → Prop} {C : World → Prop} {E : Nat → Bool} {a : Act} {w : World} (h : Q .normal a w) : mixRun P ops Q C E (.fin []) a w := h
theorem infoIntS : (Tryz.prog.info? 3).map (fun i => (i.zero, i.size, i.bytes)) = some (some (.int .i64 0), 1, 8) := by kernel_rfl
set_option maxRecDepth 100000 in
set_option maxHeartbeats 6400000 in
theorem one_any (m s p par fn : Nat) (mn : Bool) (tv cv : Value) (base : Nat) (k0 o0 : Int) (d0 nm0 : ByteArray) (av0 : Value) (t0 : Int) (c : List (InstrD × Int)) (l : List UInt8) (E : EnvS) (w : World) (hM : MkAt w m s p par fn mn tv cv k0 o0 d0 nm0 av0 t0) (hC : CodeAt w base cv tv c) (hcl : c.length ≤ 40) (hS : SrcAt w s l) (hne : m ≠ s) (hmb : m < base) (hsb : s < base) (hbw : base ≤ w.heap.size) (hpar : par ≤ 100) (hE : E.par = par) (hfn : E.calls.length = fn) (hmn : E.main = mn) (hEnv : EnvAt w m s p base E) :
    Calls Tryz.prog 33 #[.pointer (some ⟨m, 0, none⟩)] w fun e w' => e = .returned (.tuple #[]) ∧ ∃ tv' cv' k o d nm av t, MkAt w' m s p par fn mn tv' cv' k o d nm av t ∧ CodeAt w' base cv' tv' (c ++ [(instrS E c.length l).1]) ∧ SrcAt w' s (instrS E c.length l).2 ∧ Trn (mS m s base) w w' := by
  obtain ⟨P, hP1, hP2, hP3, hP4⟩ := hC
  obtain ⟨xa, xc, rfl, _⟩ := own_read hP2
  obtain ⟨ya, yc, rfl, _⟩ := own_read hP4
  have c7 := row_of hM 7 (.int .u8 k0) rfl
  have f7 := frozen_of_row w m 7 _ _ hM
  have c8 := row_of hM 8 (.int .u8 o0) rfl
  have f8 := frozen_of_row w m 8 _ _ hM
  have c9 := row_of hM 9 (.string d0) rfl
  have f9 := frozen_of_row w m 9 _ _ hM
  have c10 := row_of hM 10 (.string nm0) rfl
  have f10 := frozen_of_row w m 10 _ _ hM
  have c11 := row_of hM 11 (av0) rfl
  have f11 := frozen_of_row w m 11 _ _ hM
  have c12 := row_of hM 12 (.int .i64 0) rfl
  have f12 := frozen_of_row w m 12 _ _ hM
  have c13 := row_of hM 13 (.int .i64 0) rfl
  have f13 := frozen_of_row w m 13 _ _ hM
  have c14 := row_of hM 14 (.int .i64 t0) rfl
  have f14 := frozen_of_row w m 14 _ _ hM
  have hok : EnvOk E := ⟨hEnv.ha2, hEnv.hc2, by omega, hEnv.hf2, hEnv.ho⟩
  have hgood := good_instr hok c.length (by omega) l
  obtain ⟨⟨x, xt⟩, hx⟩ : ∃ y, (instrS E c.length l).1 = y := ⟨_, rfl⟩
  obtain ⟨l2, hl2⟩ : ∃ y, (instrS E c.length l).2 = y := ⟨_, rfl⟩
  rw [hx] at hgood
  rw [hx, hl2]
  have HX := Lib.hid hx
  have HL2 := Lib.hid hl2
  clear hx hl2
  obtain ⟨hr1, hr2⟩ := reset_at m s p par fn mn _ _ k0 o0 d0 nm0 av0 t0 w hM
  have HE1 := Lib.hid ((hEnv.up hbw).trn (hr2.mono fun i h => .inl h))
  have HS1 : Hid (SrcAt ((((((((w.setCell ⟨m, 7, none⟩ (.int .u8 0)).setCell ⟨m, 8, none⟩ (.int .u8 0)).setCell ⟨m, 9, none⟩ (.string ⟨#[]⟩)).setCell ⟨m, 10, none⟩ (.string ⟨#[]⟩)).setCell ⟨m, 11, none⟩ (.slice none 0 0)).setCell ⟨m, 12, none⟩ (.int .i64 0)).setCell ⟨m, 13, none⟩ (.int .i64 0)).setCell ⟨m, 14, none⟩ (.int .i64 (-1))) s l) := hr2.heap hS (fun e => hne (show s = m from e).symm)
  have HO2 := Lib.hid (own_trn hP2 hr2 (fun k hk e => by have := own_ge hP2 hk; have e' : k = m := e; omega))
  have HO4 := Lib.hid (own_trn hP4 hr2 (fun k hk e => by have := own_ge hP4 hk; have e' : k = m := e; omega))
  have HP3 : Hid (∀ q ∈ P, RdInstr (some (upFrom base)) ((((((((w.setCell ⟨m, 7, none⟩ (.int .u8 0)).setCell ⟨m, 8, none⟩ (.int .u8 0)).setCell ⟨m, 9, none⟩ (.string ⟨#[]⟩)).setCell ⟨m, 10, none⟩ (.string ⟨#[]⟩)).setCell ⟨m, 11, none⟩ (.slice none 0 0)).setCell ⟨m, 12, none⟩ (.int .i64 0)).setCell ⟨m, 13, none⟩ (.int .i64 0)).setCell ⟨m, 14, none⟩ (.int .i64 (-1))) q.1 q.2) := fun q hq => (hP3 q hq).sameT hr2 (fun b hb e => by have e' : b = m := e; omega)
  have HM1 := Lib.hid hr1
  have HLTC : Hid (∀ k, ((.slice xa c.length xc) : Value).ownBlock = some k → k < w.heap.size) := fun k hk => own_lt hP2 hk
  have HLTT : Hid (∀ k, ((.slice ya c.length yc) : Value).ownBlock = some k → k < w.heap.size) := fun k hk => own_lt hP4 hk
  have HWS : Hid ((((((((((w.setCell ⟨m, 7, none⟩ (.int .u8 0)).setCell ⟨m, 8, none⟩ (.int .u8 0)).setCell ⟨m, 9, none⟩ (.string ⟨#[]⟩)).setCell ⟨m, 10, none⟩ (.string ⟨#[]⟩)).setCell ⟨m, 11, none⟩ (.slice none 0 0)).setCell ⟨m, 12, none⟩ (.int .i64 0)).setCell ⟨m, 13, none⟩ (.int .i64 0)).setCell ⟨m, 14, none⟩ (.int .i64 (-1)))).heap.size = w.heap.size) := by show _ = _; simp
  have HR := Lib.hid hr2
  have HP1 := Lib.hid hP1
  have HGO := Lib.hid hgood
  have hsw : s < w.heap.size := hS.lt
  have hmw : m < w.heap.size := (Array.getElem?_eq_some_iff.1 hM).1
  clear hM hr1 hr2 hS hEnv hP1 hP2 hP3 hP4 hgood hok
  go_enter Tryz.func33, Tryz.ntmps33
  go_upto_region 1 with fail
  clear c7 f7 c8 f8 c9 f9 c10 f10 c11 f11 c12 f12 c13 f13 c14 f14
  generalize ((((((((w.setCell ⟨m, 7, none⟩ (.int .u8 0)).setCell ⟨m, 8, none⟩ (.int .u8 0)).setCell ⟨m, 9, none⟩ (.string ⟨#[]⟩)).setCell ⟨m, 10, none⟩ (.string ⟨#[]⟩)).setCell ⟨m, 11, none⟩ (.slice none 0 0)).setCell ⟨m, 12, none⟩ (.int .i64 0)).setCell ⟨m, 13, none⟩ (.int .i64 0)).setCell ⟨m, 14, none⟩ (.int .i64 (-1))) = W at *
  have hwW : w.heap.size ≤ W.heap.size := HR.out.size
  have HMS : Hid (MS W m s p par fn mn (.slice ya c.length yc) (.slice xa c.length xc) w.heap.size 0 0 .empty .empty [] (-1) l) := ⟨⟨_, HM1.out, World.ownsRow_nil _ _ _ _⟩, HS1.out, hne, hmw, hsw, hwW, hpar⟩
  obtain ⟨b1, hb1⟩ : ∃ b, w.heap.size = b := ⟨_, rfl⟩
  rw [hb1] at HMS HE1 hwW hsw hmw HLTC HLTT HWS hbw
  have hbw0 : base ≤ w.heap.size := by rw [hb1]; exact hbw
  obtain ⟨k, hk⟩ : ∃ x, (takeS 16 l).1 = x := ⟨_, rfl⟩
  obtain ⟨l1, hl1⟩ : ∃ x, (takeS 16 l).2 = x := ⟨_, rfl⟩
  have hkl : k < 16 := by rw [← hk]; exact take_small 16 l (by omega)
  have HIN : Hid (instrS E c.length l = makerS E c.length k l1) := by show _ = _; rw [← hk, ← hl1]; rfl
  obtain ⟨av, hbx, -⟩ := HMS.out.box
  have HBX := Lib.hid hbx
  have l0 := keepS_cell (S := [m]) (by simp) (row_of hbx 0 (.pointer (some ⟨s, 0, none⟩)) rfl)
  refine wp_region_mixS [m] (.one [0, 2, 3, 4, 5] 1 (.one [] 6 (.one [] 7 (.one [] 8 (.fin []))))) (fun j => decide (8 ≤ j)) (by kernel_rfl) (by kernel_rfl) rfl (by kernel_rfl) (fun _ d _ _ _ h => by cases d <;> exact h) ?_
  have HBd : Hid (Below W.heap.size W W.drew) := (Below.refl _ _).drew
  generalize W.drew = wn at *
  have hmx := (Array.getElem?_eq_some_iff.1 hbx).1
  have one_of : ∀ z : World, z.heap[m]? = W.heap[m]? → ∀ b ∈ [m], z.heap[b]? = W.heap[b]? := fun z hz b hb => by
    simp only [List.mem_cons, List.not_mem_nil, or_false] at hb
    subst hb
    exact hz
  have ONE := Lib.hid one_of
  clear one_of hbx
  have HKn := Lib.hid (ONE.out wn (HBd.out.block _ hmx))
  have HZ0 := Lib.hid (HMS.out.below HBd.out)
  refine mix_one (by simp only [opsOf, List.filterMap_cons, List.filterMap_nil, List.getElem?_toArray, List.getElem?_cons_succ, List.getElem?_cons_zero]; rfl) ⟨_, keepS_of HKn.out⟩ ?_
  change wpQuiet _ _ _ _ [_, _, _, _, _] _
  (repeat (go_big_quiet_step (fail)))
  clear l0
  refine wpQuiet_nil ?_
  refine mix_step rfl ?_
  go_wp2_with (go_at_call 54; refine (makers_any m wn).mono ?_; rintro e z0 ⟨rfl, hz0, hb0⟩)
  obtain ⟨mb, hmb2⟩ : ∃ x, wn.heap.size = x := ⟨_, rfl⟩
  rw [hmb2] at hz0
  try rw [hmb2]
  have hsmb : s < mb := by have := HBd.out.size; omega
  have HZI := Lib.hid hz0
  have HY0 := Lib.hid (HZ0.out.below hb0)
  have TY0 : Hid (Trn (mS m s b1) W z0) := (Trn.of_below HBd.out).trans (Trn.of_below hb0)
  have HK0 := Lib.hid (ONE.out z0 ((hb0.block m (by have := HBd.out.size; omega)).trans (HKn.out m (by simp))))
  clear hz0 hb0 hmb2
  (first | refine ⟨fun _ => ⟨_, keepS_of HK0.out⟩, ?_⟩ | refine ⟨⟨_, keepS_of HK0.out⟩, ?_⟩)
  refine mix_now ?_
  refine mix_step rfl ?_
  have ht := take_any s l 16 z0 HY0.out.src (by omega) (by omega)
  rw [hk, hl1] at ht
  have HD := Lib.hid ht
  clear ht hk hl1
  go_wp2_with (go_at_call 21; refine HD.out.mono ?_; rintro e z1 ⟨rfl, hs1, ht1⟩)
  have HY1 := Lib.hid (HY0.out.bytes ht1 hs1)
  have TY1 := Lib.hid (TY0.out.trans (src_trn ht1))
  have hzi1 : ZIs z1 mb (methods m) := HZI.out.at (ht1.block mb HZI.out.lt (fun e => by have e' : mb = s := e; omega))
  have HK1 := Lib.hid (ONE.out z1 ((ht1.block m (by have := TY0.out.size; omega) hne).trans (HK0.out m (by simp))))
  have hlk := method_look m mb k hkl z1 hzi1
  unfold methodV at hlk
  have HMA := method_any m s p par fn mn (.slice ya c.length yc) (.slice xa c.length xc) b1 l1 E c.length k xa xc z1 hE hfn hmn rfl (by omega) (HE1.out.trn TY1.out) hkl HY1.out
  have hcall := fun args w => run_method k hkl args w
  generalize methodF k = fo at *
  have HMA := Lib.hid HMA
  clear hs1 ht1 HD hzi1
  (first | refine ⟨fun _ => ⟨_, keepS_of HK1.out⟩, ?_⟩ | refine ⟨⟨_, keepS_of HK1.out⟩, ?_⟩)
  refine mix_now ?_
  refine mix_step rfl ?_
  go_wp2_with fail
  (first | refine ⟨fun _ => ⟨_, keepS_of HK1.out⟩, ?_⟩ | refine ⟨⟨_, keepS_of HK1.out⟩, ?_⟩)
  refine mix_now ?_
  refine mix_step rfl ?_
  go_wp2_with (refine HMA.out.mono ?_; rintro e z2 ⟨rfl, h2, t2⟩)
  refine ⟨fun h => absurd h (by decide), ?_⟩
  refine mix_endS ?_
  rw [← HIN.out, HX.out, HL2.out] at h2
  have H2 := Lib.hid h2
  have T2 := Lib.hid (TY1.out.trans t2)
  clear h2 t2 hlk hcall HMA HZI HY0 TY0 HY1 TY1 HK0 HK1 HZ0 HKn HBd ONE HBX
  clear HIN HX HL2
  have hne2 := hne
  obtain ⟨av2, hb2, ho2⟩ := H2.out.box
  obtain ⟨xk, xo, xd, xn, xargs, xl, xcn⟩ := x
  have hgl : xl = 0 := HGO.out.line
  have hgc : xcn = 0 := HGO.out.col
  subst hgl hgc
  have hga := HGO.out.args
  have hPl : P.length = c.length := by have := congrArg List.length HP1.out; simpa using this
  have hrA : RdArgs (some (upFrom b1)) z2 av2 xargs := own_args ho2 (by have h : xargs.length ≤ 100 := hga.1; omega) (fun a ha => by
    obtain ⟨h1, h2, h3⟩ := hga.2 a ha
    exact ⟨⟨h2, by omega⟩, by unfold NmOk at h1; unfold maxLen; omega⟩)
  have hrx : RdInstr (some (upFrom base)) z2 ⟨xk, xo, xd, xn, xargs, 0, 0⟩ av2 := ⟨RdArgs.same hrA (fun _ _ _ => rfl) (fun b _ hb => Nat.le_trans (by omega : base ≤ b1) hb), ⟨HGO.out.kind.1, HGO.out.kind.2⟩, ⟨HGO.out.op.1, HGO.out.op.2⟩, by unfold InI64; simp, by unfold InI64; simp, by have := HGO.out.dst; unfold NmOk at this; unfold maxLen; exact Nat.le_trans this (by omega), by have := HGO.out.name; unfold NmOk at this; unfold maxLen; exact Nat.le_trans this (by omega)⟩
  have htx : 0 ≤ xt + 1 ∧ xt ≤ 800 := by have := HGO.out.t; simp only at this; omega
  have hO0 : OSt w m s p par fn mn (.slice ya c.length yc) (.slice xa c.length xc) base ⟨xk, xo, xd, xn, xargs, 0, 0⟩ av2 xt l2 z2 (.slice xa c.length xc) P (.slice ya c.length yc) (c.map Prod.snd) := by
    refine ⟨hb2, H2.out.src, ?_, fun q hq => ?_, hrx, ?_, (HR.out.mono fun i e => .inl e).trans (T2.out.mono fun i e => ?_), hmb, hsb, hne⟩
    · rw [hPl]
      exact own_trn HO2.out T2.out (fun k hk e => by have h1 := own_ge HO2.out hk; have h2 := HLTC.out k hk; unfold mS at e; omega)
    · exact (HP3.out q hq).same (fun b hb hl => T2.out.block b hl (fun e => by have hb' : base ≤ b := hb; have hs' := HWS.out; unfold mS at e; omega)) (fun _ _ h => h)
    · have h := own_trn HO4.out T2.out (fun k hk e => by have h1 := own_ge HO4.out hk; have h2 := HLTT.out k hk; unfold mS at e; omega)
      simpa [List.flatMap_map] using h
    · unfold mS at *; omega
  have H0 := Lib.hid hO0
  clear hO0 hrx hrA hga ho2 hb2 H2 HO2 HO4 HP3 HM1 HS1 HE1 HMS T2 HR
  go_upto_region 2 with fail
  have hbx := H0.out.box
  have l5 := keepS_cell (S := [m]) (by simp) (row_of hbx 5 (.slice ya c.length yc) rfl)
  have l6 := keepS_cell (S := [m]) (by simp) (row_of hbx 6 (.slice xa c.length xc) rfl)
  have l7 := keepS_cell (S := [m]) (by simp) (row_of hbx 7 (.int .u8 xk) rfl)
  have l8 := keepS_cell (S := [m]) (by simp) (row_of hbx 8 (.int .u8 xo) rfl)
  have l9 := keepS_cell (S := [m]) (by simp) (row_of hbx 9 (.string xd) rfl)
  have l10 := keepS_cell (S := [m]) (by simp) (row_of hbx 10 (.string xn) rfl)
  have l11 := keepS_cell (S := [m]) (by simp) (row_of hbx 11 av2 rfl)
  have l12 := keepS_cell (S := [m]) (by simp) (row_of hbx 12 (.int .i64 0) rfl)
  have l13 := keepS_cell (S := [m]) (by simp) (row_of hbx 13 (.int .i64 0) rfl)
  have l14 := keepS_cell (S := [m]) (by simp) (row_of hbx 14 (.int .i64 xt) rfl)
  have ONE : Hid (∀ z : World, z.heap[m]? = z2.heap[m]? → ∀ b ∈ [m], z.heap[b]? = z2.heap[b]?) := fun z hz b hb => by
    simp only [List.mem_cons, List.not_mem_nil, or_false] at hb
    subst hb
    exact hz
  obtain ⟨iI, hiI, hzI0, hzI1, hzI2⟩ := info_parts infoInstr
  obtain ⟨iN, hiN, hzN0, hzN1, hzN2⟩ := info_parts infoIntS
  clear hbx
  refine wp_region_pure2 [m] [0, 2, 3, 4, 5, 6, 7, 8, 9] [1, 12, 13, 14, 16, 17, 18] [15, 19] (.two [] 10 20 (.two [] 11 20 (.one [] 20 (.one [] 21 (tailOf [22, 23, 24, 25, 26, 27]))) (.one [] 11 (.one [] 21 (tailOf [22, 23, 24, 25, 26, 27])))) (.one [] 10 (.one [] 11 (.one [] 21 (tailOf [22, 23, 24, 25, 26, 27]))))) (fun j => decide (22 ≤ j)) (by kernel_rfl) (by kernel_rfl) rfl (by kernel_rfl) (fun _ d _ _ _ h => by cases d <;> exact h) ?_
  have HBd : Hid (Below z2.heap.size z2 z2.drew) := (Below.refl _ _).drew
  generalize z2.drew = y0 at *
  have HQ0 := Lib.hid (H0.out.below HBd.out)
  have HK0 := Lib.hid (ONE.out y0 (HQ0.out.box.trans H0.out.box.symm))
  refine pure_walk2 (by simp only [opsOf, List.filterMap_cons, List.filterMap_nil, List.getElem?_toArray, List.getElem?_cons_succ, List.getElem?_cons_zero]; rfl) (by simp only [opsOf, List.filterMap_cons, List.filterMap_nil, List.getElem?_toArray, List.getElem?_cons_succ, List.getElem?_cons_zero]; rfl) (by simp only [opsOf, List.filterMap_cons, List.filterMap_nil, List.getElem?_toArray, List.getElem?_cons_succ, List.getElem?_cons_zero]; rfl) ?_
  change wpQuiet _ _ _ _ [_, _, _, _, _, _, _, _, _] _
  (repeat (go_big_quiet_step (fail)))
  refine wpQuiet_nil ?_
  change wpQuiet _ _ _ _ [_, _, _, _, _, _, _] _
  (repeat (go_big_quiet_step (fail)))
  refine wpQuiet_nil ?_
  change wpQuiet _ _ _ _ [_, _] _
  (repeat (go_big_quiet_step (fail)))
  clear l5 l6 l7 l8 l9 l10 l11 l12 l13 l14
  refine wpQuiet_nil ?_
  refine mix_both ?_ ?_
  · refine mix_step rfl ?_
    go_wp2_with fail
    have hal := (Below.refl y0.heap.size y0).alloc (Nat.le_refl _) (.cells #[.int .u8 xk, .int .u8 xo, .string xd, .string xn, av2, .int .i64 0, .int .i64 0] 44)
    have hnw := heap_alloc_new y0 (.cells #[.int .u8 xk, .int .u8 xo, .string xd, .string xn, av2, .int .i64 0, .int .i64 0] 44)
    have HQa1 := Lib.hid (HQ0.out.below hal)
    obtain ⟨ga1, hg⟩ : ∃ x, y0.heap.size = x := ⟨_, rfl⟩
    rw [hg] at hnw
    try rw [hg]
    have HFga1 := Lib.hid hnw
    clear hal hnw hg
    generalize y0.alloc (.cells #[.int .u8 xk, .int .u8 xo, .string xd, .string xn, av2, .int .i64 0, .int .i64 0] 44) = ya1 at *
    have HK := Lib.hid (ONE.out _ (HQa1.out.box.trans H0.out.box.symm))
    (first | refine ⟨fun _ => ⟨_, keepS_of HK.out⟩, ?_⟩ | refine ⟨⟨_, keepS_of HK.out⟩, ?_⟩)
    clear HK
    refine mix_both ?_ ?_
    · refine mix_step rfl ?_
      try (simp only [Act.put, List.setIfInBounds_toArray, List.set_cons_succ, List.set_cons_zero, List.getElem_toArray, List.getElem_cons_succ, List.getElem_cons_zero])
      refine wpList_append_own_at _ rfl (.tmp 23) (.tmp 28) 26 rfl base 44 iI (.agg #[.int .u8 0, .int .u8 0, .string ⟨#[]⟩, .string ⟨#[]⟩, .slice none 0 0, .int .i64 0, .int .i64 0]) 7 80 Tryz.underlying26 hiI hzI0 hzI1 hzI2 rfl (by decide) _ _ _ rfl HQa1.out.oc ⟨ga1, 0, none⟩ 1 1 (insCells (⟨xk, xo, xd, xn, xargs, 0, 0⟩, av2)) rfl rfl ?hab2 ?hbb2 ?hcb2 ?hdb2 (HQa1.out.size hbw0) ?_
      case hab2 => exact row_news (xs := insCells (⟨xk, xo, xd, xn, xargs, 0, 0⟩, av2)) HFga1.out
      case hbb2 => intro u hu; simp [insCells] at hu; have h1 := rdArgs_one HQa1.out.rx.1; rcases hu with rfl | rfl | rfl | rfl | rfl | rfl | rfl <;> first | rfl | exact h1
      case hcb2 => rw [hPl]; unfold maxLen; omega
      case hdb2 => rw [hPl]; omega
      intro v' yb2 hown' hgrow _ hblk
      obtain ⟨xab2, xcb2, rfl, _⟩ := own_read hown'
      have HQb2 := Lib.hid (HQa1.out.growC hgrow hown')
      clear hown' hgrow hblk
      try (simp only [Act.put, List.setIfInBounds_toArray, List.set_cons_succ, List.set_cons_zero, List.getElem_toArray, List.getElem_cons_succ, List.getElem_cons_zero])
      go_wp2_with fail
      have HK := Lib.hid (ONE.out _ (HQb2.out.box.trans H0.out.box.symm))
      (first | refine ⟨fun _ => ⟨_, keepS_of HK.out⟩, ?_⟩ | refine ⟨⟨_, keepS_of HK.out⟩, ?_⟩)
      clear HK
      refine mix_now ?_
      refine mix_step rfl ?_
      go_wp2_with fail
      have hal := (Below.refl yb2.heap.size yb2).alloc (Nat.le_refl _) (.cells #[.int .i64 xt] 3)
      have hnw := heap_alloc_new yb2 (.cells #[.int .i64 xt] 3)
      have HQb3 := Lib.hid (HQb2.out.below hal)
      obtain ⟨gb3, hg⟩ : ∃ x, yb2.heap.size = x := ⟨_, rfl⟩
      rw [hg] at hnw
      try rw [hg]
      have HFgb3 := Lib.hid hnw
      clear hal hnw hg
      generalize yb2.alloc (.cells #[.int .i64 xt] 3) = yb3 at *
      have HK := Lib.hid (ONE.out _ (HQb3.out.box.trans H0.out.box.symm))
      (first | refine ⟨fun _ => ⟨_, keepS_of HK.out⟩, ?_⟩ | refine ⟨⟨_, keepS_of HK.out⟩, ?_⟩)
      clear HK
      refine mix_now ?_
      refine mix_step rfl ?_
      try (simp only [Act.put, List.setIfInBounds_toArray, List.set_cons_succ, List.set_cons_zero, List.getElem_toArray, List.getElem_cons_succ, List.getElem_cons_zero])
      refine wpList_append_own_at _ rfl (.tmp 33) (.tmp 38) 60 rfl base 3 iN (.int .i64 0) 1 8 Tryz.underlying60 hiN hzN0 hzN1 hzN2 rfl (by decide) _ _ _ rfl HQb3.out.ot ⟨gb3, 0, none⟩ 1 1 [.int .i64 xt] rfl rfl ?hab4 ?hbb4 ?hcb4 ?hdb4 (HQb3.out.size hbw0) ?_
      case hab4 => exact row_news (xs := [.int .i64 xt]) HFgb3.out
      case hbb4 => intro u hu; simp only [List.mem_cons, List.not_mem_nil, or_false] at hu; subst hu; rfl
      case hcb4 => simp only [List.length_map]; unfold maxLen; omega
      case hdb4 => simp only [List.length_map]; omega
      intro v' yb4 hown' hgrow _ hblk
      obtain ⟨xab4, xcb4, rfl, _⟩ := own_read hown'
      have HQb4 := Lib.hid (HQb3.out.growT hgrow hown')
      clear hown' hgrow hblk
      try (simp only [Act.put, List.setIfInBounds_toArray, List.set_cons_succ, List.set_cons_zero, List.getElem_toArray, List.getElem_cons_succ, List.getElem_cons_zero])
      go_wp2_with fail
      have HK := Lib.hid (ONE.out _ (HQb4.out.box.trans H0.out.box.symm))
      (first | refine ⟨fun _ => ⟨_, keepS_of HK.out⟩, ?_⟩ | refine ⟨⟨_, keepS_of HK.out⟩, ?_⟩)
      clear HK
      refine mix_tail [22, 23, 24, 25, 26, 27] [_, _, _, _, _, _] _ _ rfl rfl ?_
      have hbx := HQb4.out.box
      have c5 := row_of hbx 5 (.slice ya c.length yc) rfl
      have c6 := row_of hbx 6 (.slice xa c.length xc) rfl
      have f5 := frozen_of_row yb4 m 5 _ _ hbx
      have f6 := frozen_of_row yb4 m 6 _ _ hbx
      clear hbx
      simp only [Act.put, List.setIfInBounds_toArray, List.set_cons_succ, List.set_cons_zero, List.getElem_toArray, List.getElem_cons_succ, List.getElem_cons_zero]
      go_wp2_with fail
      go_end0
      obtain ⟨r1, r2, r3, r4⟩ := HQb4.out.done (n := 0)
      simp only [List.length_map, hPl] at r1 r2 r3 r4
      refine ⟨rfl, _, _, _, _, _, _, _, _, r1, r4 (c ++ [(⟨xk, xo, xd, xn, xargs, 0, 0⟩, xt)]) ?_ ?_, r2, r3⟩
      · rw [List.map_append, List.map_append, HP1.out]; rfl
      · rw [List.map_append]; rfl
    · refine mix_step rfl ?_
      go_wp2_with fail
      have hal := (Below.refl ya1.heap.size ya1).alloc (Nat.le_refl _) (.cells #[.int .i64 xt] 3)
      have hnw := heap_alloc_new ya1 (.cells #[.int .i64 xt] 3)
      have HQc2 := Lib.hid (HQa1.out.below hal)
      have HFga1 := Lib.hid ((hal.block ga1 (Array.getElem?_eq_some_iff.1 HFga1.out).1).trans HFga1.out)
      obtain ⟨gc2, hg⟩ : ∃ x, ya1.heap.size = x := ⟨_, rfl⟩
      rw [hg] at hnw
      try rw [hg]
      have HFgc2 := Lib.hid hnw
      clear hal hnw hg
      generalize ya1.alloc (.cells #[.int .i64 xt] 3) = yc2 at *
      have HK := Lib.hid (ONE.out _ (HQc2.out.box.trans H0.out.box.symm))
      (first | refine ⟨fun _ => ⟨_, keepS_of HK.out⟩, ?_⟩ | refine ⟨⟨_, keepS_of HK.out⟩, ?_⟩)
      clear HK
      refine mix_now ?_
      refine mix_step rfl ?_
      try (simp only [Act.put, List.setIfInBounds_toArray, List.set_cons_succ, List.set_cons_zero, List.getElem_toArray, List.getElem_cons_succ, List.getElem_cons_zero])
      refine wpList_append_own_at _ rfl (.tmp 23) (.tmp 28) 26 rfl base 44 iI (.agg #[.int .u8 0, .int .u8 0, .string ⟨#[]⟩, .string ⟨#[]⟩, .slice none 0 0, .int .i64 0, .int .i64 0]) 7 80 Tryz.underlying26 hiI hzI0 hzI1 hzI2 rfl (by decide) _ _ _ rfl HQc2.out.oc ⟨ga1, 0, none⟩ 1 1 (insCells (⟨xk, xo, xd, xn, xargs, 0, 0⟩, av2)) rfl rfl ?hac3 ?hbc3 ?hcc3 ?hdc3 (HQc2.out.size hbw0) ?_
      case hac3 => exact row_news (xs := insCells (⟨xk, xo, xd, xn, xargs, 0, 0⟩, av2)) HFga1.out
      case hbc3 => intro u hu; simp [insCells] at hu; have h1 := rdArgs_one HQc2.out.rx.1; rcases hu with rfl | rfl | rfl | rfl | rfl | rfl | rfl <;> first | rfl | exact h1
      case hcc3 => rw [hPl]; unfold maxLen; omega
      case hdc3 => rw [hPl]; omega
      intro v' yc3 hown' hgrow _ hblk
      obtain ⟨xac3, xcc3, rfl, _⟩ := own_read hown'
      have HQc3 := Lib.hid (HQc2.out.growC hgrow hown')
      have HFgc2' := Lib.hid ((hgrow.block gc2 (Array.getElem?_eq_some_iff.1 HFgc2.out).1 (fun e => by obtain ⟨cs, hr⟩ := own_rowS HQc2.out.oc e.symm; have h2 := HFgc2.out; rw [hr] at h2; simp at h2)).trans HFgc2.out)
      replace HFgc2 := HFgc2'
      clear hown' hgrow hblk
      try (simp only [Act.put, List.setIfInBounds_toArray, List.set_cons_succ, List.set_cons_zero, List.getElem_toArray, List.getElem_cons_succ, List.getElem_cons_zero])
      go_wp2_with fail
      have HK := Lib.hid (ONE.out _ (HQc3.out.box.trans H0.out.box.symm))
      (first | refine ⟨fun _ => ⟨_, keepS_of HK.out⟩, ?_⟩ | refine ⟨⟨_, keepS_of HK.out⟩, ?_⟩)
      clear HK
      refine mix_now ?_
      refine mix_step rfl ?_
      try (simp only [Act.put, List.setIfInBounds_toArray, List.set_cons_succ, List.set_cons_zero, List.getElem_toArray, List.getElem_cons_succ, List.getElem_cons_zero])
      refine wpList_append_own_at _ rfl (.tmp 33) (.tmp 38) 60 rfl base 3 iN (.int .i64 0) 1 8 Tryz.underlying60 hiN hzN0 hzN1 hzN2 rfl (by decide) _ _ _ rfl HQc3.out.ot ⟨gc2, 0, none⟩ 1 1 [.int .i64 xt] rfl rfl ?hac4 ?hbc4 ?hcc4 ?hdc4 (HQc3.out.size hbw0) ?_
      case hac4 => exact row_news (xs := [.int .i64 xt]) HFgc2.out
      case hbc4 => intro u hu; simp only [List.mem_cons, List.not_mem_nil, or_false] at hu; subst hu; rfl
      case hcc4 => simp only [List.length_map]; unfold maxLen; omega
      case hdc4 => simp only [List.length_map]; omega
      intro v' yc4 hown' hgrow _ hblk
      obtain ⟨xac4, xcc4, rfl, _⟩ := own_read hown'
      have HQc4 := Lib.hid (HQc3.out.growT hgrow hown')
      clear hown' hgrow hblk
      try (simp only [Act.put, List.setIfInBounds_toArray, List.set_cons_succ, List.set_cons_zero, List.getElem_toArray, List.getElem_cons_succ, List.getElem_cons_zero])
      go_wp2_with fail
      have HK := Lib.hid (ONE.out _ (HQc4.out.box.trans H0.out.box.symm))
      (first | refine ⟨fun _ => ⟨_, keepS_of HK.out⟩, ?_⟩ | refine ⟨⟨_, keepS_of HK.out⟩, ?_⟩)
      clear HK
      refine mix_tail [22, 23, 24, 25, 26, 27] [_, _, _, _, _, _] _ _ rfl rfl ?_
      have hbx := HQc4.out.box
      have c5 := row_of hbx 5 (.slice ya c.length yc) rfl
      have c6 := row_of hbx 6 (.slice xa c.length xc) rfl
      have f5 := frozen_of_row yc4 m 5 _ _ hbx
      have f6 := frozen_of_row yc4 m 6 _ _ hbx
      clear hbx
      simp only [Act.put, List.setIfInBounds_toArray, List.set_cons_succ, List.set_cons_zero, List.getElem_toArray, List.getElem_cons_succ, List.getElem_cons_zero]
      go_wp2_with fail
      go_end0
      obtain ⟨r1, r2, r3, r4⟩ := HQc4.out.done (n := 0)
      simp only [List.length_map, hPl] at r1 r2 r3 r4
      refine ⟨rfl, _, _, _, _, _, _, _, _, r1, r4 (c ++ [(⟨xk, xo, xd, xn, xargs, 0, 0⟩, xt)]) ?_ ?_, r2, r3⟩
      · rw [List.map_append, List.map_append, HP1.out]; rfl
      · rw [List.map_append]; rfl
  · refine mix_step rfl ?_
    go_wp2_with fail
    have hal := (Below.refl y0.heap.size y0).alloc (Nat.le_refl _) (.cells #[.int .i64 xt] 3)
    have hnw := heap_alloc_new y0 (.cells #[.int .i64 xt] 3)
    have HQd1 := Lib.hid (HQ0.out.below hal)
    obtain ⟨gd1, hg⟩ : ∃ x, y0.heap.size = x := ⟨_, rfl⟩
    rw [hg] at hnw
    try rw [hg]
    have HFgd1 := Lib.hid hnw
    clear hal hnw hg
    generalize y0.alloc (.cells #[.int .i64 xt] 3) = yd1 at *
    have HK := Lib.hid (ONE.out _ (HQd1.out.box.trans H0.out.box.symm))
    (first | refine ⟨fun _ => ⟨_, keepS_of HK.out⟩, ?_⟩ | refine ⟨⟨_, keepS_of HK.out⟩, ?_⟩)
    clear HK
    refine mix_now ?_
    refine mix_step rfl ?_
    go_wp2_with fail
    have hal := (Below.refl yd1.heap.size yd1).alloc (Nat.le_refl _) (.cells #[.int .u8 xk, .int .u8 xo, .string xd, .string xn, av2, .int .i64 0, .int .i64 0] 44)
    have hnw := heap_alloc_new yd1 (.cells #[.int .u8 xk, .int .u8 xo, .string xd, .string xn, av2, .int .i64 0, .int .i64 0] 44)
    have HQd2 := Lib.hid (HQd1.out.below hal)
    have HFgd1 := Lib.hid ((hal.block gd1 (Array.getElem?_eq_some_iff.1 HFgd1.out).1).trans HFgd1.out)
    obtain ⟨gd2, hg⟩ : ∃ x, yd1.heap.size = x := ⟨_, rfl⟩
    rw [hg] at hnw
    try rw [hg]
    have HFgd2 := Lib.hid hnw
    clear hal hnw hg
    generalize yd1.alloc (.cells #[.int .u8 xk, .int .u8 xo, .string xd, .string xn, av2, .int .i64 0, .int .i64 0] 44) = yd2 at *
    have HK := Lib.hid (ONE.out _ (HQd2.out.box.trans H0.out.box.symm))
    (first | refine ⟨fun _ => ⟨_, keepS_of HK.out⟩, ?_⟩ | refine ⟨⟨_, keepS_of HK.out⟩, ?_⟩)
    clear HK
    refine mix_now ?_
    refine mix_step rfl ?_
    try (simp only [Act.put, List.setIfInBounds_toArray, List.set_cons_succ, List.set_cons_zero, List.getElem_toArray, List.getElem_cons_succ, List.getElem_cons_zero])
    refine wpList_append_own_at _ rfl (.tmp 23) (.tmp 28) 26 rfl base 44 iI (.agg #[.int .u8 0, .int .u8 0, .string ⟨#[]⟩, .string ⟨#[]⟩, .slice none 0 0, .int .i64 0, .int .i64 0]) 7 80 Tryz.underlying26 hiI hzI0 hzI1 hzI2 rfl (by decide) _ _ _ rfl HQd2.out.oc ⟨gd2, 0, none⟩ 1 1 (insCells (⟨xk, xo, xd, xn, xargs, 0, 0⟩, av2)) rfl rfl ?had3 ?hbd3 ?hcd3 ?hdd3 (HQd2.out.size hbw0) ?_
    case had3 => exact row_news (xs := insCells (⟨xk, xo, xd, xn, xargs, 0, 0⟩, av2)) HFgd2.out
    case hbd3 => intro u hu; simp [insCells] at hu; have h1 := rdArgs_one HQd2.out.rx.1; rcases hu with rfl | rfl | rfl | rfl | rfl | rfl | rfl <;> first | rfl | exact h1
    case hcd3 => rw [hPl]; unfold maxLen; omega
    case hdd3 => rw [hPl]; omega
    intro v' yd3 hown' hgrow _ hblk
    obtain ⟨xad3, xcd3, rfl, _⟩ := own_read hown'
    have HQd3 := Lib.hid (HQd2.out.growC hgrow hown')
    have HFgd1' := Lib.hid ((hgrow.block gd1 (Array.getElem?_eq_some_iff.1 HFgd1.out).1 (fun e => by obtain ⟨cs, hr⟩ := own_rowS HQd2.out.oc e.symm; have h2 := HFgd1.out; rw [hr] at h2; simp at h2)).trans HFgd1.out)
    replace HFgd1 := HFgd1'
    clear hown' hgrow hblk
    try (simp only [Act.put, List.setIfInBounds_toArray, List.set_cons_succ, List.set_cons_zero, List.getElem_toArray, List.getElem_cons_succ, List.getElem_cons_zero])
    go_wp2_with fail
    have HK := Lib.hid (ONE.out _ (HQd3.out.box.trans H0.out.box.symm))
    (first | refine ⟨fun _ => ⟨_, keepS_of HK.out⟩, ?_⟩ | refine ⟨⟨_, keepS_of HK.out⟩, ?_⟩)
    clear HK
    refine mix_now ?_
    refine mix_step rfl ?_
    try (simp only [Act.put, List.setIfInBounds_toArray, List.set_cons_succ, List.set_cons_zero, List.getElem_toArray, List.getElem_cons_succ, List.getElem_cons_zero])
    refine wpList_append_own_at _ rfl (.tmp 33) (.tmp 38) 60 rfl base 3 iN (.int .i64 0) 1 8 Tryz.underlying60 hiN hzN0 hzN1 hzN2 rfl (by decide) _ _ _ rfl HQd3.out.ot ⟨gd1, 0, none⟩ 1 1 [.int .i64 xt] rfl rfl ?had4 ?hbd4 ?hcd4 ?hdd4 (HQd3.out.size hbw0) ?_
    case had4 => exact row_news (xs := [.int .i64 xt]) HFgd1.out
    case hbd4 => intro u hu; simp only [List.mem_cons, List.not_mem_nil, or_false] at hu; subst hu; rfl
    case hcd4 => simp only [List.length_map]; unfold maxLen; omega
    case hdd4 => simp only [List.length_map]; omega
    intro v' yd4 hown' hgrow _ hblk
    obtain ⟨xad4, xcd4, rfl, _⟩ := own_read hown'
    have HQd4 := Lib.hid (HQd3.out.growT hgrow hown')
    clear hown' hgrow hblk
    try (simp only [Act.put, List.setIfInBounds_toArray, List.set_cons_succ, List.set_cons_zero, List.getElem_toArray, List.getElem_cons_succ, List.getElem_cons_zero])
    go_wp2_with fail
    have HK := Lib.hid (ONE.out _ (HQd4.out.box.trans H0.out.box.symm))
    (first | refine ⟨fun _ => ⟨_, keepS_of HK.out⟩, ?_⟩ | refine ⟨⟨_, keepS_of HK.out⟩, ?_⟩)
    clear HK
    refine mix_tail [22, 23, 24, 25, 26, 27] [_, _, _, _, _, _] _ _ rfl rfl ?_
    have hbx := HQd4.out.box
    have c5 := row_of hbx 5 (.slice ya c.length yc) rfl
    have c6 := row_of hbx 6 (.slice xa c.length xc) rfl
    have f5 := frozen_of_row yd4 m 5 _ _ hbx
    have f6 := frozen_of_row yd4 m 6 _ _ hbx
    clear hbx
    simp only [Act.put, List.setIfInBounds_toArray, List.set_cons_succ, List.set_cons_zero, List.getElem_toArray, List.getElem_cons_succ, List.getElem_cons_zero]
    go_wp2_with fail
    go_end0
    obtain ⟨r1, r2, r3, r4⟩ := HQd4.out.done (n := 0)
    simp only [List.length_map, hPl] at r1 r2 r3 r4
    refine ⟨rfl, _, _, _, _, _, _, _, _, r1, r4 (c ++ [(⟨xk, xo, xd, xn, xargs, 0, 0⟩, xt)]) ?_ ?_, r2, r3⟩
    · rw [List.map_append, List.map_append, HP1.out]; rfl
    · rw [List.map_append]; rfl
end Go.Proofs.YtfdinncgncbmfaaGreatDoor
