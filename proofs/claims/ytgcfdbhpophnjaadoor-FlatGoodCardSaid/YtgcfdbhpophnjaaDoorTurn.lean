/- Contracts of prog.need and names.declare: they return, or panic with the fault that the plain functions needF and declF give. Conditions: the string has at most 2^63 - 1 bytes; the map is a set of strings. Worlds in which only some blocks have turned; what reads goes on reading. Plain lemmas. No condition. -/
import Derived.Test.YtgcfdbhpophnjaaDoorSpec
import Derived.Test.YtgcfdbhpophnjaaDoorMix
import Derived.Deep.DeepCutAuto
import Derived.Deep.RegionWith

set_option linter.unusedVariables false
set_option linter.unusedSimpArgs false
namespace Go.Proofs.YtgcfdbhpophnjaaDoor
open Go.ChangeShapes Go.WideShapes Go.ChangeAt Go.RowKit
theorem Laid.ext {w : World} (h : Laid w) (x : World) : Laid (ext w x) := h.keep (ext_below w x)
/-- A fault as a value that is panicked with. -/
abbrev faultV (f : FaultD) : Value := .iface 105 (.agg #[.int .i64 f.line, .int .i64 f.col, .int .i64 f.e])
/-- How a function that checks ends: it returns nothing, or panics with the fault. -/
def endF : Option FaultD → Ending
  | none => .returned (.tuple #[])
  | some f => .panicked [{ v := faultV f, recovered := false }]
theorem grown_of_below {w w' : World} (h : Below w.heap.size w w') (row : Option Nat) : w.grownBy w' row :=
  ⟨h.1, h.2, h.3, h.size, fun k hk _ => h.block k hk⟩
theorem grown_trans {w a b : World} {row : Option Nat} (h : w.grownBy a row) (k : a.grownBy b row) : w.grownBy b row :=
  ⟨k.os.trans h.os, k.tape.trans h.tape, k.output.trans h.output, Nat.le_trans h.size k.size, fun i hi hr => (k.block i (Nat.lt_of_lt_of_le hi h.size) hr).trans (h.block i hi hr)⟩
theorem names_zero (w : World) : (zeroValue 4).run Tryd.prog w = .ok (.bool false) w := by kernel_rfl
set_option maxRecDepth 100000 in
theorem need_ok (l c e : Int) (w : World) : Calls Tryd.prog 87 #[.bool true, .agg #[.int .i64 l, .int .i64 c], .int .i64 e] w fun e' w' => e' = .returned (.tuple #[]) ∧ Below w.heap.size w w' := by
  go_enter Tryd.func87, Tryd.ntmps87
  go_wp2
  go_end0
  exact ⟨rfl, (Below.refl _ _).alloc (Nat.le_refl _) _⟩
set_option maxRecDepth 100000 in
theorem need_bad (l c e : Int) (w : World) : Calls Tryd.prog 87 #[.bool false, .agg #[.int .i64 l, .int .i64 c], .int .i64 e] w fun e' w' => e' = .panicked [{ v := faultV ⟨l, c, e⟩, recovered := false }] ∧ Below w.heap.size w w' := by
  go_enter Tryd.func87, Tryd.ntmps87
  go_wp2
  exact ⟨rfl, rfl, (Below.refl _ _).alloc (Nat.le_refl _) _⟩
set_option maxRecDepth 100000 in
set_option maxHeartbeats 1600000 in
theorem declare_any (b : Nat) (acc : List ByteArray) (s : ByteArray) (l c : Int) (w : World) (hs : s.size ≤ maxLen) (hL : Laid w) (hS : SetIs w b acc) :
    Calls Tryd.prog 88 #[.map (some b), .string s, .agg #[.int .i64 l, .int .i64 c]] w fun e w' => e = endF (declF acc s l c) ∧ (declF acc s l c = none → SetIs w' b (acc ++ [s])) ∧ w.grownBy w' (some b) := by
  have c1 := fun (w : World) (hL : Laid w) => named_any s w hs hL
  have HL1 : Hid (∀ A : Obj, Laid (w.alloc A)) := fun A => hL.keep ((Below.refl _ _).alloc (Nat.le_refl _) _)
  have HS := Lib.hid hS
  clear hL hS
  cases hn : named s
  · rw [hn] at c1
    have hd : declF acc s l c = some ⟨l, c, 4⟩ := by unfold declF; rw [hn]; rfl
    rw [hd]
    have C1 := Lib.hid c1
    clear c1 hn hd
    go_enter Tryd.func88, Tryd.ntmps88
    go_upto_region 1 with fail
    have hb0 : Below w.heap.size w (w.alloc (.cells #[.int .i64 l, .int .i64 c] 50)) := (Below.refl _ _).alloc (Nat.le_refl _) _
    have G0 := heap_alloc_new w (.cells #[.int .i64 l, .int .i64 c] 50)
    have HLd := Lib.hid (HL1.out (.cells #[.int .i64 l, .int .i64 c] 50))
    generalize w.alloc (.cells #[.int .i64 l, .int .i64 c] 50) = W1 at *
    have e0 := ext_cell (row_of G0 0 (.int .i64 l) rfl)
    have e1 := ext_cell (row_of G0 1 (.int .i64 c) rfl)
    have HB0 := Lib.hid hb0
    clear G0 hb0
    (refine wp_region_calm_tail 3 (by kernel_rfl) (by kernel_rfl) ?_; simp only [List.take_succ_cons, List.take_zero, List.drop_succ_cons, List.drop_zero]; (repeat (go_big_quiet_step ((go_at_call 107; exact calls_calm (C1.out _ (HLd.out.ext _)))))); refine wpQuiet_nil ?_; intro wc hwc)
    clear e0 e1
    go_wp2_with (go_at_call 87; refine (need_bad l c 4 _).mono ?_; rintro e w2 ⟨rfl, hb2⟩)
    exact ⟨rfl, rfl, (fun h => nomatch h), grown_of_below (bcomp (bcomp HB0.out hwc) hb2) _⟩
  · rw [hn] at c1
    have C1 := Lib.hid c1
    have HN := Lib.hid hn
    clear c1 hn
    go_enter Tryd.func88, Tryd.ntmps88
    go_upto_region 1 with fail
    have hb0 : Below w.heap.size w (w.alloc (.cells #[.int .i64 l, .int .i64 c] 50)) := (Below.refl _ _).alloc (Nat.le_refl _) _
    have G0 := heap_alloc_new w (.cells #[.int .i64 l, .int .i64 c] 50)
    have HLd := Lib.hid (HL1.out (.cells #[.int .i64 l, .int .i64 c] 50))
    generalize w.alloc (.cells #[.int .i64 l, .int .i64 c] 50) = W1 at *
    have r0 := row_of G0 0 (.int .i64 l) rfl
    have r1 := row_of G0 1 (.int .i64 c) rfl
    have e0 := ext_cell r0
    have e1 := ext_cell r1
    have HB0 := Lib.hid hb0
    have R := Lib.hid (And.intro r0 r1)
    clear G0 hb0 r0 r1
    (refine wp_region_calm_tail 3 (by kernel_rfl) (by kernel_rfl) ?_; simp only [List.take_succ_cons, List.take_zero, List.drop_succ_cons, List.drop_zero]; (repeat (go_big_quiet_step ((go_at_call 107; exact calls_calm (C1.out _ (HLd.out.ext _)))))); refine wpQuiet_nil ?_; intro wc hwc)
    clear e0 e1
    have HB1 := Lib.hid (bcomp HB0.out hwc)
    cases hi : inL s acc
    · have hd : Hid (declF acc s l c = none) := by show _ = _; unfold declF; rw [HN.out, hi]; rfl
      have hp : Hid (putL s acc = acc ++ [s]) := by show _ = _; unfold putL; rw [hi]; rfl
      have HI := Lib.hid hi
      clear hi
      go_wp2_with fail
      refine (need_ok l c 4 _).mono ?_
      rintro e w2 ⟨rfl, hb2⟩
      have f0 := cell_keep (bcomp hwc hb2) R.out.1
      have f1 := cell_keep (bcomp hwc hb2) R.out.2
      have HS2 := Lib.hid (HS.out.keep (bcomp HB1.out hb2))
      clear R
      go_wp2_with (at_lookup; refine wpList_set_lookup rfl _ _ _ rfl _ _ Tryd.underlying9 Tryd.underlying108 (names_zero _) b acc rfl s rfl hs HS2.out ?_; rw [HI.out])
      refine (need_ok l c 8 _).mono ?_
      rintro e w3 ⟨rfl, hb3⟩
      have HS3 := Lib.hid (HS2.out.keep hb3)
      clear HS2
      go_wp2_with (at_mapUpdate; refine wpList_set_store rfl _ _ _ _ rfl _ _ Tryd.underlying9 Tryd.underlying108 b acc rfl s rfl rfl hs HS3.out ?_; intro w4 hs4 hg4 hz4)
      go_end0
      exact ⟨by rw [hd.out]; rfl, fun _ => by rw [← hp.out]; exact hs4, grown_trans (grown_of_below (bcomp (bcomp HB1.out hb2) hb3) _) hg4⟩
    · have hd : Hid (declF acc s l c = some ⟨l, c, 8⟩) := by show _ = _; unfold declF; rw [HN.out, hi]; rfl
      have HI := Lib.hid hi
      clear hi
      go_wp2_with fail
      refine (need_ok l c 4 _).mono ?_
      rintro e w2 ⟨rfl, hb2⟩
      have f0 := cell_keep (bcomp hwc hb2) R.out.1
      have f1 := cell_keep (bcomp hwc hb2) R.out.2
      have HS2 := Lib.hid (HS.out.keep (bcomp HB1.out hb2))
      clear R
      go_wp2_with (at_lookup; refine wpList_set_lookup rfl _ _ _ rfl _ _ Tryd.underlying9 Tryd.underlying108 (names_zero _) b acc rfl s rfl hs HS2.out ?_; rw [HI.out])
      refine (need_bad l c 8 _).mono ?_
      rintro e w3 ⟨rfl, hb3⟩
      refine ⟨rfl, by rw [hd.out]; rfl, fun h => ?_, grown_of_below (bcomp (bcomp HB1.out hb2) hb3) _⟩
      rw [hd.out] at h; cases h
open Go.ChangeShapes Go.WideShapes Go.ChangeAt Go.RowKit
/-- Of the blocks that were there only those of S have turned. -/
structure Turned (S : Nat → Prop) (w w' : World) : Prop where
  os : w'.os = w.os
  tape : w'.tape = w.tape
  output : w'.output = w.output
  size : w.heap.size ≤ w'.heap.size
  block : ∀ k, k < w.heap.size → ¬ S k → w'.heap[k]? = w.heap[k]?
theorem Turned.refl (S : Nat → Prop) (w : World) : Turned S w w := ⟨rfl, rfl, rfl, Nat.le_refl _, fun _ _ _ => rfl⟩
theorem Turned.of_below {S : Nat → Prop} {w w' : World} (h : Below w.heap.size w w') : Turned S w w' := ⟨h.1, h.2, h.3, h.size, fun k hk _ => h.block k hk⟩
theorem Turned.of_grown {S : Nat → Prop} {w w' : World} {row : Option Nat} (h : w.grownBy w' row) (hr : ∀ b, row = some b → S b) : Turned S w w' :=
  ⟨h.os, h.tape, h.output, h.size, fun k hk hs => h.block k hk (fun e => hs (hr k e.symm))⟩
theorem Turned.trans {S : Nat → Prop} {w a b : World} (h : Turned S w a) (k : Turned S a b) : Turned S w b :=
  ⟨k.os.trans h.os, k.tape.trans h.tape, k.output.trans h.output, Nat.le_trans h.size k.size, fun i hi hs => (k.block i (Nat.lt_of_lt_of_le hi h.size) hs).trans (h.block i hi hs)⟩
/-- Behind it a step that turns, of the blocks that were there at first, only those of S. -/
theorem Turned.step {S T : Nat → Prop} {w a b : World} (h : Turned S w a) (k : Turned T a b) (hs : ∀ i, i < w.heap.size → T i → S i) : Turned S w b :=
  ⟨k.os.trans h.os, k.tape.trans h.tape, k.output.trans h.output, Nat.le_trans h.size k.size, fun i hi hn => (k.block i (Nat.lt_of_lt_of_le hi h.size) (fun e => hn (hs i hi e))).trans (h.block i hi hn)⟩
theorem Turned.mono {S T : Nat → Prop} {w a : World} (h : Turned S w a) (hs : ∀ i, S i → T i) : Turned T w a := ⟨h.os, h.tape, h.output, h.size, fun i hi hn => h.block i hi (fun e => hn (hs i e))⟩
theorem Turned.below {S : Nat → Prop} {w a : World} (h : Turned S w a) (B : Nat) (hB : B ≤ w.heap.size) (hs : ∀ i, S i → B ≤ i) : Below B w a :=
  ⟨h.os, h.tape, h.output, h.size, fun k hk => h.block k (by omega) (fun e => by have := hs k e; omega)⟩
theorem below_then {B : Nat} {w a b : World} (h : Below B w a) {S : Nat → Prop} (k : Turned S a b) (hB : B ≤ a.heap.size) (hs : ∀ i, S i → B ≤ i) : Below B w b := h.trans (k.below B hB hs)
theorem Turned.cell {S : Nat → Prop} {w a : World} (h : Turned S w a) {x : Addr} {v : Value} (hc : w.cell? x = some v) (hs : ¬ S x.block) : a.cell? x = some v := by
  rw [World.cell?_of_block (w := w) (h.block x.block (block_lt_of_cell hc) hs)]; exact hc
theorem Turned.alloc (S : Nat → Prop) (w : World) (o : Obj) : Turned S w (w.alloc o) := Turned.of_below ((Below.refl _ _).alloc (Nat.le_refl _) _)
theorem setCell_turned (w : World) (a : Addr) (v : Value) : Turned (fun k => k = a.block) w (w.setCell a v) :=
  ⟨rfl, rfl, rfl, by simp, fun k _ hs => heap_setCell_other w a k v (fun e => hs e)⟩
/-- All cells that were there are as they were. -/
def Kept (w w' : World) : Prop := ∀ b o v, w.cell? ⟨b, o, none⟩ = some v → w'.cell? ⟨b, o, none⟩ = some v
theorem Kept.refl (w : World) : Kept w w := fun _ _ _ h => h
theorem Kept.trans {w a b : World} (h : Kept w a) (k : Kept a b) : Kept w b := fun x o v hc => k x o v (h x o v hc)
theorem Kept.of_below {w w' : World} (h : Below w.heap.size w w') : Kept w w' := fun _ _ _ hc => cell_keep h hc
theorem map_no_cell {w : World} {b : Nat} {L : List (ByteArray × Value)} (h : MapIs w b L) (o : Nat) (v : Value) : w.cell? ⟨b, o, none⟩ ≠ some v := by
  obtain ⟨es, clock, hb, _⟩ := h
  simp [World.cell?, hb]
theorem Kept.of_map {w w' : World} {b : Nat} {L : List (ByteArray × Value)} (h : w.grownBy w' (some b)) (hm : MapIs w b L) : Kept w w' := by
  intro x o v hc
  have hx : x ≠ b := fun e => by subst e; exact map_no_cell hm o v hc
  rw [World.cell?_of_block (w := w) (h.block x (block_lt_of_cell hc) (by simpa using hx))]; exact hc
theorem Kept.of_turned {S : Nat → Prop} {w w' : World} (h : Turned S w w') (hs : ∀ b o v, S b → w.cell? ⟨b, o, none⟩ ≠ some v) : Kept w w' :=
  fun b o v hc => h.cell hc (fun e => hs b o v e hc)
theorem kept_hF {w w' : World} : ∀ T b, Any T → b < w.heap.size → Free none T w b → Free none T w' b := fun T b _ _ _ => Free.none T w' b
theorem kept_hC {w w' : World} (k : Kept w w') : ∀ T b o v, Any T → Free none T w b → w.cell? ⟨b, o, none⟩ = some v → w'.cell? ⟨b, o, none⟩ = some v := fun _ b o v _ _ h => k b o v h
theorem RdStrs.kept {w w' : World} {v : Value} {l : List ByteArray} (h : RdStrs none w v l) (k : Kept w w') : RdStrs none w' v l := RdStrs.map kept_hF (kept_hC k) trivial h
theorem RdArrs.kept {w w' : World} {v : Value} {l : List ArrD} (h : RdArrs none w v l) (k : Kept w w') : RdArrs none w' v l := RdArrs.map kept_hF (kept_hC k) trivial h
theorem RdInstr.kept {w w' : World} {x : InstrD} {av : Value} (h : RdInstr none w x av) (k : Kept w w') : RdInstr none w' x av := RdInstr.map kept_hF (kept_hC k) trivial h
theorem RdInstrs.kept {w w' : World} {v : Value} {l : List InstrD} (h : RdInstrs none w v l) (k : Kept w w') : RdInstrs none w' v l := RdInstrs.map kept_hF (kept_hC k) trivial trivial h
theorem RdFunc.kept {w w' : World} {x : FuncD} {pv cv : Value} (h : RdFunc none w x pv cv) (k : Kept w w') : RdFunc none w' x pv cv := RdFunc.map kept_hF (kept_hC k) trivial trivial trivial h
theorem RdFuncs.kept {w w' : World} {v : Value} {l : List FuncD} (h : RdFuncs none w v l) (k : Kept w w') : RdFuncs none w' v l := RdFuncs.map kept_hF (kept_hC k) trivial trivial trivial trivial h
theorem RdProg.kept {w w' : World} {p : ProgD} {cv av fv mv : Value} (h : RdProg none w p cv av fv mv) (k : Kept w w') : RdProg none w' p cv av fv mv := RdProg.map kept_hF (kept_hC k) trivial trivial trivial trivial trivial h
theorem Laid.kept {w w' : World} (h : Laid w) (k : Kept w w') : Laid w' :=
  ⟨by obtain ⟨v, h1, h2⟩ := h.kw; exact ⟨v, k _ _ _ h1, h2.kept k⟩, fun i x hx => by obtain ⟨h1, h2, h3⟩ := h.forms i x hx; exact ⟨k _ _ _ h1, k _ _ _ h2, k _ _ _ h3⟩⟩
theorem SetIs.turn {S : Nat → Prop} {w w' : World} {b : Nat} {l : List ByteArray} (h : SetIs w b l) (k : Turned S w w') (hs : ¬ S b) : SetIs w' b l := h.at (k.block b h.lt hs)
theorem IntsIs.turn {S : Nat → Prop} {w w' : World} {b : Nat} {l : List (ByteArray × Int)} (h : IntsIs w b l) (k : Turned S w w') (hs : ¬ S b) : IntsIs w' b l := h.at (k.block b h.lt hs)
theorem own_turn {S : Nat → Prop} {w w' : World} {base : Nat} {e : TypeId} {size : Nat} {v : Value} {n : Nat} {xs : List Value} (h : w.ownsRow base e size v n xs) (hb : Turned S w w') (hs : ∀ k, v.ownBlock = some k → ¬ S k) : w'.ownsRow base e size v n xs := by
  obtain ⟨hl, h | ⟨g, cap, cur, rfl, hg, hc, hr⟩⟩ := h
  · exact ⟨hl, .inl h⟩
  · exact ⟨hl, .inr ⟨g, cap, cur, rfl, hg, (hb.block g (Array.getElem?_eq_some_iff.1 hc).1 (hs g (by simp [Value.ownBlock]))).trans hc, hr⟩⟩
theorem own_is {w : World} {base : Nat} {e : TypeId} {size : Nat} {v : Value} {n : Nat} {xs : List Value} (h : w.ownsRow base e size v n xs) {k : Nat} (hk : v.ownBlock = some k) : base ≤ k ∧ ∃ cur, w.heap[k]? = some (.cells cur e (0, 0)) := by
  obtain ⟨_, ⟨rfl, _⟩ | ⟨g, cap, cur, rfl, hg, hb, _⟩⟩ := h
  · simp [Value.ownBlock] at hk
  · simp only [Value.ownBlock, Option.some.injEq] at hk
    subst hk
    exact ⟨hg, cur, hb⟩
theorem own_ne_map {w : World} {base : Nat} {e : TypeId} {size : Nat} {v : Value} {n : Nat} {xs : List Value} (h : w.ownsRow base e size v n xs) {b : Nat} {L : List (ByteArray × Value)} (hm : MapIs w b L) : v.ownBlock ≠ some b := by
  intro hk
  obtain ⟨_, cur, hb⟩ := own_is h hk
  obtain ⟨es, cl, h', _⟩ := hm
  rw [hb] at h'; cases h'
theorem own_ne_cells {w : World} {base : Nat} {e : TypeId} {size : Nat} {v : Value} {n : Nat} {xs : List Value} (h : w.ownsRow base e size v n xs) {b : Nat} {cs : Array Value} {T : TypeId} (hc : w.heap[b]? = some (.cells cs T (0, 0))) (hT : T ≠ e) : v.ownBlock ≠ some b := by
  intro hk
  obtain ⟨_, cur, hb⟩ := own_is h hk
  rw [hc] at hb; simp at hb; exact hT hb.2
theorem map_ne_cells {w : World} {b g : Nat} {L : List (ByteArray × Value)} (hm : MapIs w b L) {cs : Array Value} {T : TypeId} (hc : w.heap[g]? = some (.cells cs T (0, 0))) : b ≠ g := by
  intro e
  obtain ⟨es, cl, h', _⟩ := hm
  rw [e, hc] at h'; cases h'
theorem set_look {P : Program} {k e t : TypeId} {W : World} {b : Nat} {l : List ByteArray} (hk : P.underlying k = some .string) (ht : P.underlying t = some (.map k e)) (hz : ∀ w, (zeroValue e).run P w = .ok (.bool false) w) (h : SetIs W b l) (s : ByteArray) (hs : s.size ≤ maxLen) (v : Bool) (hv : inL s l = v) (x : World) :
    (Instr.lookup t (.map (some b)) (.string s) false).run P (ext W x) = .ok (.bool v) (ext W x) := by
  rw [← hv]; exact (h.keep (ext_below W x)).lookup hk ht (hz _) s hs
theorem set_len {P : Program} {k e t : TypeId} {W : World} {b : Nat} {l : List ByteArray} (ht : P.underlying t = some (.map k e)) (h : SetIs W b l) (ty : TypeId) (x : World) :
    (Builtin.len_ #[t] ty #[.map (some b)]).run P (ext W x) = .ok (.int .i64 l.length) (ext W x) := (h.keep (ext_below W x)).len ht ty
theorem ints_look {P : Program} {k e t : TypeId} {W : World} {b : Nat} {l : List (ByteArray × Int)} (hk : P.underlying k = some .string) (ht : P.underlying t = some (.map k e)) (hz : ∀ w, (zeroValue e).run P w = .ok (.int .i64 0) w) (h : IntsIs W b l) (hd : l.Pairwise (fun p q => p.1 ≠ q.1)) (s : ByteArray) (hs : s.size ≤ maxLen) (n : Int) (v : Bool) (hn : (atL s l).getD 0 = n) (hv : (atL s l).isSome = v) (x : World) :
    (Instr.lookup t (.map (some b)) (.string s) true).run P (ext W x) = .ok (.tuple #[.int .i64 n, .bool v]) (ext W x) := by
  rw [← hv, ← hn]; exact (h.keep (ext_below W x)).lookup hk ht (hz _) hd s hs
theorem firstF_fault {α : Type} {f : List α → α → Option FaultD} {l : List α} {k : Nat} {x : α} {F : FaultD} (h : firstF f [] l = firstF f (l.take k) (l.drop k)) (hx : l[k]? = some x) (hf : f (l.take k) x = some F) : firstF f [] l = some F := by
  rw [h, firstF_step f l k x hx, hf]; rfl
theorem firstF_ok {α : Type} {f : List α → α → Option FaultD} {l : List α} {k : Nat} {x : α} (h : firstF f [] l = firstF f (l.take k) (l.drop k)) (hx : l[k]? = some x) (hf : f (l.take k) x = none) : firstF f [] l = firstF f (l.take (k + 1)) (l.drop (k + 1)) := by
  rw [h, firstF_step f l k x hx, hf]; rfl
theorem firstF_end {α : Type} {f : List α → α → Option FaultD} {l : List α} (h : firstF f [] l = firstF f (l.take l.length) (l.drop l.length)) : firstF f [] l = none := by
  rw [h]; simp [firstF]
end Go.Proofs.YtgcfdbhpophnjaaDoor
