/- What stays when single cells of a program's own copy are written by values of the same kind; the plain laws of ProgEquals. -/
import Derived.Test.YteeebofjlchndaaDoorCpP
import Derived.Test.YteeebofjlchndaaDoorRefA
set_option linter.unusedVariables false
set_option linter.unusedSimpArgs false
set_option linter.unnecessarySimpa false
namespace Go.Proofs.YteeebofjlchndaaDoor
open Go.ChangeShapes Go.WideShapes Go.ChangeAt Go.RowKit
/-- A value that may stand where u stood. -/
def Like (u u' : Value) : Prop := u' = u ∨ (∃ s s', u = .string s ∧ u' = .string s' ∧ s'.size ≤ maxLen) ∨ (∃ n n', u = .int .u8 n ∧ u' = .int .u8 n' ∧ InU8 n') ∨ (∃ n n', u = .int .u64 n ∧ u' = .int .u64 n' ∧ InU64 n') ∨ (∃ n n', u = .int .i64 n ∧ u' = .int .i64 n' ∧ InI64 n')
theorem Like.str {s : ByteArray} {u : Value} (h : Like (.string s) u) (hs : s.size ≤ maxLen) : ∃ s', u = .string s' ∧ s'.size ≤ maxLen := by
  rcases h with rfl | ⟨_, s', _, rfl, h⟩ | ⟨_, _, h, _⟩ | ⟨_, _, h, _⟩ | ⟨_, _, h, _⟩
  · exact ⟨s, rfl, hs⟩
  · exact ⟨s', rfl, h⟩
  all_goals cases h
theorem Like.u8 {n : Int} {u : Value} (h : Like (.int .u8 n) u) (hs : InU8 n) : ∃ n', u = .int .u8 n' ∧ InU8 n' := by
  rcases h with rfl | ⟨_, _, h, _⟩ | ⟨_, n', _, rfl, h⟩ | ⟨_, _, h, _⟩ | ⟨_, _, h, _⟩
  · exact ⟨n, rfl, hs⟩
  · cases h
  · exact ⟨n', rfl, h⟩
  all_goals cases h
theorem Like.u64 {n : Int} {u : Value} (h : Like (.int .u64 n) u) (hs : InU64 n) : ∃ n', u = .int .u64 n' ∧ InU64 n' := by
  rcases h with rfl | ⟨_, _, h, _⟩ | ⟨_, _, h, _⟩ | ⟨_, n', _, rfl, h⟩ | ⟨_, _, h, _⟩
  · exact ⟨n, rfl, hs⟩
  · cases h
  · cases h
  · exact ⟨n', rfl, h⟩
  · cases h
theorem Like.i64 {n : Int} {u : Value} (h : Like (.int .i64 n) u) (hs : InI64 n) : ∃ n', u = .int .i64 n' ∧ InI64 n' := by
  rcases h with rfl | ⟨_, _, h, _⟩ | ⟨_, _, h, _⟩ | ⟨_, _, h, _⟩ | ⟨_, n', _, rfl, h⟩
  · exact ⟨n, rfl, hs⟩
  · cases h
  · cases h
  · cases h
  · exact ⟨n', rfl, h⟩
theorem Like.slice {a : Option Addr} {n c : Nat} {u : Value} (h : Like (.slice a n c) u) : u = .slice a n c := by
  rcases h with rfl | ⟨_, _, h, _⟩ | ⟨_, _, h, _⟩ | ⟨_, _, h, _⟩ | ⟨_, _, h, _⟩
  · rfl
  all_goals cases h
/-- Blocks keep their kinds, and the cells of those of g hold values of the same kind. -/
def Soft (g : Nat → Prop) (w w' : World) : Prop := (∀ U b, Free (some g) U w b → Free (some g) U w' b) ∧ ∀ b o u, g b → w.cell? ⟨b, o, none⟩ = some u → ∃ u', w'.cell? ⟨b, o, none⟩ = some u' ∧ Like u u'
section
variable {g : Nat → Prop} {w w' : World}
theorem Soft.at (k : Soft g w w') {U : TypeId} {b o : Nat} {u : Value} (hf : Free (some g) U w b) (hc : w.cell? ⟨b, o, none⟩ = some u) : ∃ u', w'.cell? ⟨b, o, none⟩ = some u' ∧ Like u u' := k.2 b o u (hf g rfl).1 hc
theorem RdStrs.soft {v : Value} {l : List ByteArray} (h : RdStrs (some g) w v l) (k : Soft g w w') : ∃ l', RdStrs (some g) w' v l' := by
  obtain ⟨a, c, rfl, hl, hr⟩ := h
  obtain ⟨P, hP, hr'⟩ := choose_listM (R := fun i (s : ByteArray) => ∃ b o, a = some ⟨b, o, none⟩ ∧ Free (some g) 9 w' b ∧ w'.cell? ⟨b, o + i, none⟩ = some (.string s) ∧ s.size ≤ maxLen) l.length (fun i hi => by
    obtain ⟨x, hx⟩ : ∃ x, l[i]? = some x := ⟨_, List.getElem?_eq_getElem hi⟩
    obtain ⟨b, o, rfl, hf, h0, hz⟩ := hr i x hx
    obtain ⟨u, hu, hk⟩ := k.at hf h0
    obtain ⟨s', rfl, hs'⟩ := hk.str hz
    exact ⟨s', b, o, rfl, k.1 _ _ hf, hu, hs'⟩)
  exact ⟨P, a, c, by rw [hP], by rw [hP]; exact hl, hr'⟩
theorem RdArrs.soft {v : Value} {l : List ArrD} (h : RdArrs (some g) w v l) (k : Soft g w w') : ∃ l', RdArrs (some g) w' v l' := by
  obtain ⟨a, c, rfl, hl, hr⟩ := h
  obtain ⟨P, hP, hr'⟩ := choose_listM (R := fun i (s : ArrD) => ∃ b o, a = some ⟨b, o, none⟩ ∧ Free (some g) 48 w' b ∧ w'.cell? ⟨b, o + i * 2, none⟩ = some (.string s.name) ∧ w'.cell? ⟨b, o + i * 2 + 1, none⟩ = some (.int .i64 s.size) ∧ InI64 s.size ∧ s.name.size ≤ maxLen) l.length (fun i hi => by
    obtain ⟨x, hx⟩ : ∃ x, l[i]? = some x := ⟨_, List.getElem?_eq_getElem hi⟩
    obtain ⟨b, o, rfl, hf, h0, h1, hz, hz2⟩ := hr i x hx
    obtain ⟨u, hu, hk⟩ := k.at hf h0
    obtain ⟨s', rfl, hs'⟩ := hk.str hz2
    obtain ⟨u, hu1, hk⟩ := k.at hf h1
    obtain ⟨n', rfl, hn'⟩ := hk.i64 hz
    exact ⟨⟨s', n'⟩, b, o, rfl, k.1 _ _ hf, hu, hu1, hn', hs'⟩)
  exact ⟨P, a, c, by rw [hP], by rw [hP]; exact hl, hr'⟩
theorem RdArgs.soft {v : Value} {l : List ArgD} (h : RdArgs (some g) w v l) (k : Soft g w w') : ∃ l', RdArgs (some g) w' v l' := by
  obtain ⟨a, c, rfl, hl, hr⟩ := h
  obtain ⟨P, hP, hr'⟩ := choose_listM (R := fun i (s : ArgD) => ∃ b o, a = some ⟨b, o, none⟩ ∧ Free (some g) 43 w' b ∧ w'.cell? ⟨b, o + i * 2, none⟩ = some (.string s.name) ∧ w'.cell? ⟨b, o + i * 2 + 1, none⟩ = some (.int .u64 s.num) ∧ InU64 s.num ∧ s.name.size ≤ maxLen) l.length (fun i hi => by
    obtain ⟨x, hx⟩ : ∃ x, l[i]? = some x := ⟨_, List.getElem?_eq_getElem hi⟩
    obtain ⟨b, o, rfl, hf, h0, h1, hz, hz2⟩ := hr i x hx
    obtain ⟨u, hu, hk⟩ := k.at hf h0
    obtain ⟨s', rfl, hs'⟩ := hk.str hz2
    obtain ⟨u, hu1, hk⟩ := k.at hf h1
    obtain ⟨n', rfl, hn'⟩ := hk.u64 hz
    exact ⟨⟨s', n'⟩, b, o, rfl, k.1 _ _ hf, hu, hu1, hn', hs'⟩)
  exact ⟨P, a, c, by rw [hP], by rw [hP]; exact hl, hr'⟩
theorem RdInstrs.soft {v : Value} {l : List InstrD} (h : RdInstrs (some g) w v l) (k : Soft g w w') : ∃ l', RdInstrs (some g) w' v l' := by
  obtain ⟨a, c, rfl, hl, hr⟩ := h
  obtain ⟨P, hP, hr'⟩ := choose_listM (R := fun i (s : InstrD) => ∃ b o av, a = some ⟨b, o, none⟩ ∧ Free (some g) 40 w' b ∧
    w'.cell? ⟨b, o + i * 7, none⟩ = some (.int .u8 s.kind) ∧ w'.cell? ⟨b, o + i * 7 + 1, none⟩ = some (.int .u8 s.op) ∧
    w'.cell? ⟨b, o + i * 7 + 2, none⟩ = some (.string s.dst) ∧ w'.cell? ⟨b, o + i * 7 + 3, none⟩ = some (.string s.name) ∧
    w'.cell? ⟨b, o + i * 7 + 4, none⟩ = some av ∧ w'.cell? ⟨b, o + i * 7 + 5, none⟩ = some (.int .i64 s.line) ∧ w'.cell? ⟨b, o + i * 7 + 6, none⟩ = some (.int .i64 s.col) ∧
    RdInstr (some g) w' s av) l.length (fun i hi => by
    obtain ⟨x, hx⟩ : ∃ x, l[i]? = some x := ⟨_, List.getElem?_eq_getElem hi⟩
    obtain ⟨b, o, av, rfl, hf, h0, h1, h2, h3, h4, h5, h6, ra, z0, z1, z5, z6, z2, z3⟩ := hr i x hx
    obtain ⟨aa, ac, rfl, -⟩ := id ra
    obtain ⟨as', hra⟩ := ra.soft k
    obtain ⟨u, q0, hk⟩ := k.at hf h0
    obtain ⟨n0, rfl, y0⟩ := hk.u8 z0
    obtain ⟨u, q1, hk⟩ := k.at hf h1
    obtain ⟨n1, rfl, y1⟩ := hk.u8 z1
    obtain ⟨u, q2, hk⟩ := k.at hf h2
    obtain ⟨n2, rfl, y2⟩ := hk.str z2
    obtain ⟨u, q3, hk⟩ := k.at hf h3
    obtain ⟨n3, rfl, y3⟩ := hk.str z3
    obtain ⟨u, q4, hk⟩ := k.at hf h4
    obtain rfl := hk.slice
    obtain ⟨u, q5, hk⟩ := k.at hf h5
    obtain ⟨n5, rfl, y5⟩ := hk.i64 z5
    obtain ⟨u, q6, hk⟩ := k.at hf h6
    obtain ⟨n6, rfl, y6⟩ := hk.i64 z6
    exact ⟨⟨n0, n1, n2, n3, as', n5, n6⟩, b, o, _, rfl, k.1 _ _ hf, q0, q1, q2, q3, q4, q5, q6, hra, y0, y1, y5, y6, y2, y3⟩)
  exact ⟨P, a, c, by rw [hP], by rw [hP]; exact hl, hr'⟩
theorem RdFuncs.soft {v : Value} {l : List FuncD} (h : RdFuncs (some g) w v l) (k : Soft g w w') : ∃ l', RdFuncs (some g) w' v l' := by
  obtain ⟨a, c, rfl, hl, hr⟩ := h
  obtain ⟨P, hP, hr'⟩ := choose_listM (R := fun i (s : FuncD) => ∃ b o pv cv, a = some ⟨b, o, none⟩ ∧ Free (some g) 51 w' b ∧
    w'.cell? ⟨b, o + i * 5, none⟩ = some (.string s.name) ∧ w'.cell? ⟨b, o + i * 5 + 1, none⟩ = some pv ∧ w'.cell? ⟨b, o + i * 5 + 2, none⟩ = some cv ∧
    w'.cell? ⟨b, o + i * 5 + 3, none⟩ = some (.int .i64 s.line) ∧ w'.cell? ⟨b, o + i * 5 + 4, none⟩ = some (.int .i64 s.col) ∧ RdFunc (some g) w' s pv cv) l.length (fun i hi => by
    obtain ⟨x, hx⟩ : ∃ x, l[i]? = some x := ⟨_, List.getElem?_eq_getElem hi⟩
    obtain ⟨b, o, pv, cv, rfl, hf, h0, h1, h2, h3, h4, rp, rc, z3, z4, z0⟩ := hr i x hx
    obtain ⟨pa, pc, rfl, -⟩ := id rp
    obtain ⟨ca, cc, rfl, -⟩ := id rc
    obtain ⟨ps', hrp⟩ := rp.soft k
    obtain ⟨cs', hrc⟩ := rc.soft k
    obtain ⟨u, q0, hk⟩ := k.at hf h0
    obtain ⟨n0, rfl, y0⟩ := hk.str z0
    obtain ⟨u, q1, hk⟩ := k.at hf h1
    obtain rfl := hk.slice
    obtain ⟨u, q2, hk⟩ := k.at hf h2
    obtain rfl := hk.slice
    obtain ⟨u, q3, hk⟩ := k.at hf h3
    obtain ⟨n3, rfl, y3⟩ := hk.i64 z3
    obtain ⟨u, q4, hk⟩ := k.at hf h4
    obtain ⟨n4, rfl, y4⟩ := hk.i64 z4
    exact ⟨⟨n0, ps', cs', n3, n4⟩, b, o, _, _, rfl, k.1 _ _ hf, q0, q1, q2, q3, q4, hrp, hrc, y3, y4, y0⟩)
  exact ⟨P, a, c, by rw [hP], by rw [hP]; exact hl, hr'⟩
theorem RdProg.soft {p : ProgD} {cv av fv mv : Value} (h : RdProg (some g) w p cv av fv mv) (k : Soft g w w') : ∃ p', p'.width = p.width ∧ RdProg (some g) w' p' cv av fv mv := by
  obtain ⟨h1, h2, h3, h4, h5⟩ := h
  obtain ⟨l1, h1⟩ := h1.soft k
  obtain ⟨l2, h2⟩ := h2.soft k
  obtain ⟨l3, h3⟩ := h3.soft k
  obtain ⟨l4, h4⟩ := h4.soft k
  exact ⟨⟨p.width, l1, l2, l3, l4⟩, rfl, h1, h2, h3, h4, h5⟩
theorem Soft.slice (k : Soft g w w') {U : TypeId} {b o : Nat} {a : Option Addr} {n c : Nat} (hf : Free (some g) U w b) (hc : w.cell? ⟨b, o, none⟩ = some (.slice a n c)) : w'.cell? ⟨b, o, none⟩ = some (.slice a n c) := by
  obtain ⟨u, hu, hk⟩ := k.at hf hc
  rw [hk.slice] at hu
  exact hu
theorem Soft.set {U : TypeId} {b o : Nat} {u u' : Value} (hf : Free (some g) U w b) (hc : w.cell? ⟨b, o, none⟩ = some u) (hl : Like u u') : Soft g w (w.setCell ⟨b, o, none⟩ u') := by
  refine ⟨fun V x h => freePutS h, fun x y v hg hv => ?_⟩
  by_cases e : x = b ∧ y = o
  · obtain ⟨rfl, rfl⟩ := e
    rw [hc] at hv
    cases hv
    obtain ⟨-, cs, hcs⟩ := hf g rfl
    refine ⟨u', ?_, hl⟩
    have hlt := cell_of_row w x y cs U (0, 0) hcs
    rw [hlt] at hc
    have hy := (Array.getElem?_eq_some_iff.1 hc).1
    rw [cell_of_row _ x y _ U (0, 0) (heap_setCell_same w x y cs U u' hcs)]
    simp [hy]
  · exact ⟨v, putS_cell (by by_cases h1 : x = b; exact .inr fun h2 => e ⟨h1, h2⟩; exact .inl h1) hv, .inl rfl⟩
end
/-- The copy while it is written: it reads as some program, its box holds its slices, and what is older is as it was. -/
structure CI (m r : Nat) (wd : Int) (cv av fv mv : Value) (W0 wr : World) : Prop where
  rd : ∃ p', p'.width = wd ∧ RdProg (some (upFrom m)) wr p' cv av fv mv
  box : wr.heap[r]? = some (.cells #[.int .i64 wd, cv, av, fv, mv] 27 (0, 0))
  below : Below m W0 wr
theorem CI.keep {m r : Nat} {wd : Int} {cv av fv mv : Value} {W0 wr w' : World} (h : CI m r wd cv av fv mv W0 wr) (hb : Below wr.heap.size wr w') (hm : m ≤ wr.heap.size) : CI m r wd cv av fv mv W0 w' := by
  obtain ⟨p', hw, hp⟩ := h.rd
  exact ⟨⟨p', hw, hp.keep hb⟩, (hb.block r (Array.getElem?_eq_some_iff.1 h.box).1).trans h.box, h.below.trans (hb.mono hm)⟩
theorem CI.put {m r : Nat} {wd : Int} {cv av fv mv : Value} {W0 wr : World} {U : TypeId} {b o : Nat} {u u' : Value} (h : CI m r wd cv av fv mv W0 wr) (hf : Free (some (upFrom m)) U wr b) (hU : U ≠ 27) (hc : wr.cell? ⟨b, o, none⟩ = some u) (hl : Like u u') : CI m r wd cv av fv mv W0 (wr.setCell ⟨b, o, none⟩ u') ∧ Soft (upFrom m) wr (wr.setCell ⟨b, o, none⟩ u') := by
  have hs := Soft.set hf hc hl
  obtain ⟨p', hw, hp⟩ := h.rd
  obtain ⟨p2, hw2, hp2⟩ := hp.soft hs
  obtain ⟨hg, cs, hcs⟩ := hf _ rfl
  have hne : r ≠ b := by
    rintro rfl
    have hx := h.box
    rw [hcs] at hx
    simp only [Option.some.injEq, Obj.cells.injEq] at hx
    exact hU hx.2.1
  exact ⟨⟨⟨p2, hw2.trans hw, hp2⟩, (heap_setCell_other _ _ _ _ hne).trans h.box, h.below.setCell (p := ⟨b, o, none⟩) (show m ≤ b from hg) _⟩, hs⟩
/-! ### plain -/
theorem eqL_mapN {α β : Type} (e : α → α → Bool) (d : β → β → Bool) (f : α → β) (h : ∀ x y, d (f x) (f y) = e x y) : ∀ l m : List α, eqL d (l.map f) (m.map f) = eqL e l m
  | [], [] => rfl
  | [], _ :: _ => rfl
  | _ :: _, [] => rfl
  | x :: l, y :: m => by simp only [List.map_cons, eqL, h, eqL_mapN e d f h l m]
theorem eqL_selfN {α : Type} {f : α → α → Bool} (hf : ∀ x, f x x = true) : ∀ l : List α, eqL f l l = true
  | [] => rfl
  | x :: l => by rw [eqL, hf, eqL_selfN hf l]; rfl
theorem eqI_bare (x y : InstrD) : eqInstr (bareI x) (bareI y) = eqInstrN x y := by simp [eqInstr, eqInstrN, bareI]
theorem eqF_bare (x y : FuncD) : eqFunc (bareF x) (bareF y) = eqFuncN x y := by
  simp only [eqFunc, eqFuncN, bareF, eqL_mapN _ _ _ eqI_bare]
  simp
/-- prog.Equal is what equality of the bare programs is. -/
theorem eqP_bare (p q : ProgD) : eqProg (bareP p) (bareP q) = eqProgN p q := by
  simp only [eqProg, eqProgN, bareP, eqL_mapN _ _ _ eqI_bare, eqL_mapN _ _ _ eqF_bare]
theorem selfS (s : ByteArray) : eqS s s = true := by simp [eqS]
theorem selfA (s : ArgD) : eqArg s s = true := by simp [eqArg]
theorem selfR (s : ArrD) : eqArr s s = true := by simp [eqArr]
theorem selfI (x : InstrD) : eqInstr x x = true := by simp [eqInstr, eqL_selfN selfA]
theorem selfF (x : FuncD) : eqFunc x x = true := by simp [eqFunc, eqL_selfN selfS, eqL_selfN selfI]
theorem selfP (x : ProgD) : eqProg x x = true := by simp [eqProg, eqL_selfN selfS, eqL_selfN selfR, eqL_selfN selfF, eqL_selfN selfI]
theorem bare_bare (p : ProgD) : bareP (bareP p) = bareP p := by
  simp only [bareP, List.map_map]
  congr 1
  apply List.map_congr_left
  intro x hx
  simp [bareF, bareI, List.map_map, Function.comp_def]
theorem eqN_bare (p : ProgD) : eqProgN p (bareP p) = true := by rw [← eqP_bare, bare_bare, selfP]
set_option maxRecDepth 100000 in
set_option maxHeartbeats 1600000 in
/-- The instructions of one function or of main, with the memory they lie in. -/
theorem bodyG (g : Nat → Prop) (p : ProgD) (cv av fv mv : Value) (i : Nat) (w : World) (h : RdProg (some g) w p cv av fv mv) (hi : i ≤ p.funcs.length) :
    Calls Tryd.prog 16 #[progV p cv av fv mv, .int .i64 i] w fun e w' => ∃ v, e = .returned v ∧ RdInstrs (some g) w v (codeAt p i) ∧ Below w.heap.size w w' := by
  obtain ⟨_, _, h3, h4, _⟩ := h
  obtain ⟨a, c, rfl, hl, hr⟩ := h3
  have HR := Lib.hid hr
  have H4 := Lib.hid h4
  obtain ⟨a4, c4, rfl, _⟩ := id h4
  clear hr h4
  by_cases hlt : i < p.funcs.length
  · obtain ⟨x, hx⟩ : ∃ x, p.funcs[i]? = some x := ⟨_, List.getElem?_eq_getElem hlt⟩
    obtain ⟨b, o, pv2, cv2, rfl, _, c0, c1, c2, _, _, hf⟩ := HR.out i x hx
    have HV : Hid (RdInstrs (some g) w cv2 (codeAt p i)) := by show RdInstrs _ _ _ _; unfold codeAt; rw [hx]; exact hf.2.1
    obtain ⟨a5, c5, rfl, _⟩ := id hf.2.1
    have hlt2 : (i : Int) < (p.funcs.length : Int) := by omega
    clear hx c0 c1 hf
    go_enter Tryd.func16, Tryd.ntmps16
    go_upto_region 1 with fail
    have hb0 : Below w.heap.size w (w.alloc (.cells #[.int .i64 p.width, cv, av, .slice (some ⟨b, o, none⟩) p.funcs.length c, .slice a4 p.main.length c4] 27)) := (Below.refl _ _).alloc (Nat.le_refl _) _
    have G0 := heap_alloc_new w (.cells #[.int .i64 p.width, cv, av, .slice (some ⟨b, o, none⟩) p.funcs.length c, .slice a4 p.main.length c4] 27)
    generalize w.alloc (.cells #[.int .i64 p.width, cv, av, .slice (some ⟨b, o, none⟩) p.funcs.length c, .slice a4 p.main.length c4] 27) = W1 at *
    have i3 := row_of G0 3 (.slice (some ⟨b, o, none⟩) p.funcs.length c) rfl
    have d2 := cell_keep hb0 c2
    have HB := Lib.hid hb0
    clear G0 hb0 c2
    go_wp2
    go_ret
    exact ⟨_, rfl, HV.out, HB.out⟩
  · obtain rfl : i = p.funcs.length := by omega
    have HV : Hid (RdInstrs (some g) w (.slice a4 p.main.length c4) (codeAt p p.funcs.length)) := by show RdInstrs _ _ _ _; unfold codeAt; rw [List.getElem?_eq_none (Nat.le_refl _)]; exact H4.out
    go_enter Tryd.func16, Tryd.ntmps16
    go_upto_region 1 with fail
    have hb0 : Below w.heap.size w (w.alloc (.cells #[.int .i64 p.width, cv, av, .slice a p.funcs.length c, .slice a4 p.main.length c4] 27)) := (Below.refl _ _).alloc (Nat.le_refl _) _
    have G0 := heap_alloc_new w (.cells #[.int .i64 p.width, cv, av, .slice a p.funcs.length c, .slice a4 p.main.length c4] 27)
    generalize w.alloc (.cells #[.int .i64 p.width, cv, av, .slice a p.funcs.length c, .slice a4 p.main.length c4] 27) = W1 at *
    have i3 := row_of G0 3 (.slice a p.funcs.length c) rfl
    have i4 := row_of G0 4 (.slice a4 p.main.length c4) rfl
    have HB := Lib.hid hb0
    clear G0 hb0
    go_wp2
    go_ret
    exact ⟨_, rfl, HV.out, HB.out⟩
end Go.Proofs.YteeebofjlchndaaDoor
