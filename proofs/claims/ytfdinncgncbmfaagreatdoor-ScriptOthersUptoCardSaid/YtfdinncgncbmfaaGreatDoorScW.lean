/- For the maker's labelled: a name written into a row of instructions, and the set of the numbers that are wanted. Plain lemmas. Conditions: each theorem's own. Contract of the maker's labelled: the instructions with their labels. Conditions: the maker's block and its rows hold what is said. -/
import Derived.Test.YtfdinncgncbmfaaGreatDoorScO
set_option linter.unusedVariables false
set_option linter.unusedSimpArgs false
set_option linter.unnecessarySimpa false
namespace Go.Proofs.YtfdinncgncbmfaaGreatDoor
open Go.Maps (Keyed int_keyed)
open Go.WideShapes Go.ChangeMaps Go.MapKept Go.WideMaps Go.ChangeAt Go.RowKit Go.ChangeShapes
/-- An instruction with another name. -/
def nameI (p : InstrD × Value) (n : ByteArray) : InstrD × Value := ({ p.1 with name := n }, p.2)
theorem ins_set : ∀ (P : List (InstrD × Value)) (i : Nat) (p : InstrD × Value) (n : ByteArray), P[i]? = some p → (P.flatMap insCells).set (i * 7 + 3) (.string n) = (P.set i (nameI p n)).flatMap insCells
  | [], i, p, n, h => by simp at h
  | q :: r, 0, p, n, h => by
    simp only [List.getElem?_cons_zero, Option.some.injEq] at h
    subst h
    rfl
  | q :: r, i + 1, p, n, h => by
    have ih := ins_set r i p n (by simpa using h)
    rw [List.flatMap_cons, List.set_cons_succ, List.flatMap_cons, ← ih, List.set_append_right _ _ (by show (insCells q).length ≤ _; have : (insCells q).length = 7 := rfl; omega)]
    congr 2
    have : (insCells q).length = 7 := rfl
    omega
/-- A name is written into the row. -/
theorem name_put {w : World} {base b c : Nat} {P : List (InstrD × Value)} {i : Nat} {p : InstrD × Value} (h : w.ownsRow base 44 7 (.slice (some ⟨b, 0, none⟩) P.length c) P.length (P.flatMap insCells)) (hp : P[i]? = some p) (nm : ByteArray) (hn : nm.size ≤ maxLen) (hr : ∀ q ∈ P, RdInstr (some (upFrom base)) w q.1 q.2) :
    (w.setCell ⟨b, i * 7 + 3, none⟩ (.string nm)).ownsRow base 44 7 (.slice (some ⟨b, 0, none⟩) P.length c) P.length ((P.set i (nameI p nm)).flatMap insCells) ∧ (∀ q ∈ P.set i (nameI p nm), RdInstr (some (upFrom base)) (w.setCell ⟨b, i * 7 + 3, none⟩ (.string nm)) q.1 q.2) ∧ Trn (fun x => base ≤ x) w (w.setCell ⟨b, i * 7 + 3, none⟩ (.string nm)) := by
  have hst := (h.stored (i * 7 + 3) (.string nm)).1
  rw [ins_set P i p nm hp] at hst
  have hb : base ≤ b := own_ge h (k := b) rfl
  have hg : w.grownBy (w.setCell ⟨b, i * 7 + 3, none⟩ (.string nm)) (Value.slice (some ⟨b, 0, none⟩) P.length c).ownBlock := ⟨rfl, rfl, rfl, by simp, fun k _ hk => heap_setCell_other w ⟨b, i * 7 + 3, none⟩ k _ (fun e => hk (by show some k = some b; have e' : k = b := e; rw [e']))⟩
  refine ⟨hst, fun q hq => ?_, (setCell_trn w ⟨b, i * 7 + 3, none⟩ (.string nm)).mono fun x hx => by have e : x = b := hx; omega⟩
  rcases List.mem_or_eq_of_mem_set hq with hq | rfl
  · exact instr_grown h hg (hr q hq)
  · have h1 := instr_grown h hg (hr p (List.mem_of_getElem? hp))
    exact ⟨h1.1, h1.2.1, h1.2.2.1, h1.2.2.2.1, h1.2.2.2.2.1, h1.2.2.2.2.2.1, hn⟩
/-- Block b is a set of ints: a map[int]bool that holds true at each of l. -/
def ZSet (w : World) (b : Nat) (l : List Int) : Prop := ∃ L : List (Int × Value), ZIs w b L ∧ (∀ p ∈ L, p.2 = .bool true) ∧ ∀ x, x ∈ l ↔ ∃ p ∈ L, p.1 = x
theorem ZSet.made (w : World) : ZSet (w.alloc (.map #[] 0)) w.heap.size [] := ⟨[], ZIs.made w, by simp, by simp⟩
theorem ZSet.at {w w' : World} {b : Nat} {l : List Int} (h : ZSet w b l) (e : w'.heap[b]? = w.heap[b]?) : ZSet w' b l := by
  obtain ⟨L, h1, h2⟩ := h; exact ⟨L, h1.at e, h2⟩
theorem ZSet.lt {w : World} {b : Nat} {l : List Int} (h : ZSet w b l) : b < w.heap.size := by obtain ⟨L, h1, _⟩ := h; exact h1.lt
theorem ZSet.look {w : World} {b : Nat} {l : List Int} (h : ZSet w b l) (x : Int) (hx : (Lit.int .i64 x).wf = true) : (Instr.lookup 115 (.map (some b)) (.int .i64 x) false).run Tryz.prog w = .ok (.bool (decide (x ∈ l))) w := by
  obtain ⟨L, h1, h2, h3⟩ := h
  have hz : (zeroValue 4).run Tryz.prog w = .ok (.bool false) w := by kernel_rfl
  rcases h1.lookup (P := Tryz.prog) (t := 115) Tryz.underlying3 Tryz.underlying115 hz x hx false with ⟨g1, g2⟩ | ⟨v, g1, g2⟩
  · rw [decide_eq_false (fun hm => by obtain ⟨p, hp, e⟩ := (h3 x).1 hm; exact g2 p hp e)]; exact g1
  · rw [decide_eq_true ((h3 x).2 ⟨_, g2, rfl⟩)]
    have := h2 _ g2
    simp only at this
    rw [← this]; exact g1
theorem ZSet.put {w : World} {b : Nat} {l : List Int} (h : ZSet w b l) (x : Int) (hx : (Lit.int .i64 x).wf = true) : ∃ w', (Instr.mapUpdate 115 (.map (some b)) (.int .i64 x) (.bool true)).run Tryz.prog w = .ok () w' ∧ ZSet w' b (l ++ [x]) ∧ Trn (fun y => y = b) w w' := by
  obtain ⟨L, h1, h2, h3⟩ := h
  obtain ⟨w', L', g1, g2, g3, -, g4⟩ := h1.store (P := Tryz.prog) (t := 115) Tryz.underlying3 Tryz.underlying115 x hx (.bool true)
  refine ⟨w', g1, ⟨L', g2, ?_, ?_⟩, Trn.own g3⟩
  · rcases g4 with ⟨-, rfl⟩ | ⟨j, u, hj, rfl⟩
    · intro p hp
      rcases List.mem_append.1 hp with hp | hp
      · exact h2 p hp
      · rw [List.mem_singleton] at hp; subst hp; rfl
    · intro p hp
      rcases List.mem_or_eq_of_mem_set hp with hp | rfl
      · exact h2 p hp
      · rfl
  · intro y
    rw [List.mem_append, List.mem_singleton, h3]
    rcases g4 with ⟨-, rfl⟩ | ⟨j, u, hj, rfl⟩
    · constructor
      · rintro (⟨p, hp, e⟩ | rfl)
        · exact ⟨p, List.mem_append_left _ hp, e⟩
        · exact ⟨_, List.mem_append_right _ (List.mem_singleton.2 rfl), rfl⟩
      · rintro ⟨p, hp, e⟩
        rcases List.mem_append.1 hp with hp | hp
        · exact .inl ⟨p, hp, e⟩
        · rw [List.mem_singleton] at hp; subst hp; exact .inr e.symm
    · have hlt := (List.getElem?_eq_some_iff.1 hj).1
      constructor
      · rintro (⟨p, hp, e⟩ | rfl)
        · obtain ⟨i, hi, hpi⟩ := List.getElem_of_mem hp
          by_cases hij : j = i
          · subst hij
            refine ⟨(x, .bool true), List.mem_iff_getElem?.2 ⟨j, by rw [List.getElem?_set]; simp [hlt]⟩, ?_⟩
            rw [List.getElem?_eq_getElem hi, hpi] at hj
            simp only [Option.some.injEq] at hj
            rw [hj] at e
            exact e
          · exact ⟨p, List.mem_iff_getElem?.2 ⟨i, by rw [List.getElem?_set, if_neg hij, List.getElem?_eq_getElem hi, hpi]⟩, e⟩
        · exact ⟨(y, .bool true), List.mem_iff_getElem?.2 ⟨j, by rw [List.getElem?_set]; simp [hlt]⟩, rfl⟩
      · rintro ⟨p, hp, e⟩
        rcases List.mem_or_eq_of_mem_set hp with hp | rfl
        · exact .inl ⟨p, hp, e⟩
        · exact .inr e.symm
open Go.Maps (Keyed int_keyed)
open Go.WideShapes Go.ChangeMaps Go.MapKept Go.WideMaps Go.ChangeAt Go.RowKit Go.ChangeShapes
theorem run_minS {P : Program} (ats : Array TypeId) (ty : TypeId) (a b : Int) (w : World) : (Builtin.min_ ats ty #[.int .i64 a, .int .i64 b]).run P w = .ok (.int .i64 (min a b)) w := by
  have : (if b < a then b else a) = min a b := by split <;> omega
  simp [Builtin.min_, Builtin.min2, this]
theorem RdInstr.pastMap {w w' : World} {base mb : Nat} {x : InstrD} {av : Value} {es : Array MapEntry} {ck : Nat} (h : RdInstr (some (upFrom base)) w x av) (hm : w.heap[mb]? = some (.map es ck)) (t : Trn (fun y => y = mb) w w') : RdInstr (some (upFrom base)) w' x av := by
  have hb : ∀ T b, Free (some (upFrom base)) T w b → b ≠ mb := fun T b hf e => by
    obtain ⟨h1, cs, h2⟩ := hf _ rfl
    rw [e, hm] at h2
    cases h2
  refine RdInstr.map (S := fun _ => True) (fun T b _ hl hf => ?_) (fun T b o v _ hf hc => ?_) trivial h
  · intro k e
    cases e
    obtain ⟨h1, cs, h2⟩ := id (hf _ rfl)
    exact ⟨h1, cs, (t.block b hl (hb T b hf)).trans h2⟩
  · rw [World.cell?_of_block (w := w) (t.block b (block_lt_of_cell hc) (hb T b hf))]; exact hc
theorem own_upS {w : World} {base b2 : Nat} {e : TypeId} {size : Nat} {v : Value} {n : Nat} {xs : List Value} (h : w.ownsRow b2 e size v n xs) (hb : base ≤ b2) : w.ownsRow base e size v n xs := by
  obtain ⟨hl, h | ⟨g, cap, cur, rfl, hg, hc, hr⟩⟩ := h
  · exact ⟨hl, .inl h⟩
  · exact ⟨hl, .inr ⟨g, cap, cur, rfl, Nat.le_trans hb hg, hc, hr⟩⟩
theorem rd_label {w : World} {base i : Nat} (hi : i ≤ 900) : RdInstr (some (upFrom base)) w (labelI i) (.slice none 0 0) :=
  ⟨⟨none, 0, rfl, ⟨by simp [labelI], by simp [labelI]⟩, fun j s h => by simp [labelI] at h⟩, by unfold InU8 labelI; simp, by unfold InU8 labelI; simp, by unfold InI64 labelI; simp, by unfold InI64 labelI; simp, by show ByteArray.empty.size ≤ maxLen; unfold maxLen; decide, by
    have h := nm_ok 76 (n := i) hi
    unfold NmOk at h
    show (nmS 76 i).size ≤ maxLen
    unfold maxLen
    omega⟩
theorem range_at (c : List (InstrD × Int)) (i : Nat) : (List.range (i + 1)).flatMap (atS c) = (List.range i).flatMap (atS c) ++ atS c i := by
  rw [List.range_succ, List.flatMap_append]; simp
/-- The row that labelled puts together grows by one. -/
theorem out_grow {w2 z z' : World} {base : Nat} {v v' : Value} {Q : List (InstrD × Value)} {q : InstrD × Value} (ho : z.ownsRow w2.heap.size 44 7 v Q.length (Q.flatMap insCells)) (hr : ∀ p ∈ Q, RdInstr (some (upFrom base)) z p.1 p.2) (hq : RdInstr (some (upFrom base)) z q.1 q.2) (hb : Below w2.heap.size w2 z) (hbase : base ≤ w2.heap.size) (hg : z.grownBy z' v.ownBlock) (ho' : z'.ownsRow w2.heap.size 44 7 v' (Q.length + 1) (Q.flatMap insCells ++ insCells q)) :
    z'.ownsRow w2.heap.size 44 7 v' (Q ++ [q]).length ((Q ++ [q]).flatMap insCells) ∧ (∀ p ∈ Q ++ [q], RdInstr (some (upFrom base)) z' p.1 p.2) ∧ Below w2.heap.size w2 z' := by
  refine ⟨by simpa using ho', fun p hp => ?_, hb.grown hg hb.size (own_row_le ho)⟩
  rcases List.mem_append.1 hp with hp | hp
  · exact instr_grown (own_upS ho hbase) hg (hr p hp)
  · rw [List.mem_singleton] at hp; subst hp
    exact instr_grown (own_upS ho hbase) hg hq
/-- The numbers that are wanted by the first instructions. -/
def wantL (c : List (InstrD × Int)) (i : Nat) : List Int := (c.take i).filterMap fun x => (tgtS c.length x.2).map Int.ofNat
theorem wantL_step {c : List (InstrD × Int)} {i : Nat} {x : InstrD × Int} (h : c[i]? = some x) : wantL c (i + 1) = wantL c i ++ ((tgtS c.length x.2).map Int.ofNat).toList := by
  unfold wantL
  rw [List.take_add_one, h]
  simp only [Option.toList_some, List.filterMap_append]
  cases ht : tgtS c.length x.2 <;> simp [ht]
theorem wantL_all (c : List (InstrD × Int)) (i : Nat) : decide ((i : Int) ∈ wantL c c.length) = wantS c i := by
  unfold wantL wantS
  rw [List.take_length, Bool.eq_iff_iff, decide_eq_true_iff, List.any_eq_true, List.mem_filterMap]
  constructor
  · rintro ⟨x, hx, e⟩
    refine ⟨x, hx, ?_⟩
    cases ht : tgtS c.length x.2 with
    | none => rw [ht] at e; cases e
    | some v =>
      rw [ht] at e
      simp only [Option.map_some, Option.some.injEq] at e
      have : v = i := by have e' : ((v : Nat) : Int) = (i : Int) := e; omega
      rw [this]; simp
  · rintro ⟨x, hx, e⟩
    refine ⟨x, hx, ?_⟩
    have : tgtS c.length x.2 = some i := by simpa using e
    rw [this]; rfl
/-- The instructions with the first names written. -/
def fixed (c : List (InstrD × Int)) (i : Nat) : List InstrD := (c.take i).map (fixS c.length) ++ (c.drop i).map Prod.fst
theorem fixed_at {c : List (InstrD × Int)} {i : Nat} {x : InstrD × Int} (h : c[i]? = some x) : (fixed c i)[i]? = some x.1 ∧ fixed c (i + 1) = (fixed c i).set i (fixS c.length x) := by
  have hl := (List.getElem?_eq_some_iff.1 h).1
  have hd : c.drop i = x :: c.drop (i + 1) := by
    rw [List.drop_eq_getElem_cons hl]
    rw [List.getElem?_eq_getElem hl] at h
    simp only [Option.some.injEq] at h
    rw [h]
  have hlen : ((c.take i).map (fixS c.length)).length = i := by simp; omega
  unfold fixed
  constructor
  · rw [List.getElem?_append_right (by omega), hlen, hd]; simp
  · rw [List.take_add_one, h, hd, List.set_append_right _ _ (by omega), hlen]
    simp
set_option maxRecDepth 100000 in
set_option maxHeartbeats 6400000 in
theorem labelled_any (m s p par fn : Nat) (mn : Bool) (tv cv : Value) (base : Nat) (k0 o0 : Int) (d0 nm0 : ByteArray) (av0 : Value) (t0 : Int) (c : List (InstrD × Int)) (w : World) (hM : MkAt w m s p par fn mn tv cv k0 o0 d0 nm0 av0 t0) (hC : CodeAt w base cv tv c) (hcl : c.length ≤ 40) (hmb : m < base) (hbw : base ≤ w.heap.size) (hg : ∀ x ∈ c, GoodI x) :
    Calls Tryz.prog 34 #[.pointer (some ⟨m, 0, none⟩)] w fun e w' => ∃ v, e = .returned v ∧ RdInstrs (some (upFrom base)) w' v (labelledS c) ∧ Trn (fun x => base ≤ x) w w' := by
  obtain ⟨P, hP1, hP2, hP3, hP4⟩ := hC
  obtain ⟨xa, xc, rfl, _⟩ := own_read hP2
  obtain ⟨ya, yc, rfl, _⟩ := own_read hP4
  have hPl : P.length = c.length := by have := congrArg List.length hP1; simpa using this
  have hmm := @run_makeMap Tryz.prog
  have c5 := row_of hM 5 (.slice ya c.length yc) rfl
  have c6 := row_of hM 6 (.slice xa c.length xc) rfl
  have HM := Lib.hid hM
  have hmw : m < w.heap.size := (Array.getElem?_eq_some_iff.1 hM).1
  have hal := (Below.refl w.heap.size w).alloc (Nat.le_refl _) (.map #[] 0)
  have HM1 := Lib.hid ((hal.block m hmw).trans hM)
  have HB := Lib.hid hal
  have HO1 := Lib.hid (own_below hP2 hal)
  have HT1 := Lib.hid (own_below hP4 hal)
  have HR1 : Hid (∀ q ∈ P, RdInstr (some (upFrom base)) (w.alloc (.map #[] 0)) q.1 q.2) := fun q hq => (hP3 q hq).keep hal
  have HZ1 := Lib.hid (ZSet.made w)
  have HG := Lib.hid hg
  have HP1 : Hid (P.map Prod.fst = fixed c 0) := by show _ = _; rw [hP1]; simp [fixed]
  have d5 := cell_keep hal c5
  clear hM hP2 hP3 hP4 hal hg hP1
  go_enter Tryz.func34, Tryz.ntmps34
  go_upto_region 4 with fail
  obtain ⟨mb, hmb2⟩ : ∃ x, w.heap.size = x := ⟨_, rfl⟩
  rw [hmb2] at HZ1
  try rw [hmb2]
  have HMB := Lib.hid hmb2
  generalize w.alloc (.map #[] 0) = W at *
  clear c5 c6 d5 hmm hmb2
  have hmbm : m < mb := by have := HMB.out; omega
  have hbmb : base ≤ mb := by have := HMB.out; omega
  go_loopw [5, 6, 20] (fun _ _ v wr => ∃ (i : Nat) (P : List (InstrD × Value)), i ≤ c.length ∧ v = .int .i64 i ∧ P.length = c.length ∧ Hid (P.map Prod.fst = fixed c i) ∧ wr.ownsRow base 44 7 (.slice xa c.length xc) c.length (P.flatMap insCells) ∧ (∀ q ∈ P, RdInstr (some (upFrom base)) wr q.1 q.2) ∧ wr.ownsRow base 3 1 (.slice ya c.length yc) c.length (c.flatMap fun x => [.int .i64 x.2]) ∧ ZSet wr mb (wantL c i) ∧ wr.heap[m]? = some (.cells #[.pointer (some ⟨s, 0, none⟩), .pointer (some ⟨p, 0, none⟩), .int .i64 (par : Nat), .int .i64 (fn : Nat), .bool mn, (.slice ya c.length yc), (.slice xa c.length xc), .int .u8 k0, .int .u8 o0, .string d0, .string nm0, av0, .int .i64 0, .int .i64 0, .int .i64 t0] 88 (0, 0)) ∧ Trn (fun x => base ≤ x) w wr) (fun _ _ v _ => c.length - (intOf v).toNat)
  case atStart => exact ⟨0, P, Nat.zero_le _, rfl, hPl, HP1.out, HO1.out, HR1.out, HT1.out, HZ1.out, HM1.out, Trn.of_below HB.out⟩
  case round =>
    obtain ⟨i, P, hi, rfl, hPl, HPF, ho, hr, hot, hz, hm, ht⟩ := hrel
    obtain ⟨w2, rfl⟩ : ∃ x : World, x = wr := ⟨_, rfl⟩
    have HO := Lib.hid ho
    have HR := Lib.hid hr
    have HOT := Lib.hid hot
    have HZ := Lib.hid hz
    have HM2 := Lib.hid hm
    have HTR := Lib.hid ht
    clear ho hr hot hz hm ht
    by_cases hlt : i < c.length
    · have hlt1 : (i : Int) < (c.length : Int) := by omega
      obtain ⟨⟨x, xt⟩, hx⟩ : ∃ x, c[i]? = some x := ⟨_, List.getElem?_eq_getElem hlt⟩
      have hgx := HG.out _ (List.mem_of_getElem? hx)
      obtain ⟨tg, tc, hte, -, htc⟩ := own_at HOT.out (by rw [flat_length (fun x : InstrD × Int => [Value.int .i64 x.2]) 1 (fun _ => rfl)]; omega)
      simp only [Value.slice.injEq] at hte
      obtain ⟨rfl, -, -⟩ := hte
      have ct := htc (i * 1 + 0) (.int .i64 xt) (by rw [flat_get (fun x : InstrD × Int => [Value.int .i64 x.2]) 1 (fun _ => rfl) c i 0 _ hx (by omega)]; rfl)
      have ct' : w2.cell? ⟨tg, i, none⟩ = some (.int .i64 xt) := by simpa using ct
      have htx : -1 ≤ xt ∧ xt ≤ 800 := hgx.t
      obtain ⟨hf1, hf2⟩ := fixed_at hx
      have hws := wantL_step hx
      clear htc ct
      by_cases hx0 : 0 ≤ xt
      · have hx1 : (0 : Int) ≤ xt := hx0
        obtain ⟨tt, rfl⟩ : ∃ tt : Nat, xt = tt := ⟨xt.toNat, by omega⟩
        obtain ⟨q, hq⟩ : ∃ q, min tt c.length = q := ⟨_, rfl⟩
        have hql : q ≤ 40 := by omega
        have hmin := @run_minS Tryz.prog #[3, 3] 3 (tt : Int) (c.length : Int)
        have hmq : min (tt : Int) (c.length : Int) = (q : Int) := by omega
        rw [hmq] at hmin
        have hwf : (Lit.int .i64 (q : Int)).wf = true := by simp [Lit.wf, IntKind.min, IntKind.max, IntKind.bits, IntKind.signed]; omega
        obtain ⟨w3, e3, z3, t3⟩ := HZ.out.put (q : Int) hwf
        obtain ⟨ns, hns⟩ : ∃ y, nmS 76 q = y := ⟨_, rfl⟩
        have htg : tgtS c.length (tt : Int) = some q := by unfold tgtS; rw [if_pos hx1]; simp; omega
        have hfx : fixS c.length (x, (tt : Int)) = { x with name := ns } := by unfold fixS; simp only [htg]; rw [hns]
        have HW3 : Hid (wantL c (i + 1) = wantL c i ++ [(q : Int)]) := by show _ = _; rw [hws]; simp only [htg]; rfl
        obtain ⟨⟨px, pv⟩, hpx⟩ : ∃ p, P[i]? = some p := ⟨_, List.getElem?_eq_getElem (by omega)⟩
        have hpe : px = x := by
          have h1 : (P.map Prod.fst)[i]? = some px := by rw [List.getElem?_map, hpx]; rfl
          rw [HPF.out, hf1] at h1
          exact (Option.some.inj h1).symm
        subst hpe
        have HF3 : Hid ((P.set i (nameI (px, pv) ns)).map Prod.fst = fixed c (i + 1)) := by
          show _ = _
          rw [hf2, hfx, List.map_set, HPF.out]
          rfl
        obtain ⟨cg, cgc, hce, -, hcc⟩ := own_at HO.out (by rw [flat_length insCells 7 (fun _ => rfl)]; omega)
        simp only [Value.slice.injEq] at hce
        obtain ⟨rfl, -, rfl⟩ := hce
        have cn := hcc (i * 7 + 3) (.string px.name) (by rw [flat_get insCells 7 (fun _ => rfl) P i 3 _ hpx (by omega)]; rfl)
        have hcgm : base ≤ cg := own_ge HO.out (k := cg) rfl
        have hcgb : cg ≠ mb := by
          intro e
          obtain ⟨cs, h1⟩ := own_rowS HO.out (b := cg) rfl
          obtain ⟨L, ⟨es, ck, h2, -⟩, -⟩ := HZ.out
          rw [e, h2] at h1
          cases h1
        have htgb : tg ≠ mb := by
          intro e
          obtain ⟨cs, h1⟩ := own_rowS HOT.out (b := tg) rfl
          obtain ⟨L, ⟨es, ck, h2, -⟩, -⟩ := HZ.out
          rw [e, h2] at h1
          cases h1
        have HO3 := Lib.hid (own_trn HO.out t3 (fun k hk e => by simp only [Value.ownBlock, Option.some.injEq] at hk; have e' : k = mb := e; omega))
        have HOT3 := Lib.hid (own_trn HOT.out t3 (fun k hk e => by simp only [Value.ownBlock, Option.some.injEq] at hk; have e' : k = mb := e; omega))
        have HM3 := Lib.hid (t3.heap HM2.out (by show ¬ m = mb; omega))
        have HZ3 := Lib.hid z3
        have HT3 := Lib.hid (HTR.out.trans (t3.mono fun y e => by have e' : y = mb := e; show base ≤ y; omega))
        have HR3 : Hid (∀ q ∈ P, RdInstr (some (upFrom base)) w3 q.1 q.2) := fun q hq => by
          obtain ⟨L, ⟨es, ck, h2, -⟩, -⟩ := HZ.out
          exact (HR.out q hq).pastMap h2 t3
        clear hws hf1 hf2 hgx hx hfx htg hcc cn z3 t3
        go_upto_region 9 with fail
        have l6 := keepS_cell (S := [m]) (by simp) (row_of HM3.out 6 (.slice (some ⟨cg, 0, none⟩) c.length xc) rfl)
        refine wp_region_mixS [m] (.one [0, 1, 2, 3, 4, 5] 6 (.one [] 7 (tailOf [8, 9, 10]))) (fun j => decide (8 ≤ j)) (by kernel_rfl) (by kernel_rfl) rfl (by kernel_rfl) (fun _ d _ _ _ h => by cases d <;> exact h) ?_
        have HBd : Hid (Below w3.heap.size w3 w3.drew) := (Below.refl _ _).drew
        generalize w3.drew = wn at *
        have hmx := (Array.getElem?_eq_some_iff.1 HM3.out).1
        have ONE : Hid (∀ z : World, z.heap[m]? = w3.heap[m]? → ∀ b ∈ [m], z.heap[b]? = w3.heap[b]?) := fun z hz b hb => by
          simp only [List.mem_cons, List.not_mem_nil, or_false] at hb
          subst hb
          exact hz
        have HKn := Lib.hid (ONE.out wn (HBd.out.block _ hmx))
        refine mix_one (by simp only [opsOf, List.filterMap_cons, List.filterMap_nil, List.getElem?_toArray, List.getElem?_cons_succ, List.getElem?_cons_zero]; rfl) ⟨_, keepS_of HKn.out⟩ ?_
        change wpQuiet _ _ _ _ [_, _, _, _, _, _] _
        (repeat (go_big_quiet_step (fail)))
        clear l6
        refine wpQuiet_nil ?_
        refine mix_step rfl ?_
        go_wp2_with fail
        have hal := (Below.refl wn.heap.size wn).alloc (Nat.le_refl _) (.cells #[.int .i64 (q : Nat)] 3)
        have HN := name_any 76 q (by omega) wn.heap.size _ (heap_alloc_new wn (.cells #[.int .i64 (q : Nat)] 3))
        rw [hns] at HN
        have HN := Lib.hid HN
        have HB4 := Lib.hid (bcomp HBd.out hal)
        have HK4 := Lib.hid (ONE.out (wn.alloc (.cells #[.int .i64 (q : Nat)] 3)) (HB4.out.block _ hmx))
        have hnsz : ns.size ≤ maxLen := by
          have h := nm_ok 76 (n := q) (by omega)
          rw [hns] at h
          unfold NmOk at h
          unfold maxLen
          omega
        clear hal hns
        (first | refine ⟨fun _ => ⟨_, keepS_of HK4.out⟩, ?_⟩ | refine ⟨⟨_, keepS_of HK4.out⟩, ?_⟩)
        refine mix_now ?_
        refine mix_step rfl ?_
        go_wp2_with (go_at_call 22; refine HN.out.mono ?_; rintro e z ⟨rfl, rfl⟩)
        (first | refine ⟨fun _ => ⟨_, keepS_of HK4.out⟩, ?_⟩ | refine ⟨⟨_, keepS_of HK4.out⟩, ?_⟩)
        refine mix_tail [8, 9, 10] [_, _, _] _ _ rfl rfl ?_
        have ho4 : (wn.alloc (.cells #[.int .i64 (q : Nat)] 3)).ownsRow base 44 7 (.slice (some ⟨cg, 0, none⟩) P.length xc) P.length (P.flatMap insCells) := by rw [hPl]; exact own_below HO3.out HB4.out
        obtain ⟨cs4, hcs4⟩ := own_rowS ho4 (b := cg) rfl
        obtain ⟨cg2, cgc2, hce, -, hcc⟩ := own_at ho4 (by rw [flat_length insCells 7 (fun _ => rfl)]; omega)
        simp only [Value.slice.injEq] at hce
        obtain ⟨hce1, -, -⟩ := hce
        simp only [Option.some.injEq, Addr.mk.injEq, and_true] at hce1
        subst hce1
        have c3 := hcc (i * 7 + 3) (.string px.name) (by rw [flat_get insCells 7 (fun _ => rfl) P i 3 _ hpx (by omega)]; rfl)
        rw [Nat.zero_add] at c3
        have f3 := frozen_of_row _ cg (i * 7 + 3) _ _ hcs4
        obtain ⟨r1, r2, r3⟩ := name_put ho4 hpx ns hnsz (fun q hq => (HR3.out q hq).keep HB4.out)
        rw [hPl] at r1
        have R1 := Lib.hid r1
        have R2 := Lib.hid r2
        have R3 := Lib.hid r3
        have HM4 := Lib.hid (((setCell_trn (wn.alloc (.cells #[.int .i64 (q : Nat)] 3)) ⟨cg, i * 7 + 3, none⟩ (.string ns))).heap ((HB4.out.block _ hmx).trans HM3.out) (by show ¬ m = cg; omega))
        have HOT4 := Lib.hid (own_trn (own_below HOT3.out HB4.out) (setCell_trn (wn.alloc (.cells #[.int .i64 (q : Nat)] 3)) ⟨cg, i * 7 + 3, none⟩ (.string ns)) (fun k hk e => own_apart HO3.out HOT3.out (by decide) hk (by have e' : k = cg := e; rw [e']; rfl)))
        have HZ4 : Hid (ZSet ((wn.alloc (.cells #[.int .i64 (q : Nat)] 3)).setCell ⟨cg, i * 7 + 3, none⟩ (.string ns)) mb (wantL c i ++ [(q : Int)])) := (HZ3.out.at (HB4.out.block _ HZ3.out.lt)).at (heap_setCell_other _ ⟨cg, i * 7 + 3, none⟩ mb _ (by simpa using hcgb.symm))
        have HT4 := Lib.hid ((HT3.out.trans (Trn.of_below HB4.out)).trans R3.out)
        have hPl2 : (P.set i (nameI (px, pv) ns)).length = c.length := by rw [List.length_set]; exact hPl
        clear ho4 hcs4 hcc r1 r2 r3 HN HK4 HKn HBd ONE
        go_wp2_with fail
        clear c3 f3
        go_roundw
        case rel => exact ⟨i + 1, P.set i (nameI (px, pv) ns), by omega, by go_num, hPl2, HF3.out, R1.out, R2.out, HOT4.out, by rw [HW3.out]; exact HZ4.out, HM4.out, HT4.out⟩
        case measure => simp [intOf]; omega
      · have hx1 : ¬ (0 : Int) ≤ xt := hx0
        have HF2 : Hid (P.map Prod.fst = fixed c (i + 1)) := by
          show _ = _
          rw [hf2, HPF.out]
          have e : fixS c.length (x, xt) = x := by unfold fixS tgtS; rw [if_neg hx0]
          rw [e]
          apply List.ext_getElem?
          intro j
          rw [List.getElem?_set]
          split
          · rename_i e1; subst e1; rw [hf1]; simp; exact (List.getElem?_eq_some_iff.1 hf1).1
          · rfl
        have HW2 : Hid (wantL c (i + 1) = wantL c i) := by show _ = _; rw [hws]; unfold tgtS; rw [if_neg hx0]; simp
        clear hws hf1 hf2 hgx hx
        go_wp2_with fail
        go_roundw
        case rel => exact ⟨i + 1, P, by omega, by go_num, hPl, HF2.out, HO.out, HR.out, HOT.out, by rw [HW2.out]; exact HZ.out, HM2.out, HTR.out⟩
        case measure => simp [intOf]; omega
    · obtain rfl : i = c.length := by omega
      have hlt1 : ¬ ((c.length : Nat) : Int) < (c.length : Int) := by omega
      have HPA : Hid (P.map Prod.fst = c.map (fixS c.length)) := by show _ = _; rw [HPF.out]; simp [fixed]
      have hbw2 : base ≤ w2.heap.size := Nat.le_trans hbw HTR.out.size
      obtain ⟨iI, hiI, hzI0, hzI1, hzI2⟩ := info_parts infoInstr
      clear HPF hi
      go_wp2_with fail
      go_loopw [7, 8, 45] (fun v7 _ v wr => ∃ (i : Nat) (Q : List (InstrD × Value)), i ≤ c.length + 1 ∧ v = .int .i64 i ∧ Hid (Q.map Prod.fst = (List.range i).flatMap (atS c)) ∧ Q.length ≤ 2 * i ∧ wr.ownsRow w2.heap.size 44 7 v7 Q.length (Q.flatMap insCells) ∧ (∀ q ∈ Q, RdInstr (some (upFrom base)) wr q.1 q.2) ∧ Below w2.heap.size w2 wr) (fun _ _ v _ => c.length + 1 - (intOf v).toNat)
      case atStart => exact ⟨0, [], Nat.zero_le _, rfl, rfl, Nat.le_refl _, World.ownsRow_nil _ _ _ _, (fun q hq => nomatch hq), Below.refl _ _⟩
      case round =>
        obtain ⟨i, Q, hi, rfl, HQ, hql, ho, hr, hb⟩ := hrel
        obtain ⟨w4, rfl⟩ : ∃ x : World, x = wr := ⟨_, rfl⟩
        have HOA := Lib.hid ho
        have HRA := Lib.hid hr
        have HBA := Lib.hid hb
        have hzz : ZSet w4 mb (wantL c c.length) := HZ.out.at (hb.block _ HZ.out.lt)
        have hm4 := (hb.block m (Array.getElem?_eq_some_iff.1 HM2.out).1).trans HM2.out
        clear ho hr hb
        by_cases hlt : i < c.length + 1
        · have hlt1 : (i : Int) < (c.length : Int) + 1 := by omega
          have hlk := hzz.look (i : Int) (by simp [Lit.wf, IntKind.min, IntKind.max, IntKind.bits, IntKind.signed]; omega)
          rw [wantL_all] at hlk
          obtain ⟨wi, hwi⟩ : ∃ b, wantS c i = b := ⟨_, rfl⟩
          rw [hwi] at hlk
          have HWI := Lib.hid hwi
          clear hwi hzz
          go_upto_if 50 with fail
          go_cut [7] from 51 to 58 (fun v7 wx => ∃ Q : List (InstrD × Value), Hid (Q.map Prod.fst = (List.range i).flatMap (atS c) ++ (if wantS c i then [labelI i] else [])) ∧ Q.length ≤ 2 * i + 1 ∧ wx.ownsRow w2.heap.size 44 7 v7 Q.length (Q.flatMap insCells) ∧ (∀ q ∈ Q, RdInstr (some (upFrom base)) wx q.1 q.2) ∧ Below w2.heap.size w2 wx)
          case first =>
            cases wi
            · go_wp2_with fail
              go_meet
              exact ⟨Q, (by show _ = _; rw [HQ.out, HWI.out]; simp), by omega, HOA.out, HRA.out, HBA.out⟩
            · have HN := Lib.hid (name_any 76 i (by omega) w4.heap.size _ (heap_alloc_new w4 (.cells #[.int .i64 (i : Nat)] 3)))
              have HOZ0 : Hid (∀ z : World, w4.alloc (.cells #[.int .i64 (i : Nat)] 3) = z → z.ownsRow w2.heap.size 44 7 u7 Q.length (Q.flatMap insCells) ∧ Below w4.heap.size w4 z) := by
                rintro z rfl
                exact ⟨HOA.out.alloc _, (Below.refl _ _).alloc (Nat.le_refl _) _⟩
              go_wp2_with (first | (go_at_call 22; refine HN.out.mono ?_; rintro e z ⟨rfl, hz⟩; have hzz2 := HOZ0.out z hz; have HOZ := Lib.hid hzz2.1; have HBZ := Lib.hid hzz2.2; clear hzz2; clear hz) | (at_builtin; refine wpList_append_own _ rfl (.tmp 51) (.tmp 56) 26 rfl w2.heap.size 44 iI (.agg #[.int .u8 0, .int .u8 0, .string ⟨#[]⟩, .string ⟨#[]⟩, .slice none 0 0, .int .i64 0, .int .i64 0]) 7 80 Tryz.underlying26 hiI hzI0 hzI1 hzI2 rfl (by decide) _ _ _ rfl (HOZ.out.alloc _) ⟨z.heap.size, 0, none⟩ 1 1 (insCells (labelI i, .slice none 0 0)) rfl rfl (many_new _ _ _) ?pa1 ?pb1 ?pc1 ?pd1 ?_))
              case pa1 => intro u hu; simp [insCells] at hu; rcases hu with rfl | rfl | rfl | rfl | rfl | rfl | rfl <;> rfl
              case pb1 => unfold maxLen; omega
              case pc1 => omega
              case pd1 => have := HBA.out.size; have := HBZ.out.size; simp; omega
              · intro v' w6 hown' hgrow _
                have hbz : Below w2.heap.size w2 z := HBA.out.trans (HBZ.out.mono HBA.out.size)
                have hb2 : Below w2.heap.size w2 (z.alloc (.cells (insCells (labelI i, .slice none 0 0)).toArray 44)) := hbz.alloc hbz.size _
                have hk : Below w4.heap.size w4 (z.alloc (.cells (insCells (labelI i, .slice none 0 0)).toArray 44)) := HBZ.out.alloc HBZ.out.size _
                have hout := out_grow (HOZ.out.alloc _) (fun p hp => (HRA.out p hp).keep hk) (rd_label (base := base) (i := i) (by omega)) hb2 hbw2 hgrow hown'
                have HOUT := Lib.hid hout
                clear hown' hgrow hb2 hk hout
                go_wp2_with fail
                go_meet
                exact ⟨Q ++ [(labelI i, .slice none 0 0)], (by show _ = _; rw [List.map_append, HQ.out, HWI.out]; simp), by simp; omega, HOUT.out.1, HOUT.out.2.1, HOUT.out.2.2⟩
          case rest =>
            generalize wc = w5 at *
            obtain ⟨Q2, HQ2, hq2, ho2, hr2, hb2⟩ := hcut
            have HO5 := Lib.hid ho2
            have HR5 := Lib.hid hr2
            have HB5 := Lib.hid hb2
            clear hlk hm4 ho2 hr2 hb2 HOA HRA HBA
            have hbase5 : w2.heap.size ≤ w5.heap.size := HB5.out.size
            by_cases hin : i < c.length
            · have hin1 : (i : Int) < (c.length : Int) := by omega
              obtain ⟨x, hx⟩ : ∃ x, c[i]? = some x := ⟨_, List.getElem?_eq_getElem hin⟩
              obtain ⟨⟨px, pv⟩, hpx⟩ : ∃ p, P[i]? = some p := ⟨_, List.getElem?_eq_getElem (by omega)⟩
              have hpe : px = fixS c.length x := by
                have h1 : (P.map Prod.fst)[i]? = some px := by rw [List.getElem?_map, hpx]; rfl
                rw [HPA.out, List.getElem?_map, hx] at h1
                exact (Option.some.inj h1).symm
              have hhi : (atS c i) = (if wantS c i then [labelI i] else []) ++ [px] := by unfold atS; rw [hx, hpe]; rfl
              obtain ⟨cg, cgc, hce, -, hcc⟩ := own_at (own_below HO.out HB5.out) (by rw [flat_length insCells 7 (fun _ => rfl)]; omega)
              simp only [Value.slice.injEq] at hce
              obtain ⟨rfl, -, rfl⟩ := hce
              have q0 := hcc (i * 7 + 0) (.int .u8 px.kind) (by rw [flat_get insCells 7 (fun _ => rfl) P i 0 _ hpx (by omega)]; rfl)
              have q1 := hcc (i * 7 + 1) (.int .u8 px.op) (by rw [flat_get insCells 7 (fun _ => rfl) P i 1 _ hpx (by omega)]; rfl)
              have q2 := hcc (i * 7 + 2) (.string px.dst) (by rw [flat_get insCells 7 (fun _ => rfl) P i 2 _ hpx (by omega)]; rfl)
              have q3 := hcc (i * 7 + 3) (.string px.name) (by rw [flat_get insCells 7 (fun _ => rfl) P i 3 _ hpx (by omega)]; rfl)
              have q4 := hcc (i * 7 + 4) pv (by rw [flat_get insCells 7 (fun _ => rfl) P i 4 _ hpx (by omega)]; rfl)
              have q5 := hcc (i * 7 + 5) (.int .i64 px.line) (by rw [flat_get insCells 7 (fun _ => rfl) P i 5 _ hpx (by omega)]; rfl)
              have q6 := hcc (i * 7 + 6) (.int .i64 px.col) (by rw [flat_get insCells 7 (fun _ => rfl) P i 6 _ hpx (by omega)]; rfl)
              simp only [Nat.zero_add, Nat.add_zero] at q0 q1 q2 q3 q4 q5 q6
              have hm5 := row_of ((HB5.out.block m (Array.getElem?_eq_some_iff.1 HM2.out).1).trans HM2.out) 6 (.slice (some ⟨cg, 0, none⟩) c.length xc) rfl
              have hrp := (HR.out _ (List.mem_of_getElem? hpx)).keep HB5.out
              obtain ⟨ra, rc, hpv, -⟩ := id hrp.1
              try simp only at hpv
              subst hpv
              have HRP := Lib.hid hrp
              have HHI := Lib.hid hhi
              clear hcc hpe hhi hrp hx
              go_wp2_with (at_builtin; refine wpList_append_own _ rfl (.tmp 61) (.tmp 69) 26 rfl w2.heap.size 44 iI (.agg #[.int .u8 0, .int .u8 0, .string ⟨#[]⟩, .string ⟨#[]⟩, .slice none 0 0, .int .i64 0, .int .i64 0]) 7 80 Tryz.underlying26 hiI hzI0 hzI1 hzI2 rfl (by decide) _ _ _ rfl (HO5.out.alloc _) ⟨w5.heap.size, 0, none⟩ 1 1 (insCells (px, Value.slice ra px.args.length rc)) rfl rfl (many_new _ _ _) ?pa2 ?pb2 ?pc2 ?pd2 ?_)
              case pa2 => intro u hu; simp [insCells] at hu; have h1 := rdArgs_one HRP.out.1; rcases hu with rfl | rfl | rfl | rfl | rfl | rfl | rfl <;> first | rfl | exact h1
              case pb2 => unfold maxLen; omega
              case pc2 => omega
              case pd2 => first | omega | (simp; omega)
              · intro v' w6 hown' hgrow _
                have hb6 : Below w2.heap.size w2 (w5.alloc (.cells (insCells (px, Value.slice ra px.args.length rc)).toArray 44)) := HB5.out.alloc HB5.out.size _
                have hk : Below w5.heap.size w5 (w5.alloc (.cells (insCells (px, Value.slice ra px.args.length rc)).toArray 44)) := (Below.refl _ _).alloc (Nat.le_refl _) _
                have hout := out_grow (HO5.out.alloc _) (fun p hp => (HR5.out p hp).keep hk) (HRP.out.keep hk) hb6 hbw2 hgrow hown'
                have HOUT := Lib.hid hout
                have HQ6 : Hid ((Q2 ++ [(px, Value.slice ra px.args.length rc)]).map Prod.fst = (List.range (i + 1)).flatMap (atS c)) := by
                  show _ = _
                  rw [List.map_append, HQ2.out, range_at, HHI.out, List.append_assoc]
                  rfl
                clear hown' hgrow hb6 hk hout q0 q1 q2 q3 q4 q5 q6 hm5
                go_wp2_with fail
                go_roundw
                case rel => exact ⟨i + 1, Q2 ++ [(px, Value.slice ra px.args.length rc)], by omega, by go_num, HQ6.out, by simp; omega, HOUT.out.1, HOUT.out.2.1, HOUT.out.2.2⟩
                case measure => simp [intOf]; omega
            · have hin1 : ¬ (i : Int) < (c.length : Int) := by omega
              have HQ6 : Hid (Q2.map Prod.fst = (List.range (i + 1)).flatMap (atS c)) := by
                show _ = _
                rw [HQ2.out, range_at]
                unfold atS
                rw [List.getElem?_eq_none (by omega)]
                simp
              go_wp2_with fail
              go_roundw
              case rel => exact ⟨i + 1, Q2, by omega, by go_num, HQ6.out, by omega, HO5.out, HR5.out, HB5.out⟩
              case measure => simp [intOf]; omega
        · obtain rfl : i = c.length + 1 := by omega
          have hlt1 : ¬ (((c.length + 1 : Nat)) : Int) < (c.length : Int) + 1 := by omega
          have HLA : Hid (Q.map Prod.fst = labelledS c) := HQ
          go_wp2_with fail
          go_ret
          refine ⟨_, rfl, ?_, HTR.out.trans (Trn.of_below HBA.out)⟩
          have hlen : Q.length = (labelledS c).length := by rw [← HLA.out]; simp
          exact own_instrs HLA.out (by rw [← hlen]; exact own_upS HOA.out hbw2) (by rw [← hlen]; omega) HRA.out
end Go.Proofs.YtfdinncgncbmfaaGreatDoor
