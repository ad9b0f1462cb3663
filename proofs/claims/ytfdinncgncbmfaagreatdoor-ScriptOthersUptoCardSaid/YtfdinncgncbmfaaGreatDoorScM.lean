/- Contracts of the maker's methods, each of which makes an instruction. Conditions: the maker's block, the bytes and the program's block hold what is said. -/
import Derived.Test.YtfdinncgncbmfaaGreatDoorScN
set_option linter.unusedVariables false
set_option linter.unusedSimpArgs false
set_option linter.unnecessarySimpa false
namespace Go.Proofs.YtfdinncgncbmfaaGreatDoor
open Go.ChangeShapes Go.WideShapes Go.ChangeAt Go.RowKit
/-- What a maker's method may turn. -/
def mS (m s base : Nat) (x : Nat) : Prop := x = m ∨ x = s ∨ base ≤ x
/-- The maker as it stands: its instruction so far, its target, and the bytes that are left. -/
structure MS (w : World) (m s p par fn : Nat) (mn : Bool) (tv cv : Value) (base : Nat) (k o : Int) (d nm : ByteArray) (args : List ArgD) (t : Int) (l : List UInt8) : Prop where
  box : ∃ av, MkAt w m s p par fn mn tv cv k o d nm av t ∧ w.ownsRow base 47 2 av args.length (args.flatMap argCells)
  src : SrcAt w s l
  hne : m ≠ s
  hm : m < base
  hs : s < base
  hb : base ≤ w.heap.size
  hp : par ≤ 100
section
variable {w : World} {m s p par fn : Nat} {mn : Bool} {tv cv : Value} {base : Nat} {k o : Int} {d nm : ByteArray} {args : List ArgD} {t : Int} {l : List UInt8}
theorem MS.below {w' : World} (h : MS w m s p par fn mn tv cv base k o d nm args t l) (hb : Below w.heap.size w w') : MS w' m s p par fn mn tv cv base k o d nm args t l := by
  obtain ⟨av, h1, h2⟩ := h.box
  exact ⟨⟨av, (hb.block m (Array.getElem?_eq_some_iff.1 h1).1).trans h1, own_below h2 hb⟩, (hb.block s h.src.lt).trans h.src, h.hne, h.hm, h.hs, Nat.le_trans h.hb hb.size, h.hp⟩
theorem MS.bytes {w' : World} {l' : List UInt8} (h : MS w m s p par fn mn tv cv base k o d nm args t l) (ht : Trn (fun x => x = s) w w') (hs : SrcAt w' s l') : MS w' m s p par fn mn tv cv base k o d nm args t l' := by
  obtain ⟨av, h1, h2⟩ := h.box
  exact ⟨⟨av, ht.heap h1 h.hne, own_trn h2 ht (fun k hk e => by have := own_ge h2 hk; have := h.hs; have e' : k = s := e; omega)⟩, hs, h.hne, h.hm, h.hs, Nat.le_trans h.hb ht.size, h.hp⟩
theorem ms_put {i : Nat} {v : Value} {k' o' : Int} {d' nm' : ByteArray} {t' : Int} (h : MS w m s p par fn mn tv cv base k o d nm args t l)
    (he : ∀ av, #[.pointer (some ⟨s, 0, none⟩), .pointer (some ⟨p, 0, none⟩), .int .i64 (par : Nat), .int .i64 (fn : Nat), .bool mn, tv, cv, .int .u8 k, .int .u8 o, .string d, .string nm, av, .int .i64 0, .int .i64 0, .int .i64 t].setIfInBounds i v = #[.pointer (some ⟨s, 0, none⟩), .pointer (some ⟨p, 0, none⟩), .int .i64 (par : Nat), .int .i64 (fn : Nat), .bool mn, tv, cv, .int .u8 k', .int .u8 o', .string d', .string nm', av, .int .i64 0, .int .i64 0, .int .i64 t']) : MS (w.setCell ⟨m, i, none⟩ v) m s p par fn mn tv cv base k' o' d' nm' args t' l := by
  obtain ⟨av, h1, h2⟩ := h.box
  refine ⟨⟨av, ?_, own_trn h2 (setCell_trn w ⟨m, i, none⟩ v) (fun k hk e => by have := own_ge h2 hk; have := h.hm; have e' : k = m := e; omega)⟩, ?_, h.hne, h.hm, h.hs, by simpa using h.hb, h.hp⟩
  · show _ = _
    rw [heap_setCell_same _ _ _ _ _ _ h1]
    try simp only [Nat.zero_add]
    rw [he av]
  · show _ = _
    rw [heap_setCell_other _ _ _ _ (by simpa using h.hne.symm)]
    exact h.src
theorem MS.kind (h : MS w m s p par fn mn tv cv base k o d nm args t l) (k' : Int) : MS (w.setCell ⟨m, 7, none⟩ (.int .u8 k')) m s p par fn mn tv cv base k' o d nm args t l := ms_put h fun _ => rfl
theorem MS.op (h : MS w m s p par fn mn tv cv base k o d nm args t l) (o' : Int) : MS (w.setCell ⟨m, 8, none⟩ (.int .u8 o')) m s p par fn mn tv cv base k o' d nm args t l := ms_put h fun _ => rfl
theorem MS.name (h : MS w m s p par fn mn tv cv base k o d nm args t l) (n' : ByteArray) : MS (w.setCell ⟨m, 10, none⟩ (.string n')) m s p par fn mn tv cv base k o d n' args t l := ms_put h fun _ => rfl
theorem MS.target (h : MS w m s p par fn mn tv cv base k o d nm args t l) (t' : Int) : MS (w.setCell ⟨m, 14, none⟩ (.int .i64 t')) m s p par fn mn tv cv base k o d nm args t' l := ms_put h fun _ => rfl
theorem put_trn (w : World) (m s base i : Nat) (v : Value) : Trn (mS m s base) w (w.setCell ⟨m, i, none⟩ v) := (setCell_trn w ⟨m, i, none⟩ v).mono fun _ h => .inl h
theorem src_trn {w' : World} (h : Trn (fun x => x = s) w w') : Trn (mS m s base) w w' := h.mono fun _ h => .inr (.inl h)
theorem dst_st (h : MS w m s p par fn mn tv cv base k o d nm args t l) :
    Calls Tryz.prog 89 #[.pointer (some ⟨m, 0, none⟩)] w fun e w' => e = .returned (.tuple #[]) ∧ MS w' m s p par fn mn tv cv base k o (dstS l).1 nm args t (dstS l).2 ∧ Trn (mS m s base) w w' := by
  obtain ⟨av, h1, h2⟩ := h.box
  refine (dst_any m s p par fn mn tv cv k o d nm av t l w h1 h.src h.hne).mono ?_
  rintro e w' ⟨rfl, a1, a2, a3⟩
  refine ⟨rfl, ⟨⟨av, a1, own_trn h2 a3 (fun k hk e => by have := own_ge h2 hk; have := h.hm; have := h.hs; rcases e with e | e <;> (subst e; omega))⟩, a2, h.hne, h.hm, h.hs, Nat.le_trans h.hb a3.size, h.hp⟩, a3.mono fun i e => e.elim .inl fun e => .inr (.inl e)⟩
theorem opd_st (h : MS w m s p par fn mn tv cv base k o d nm args t l) (ha : args.length ≤ 100) :
    Calls Tryz.prog 90 #[.pointer (some ⟨m, 0, none⟩)] w fun e w' => e = .returned (.tuple #[]) ∧ MS w' m s p par fn mn tv cv base k o d nm (args ++ [(opdS par l).1]) t (opdS par l).2 ∧ Trn (mS m s base) w w' := by
  obtain ⟨av, h1, h2⟩ := h.box
  refine (operand_any m s p par fn mn tv cv k o d nm av t args base l w h1 h.src h.hne h2 h.hm h.hs h.hb h.hp ha).mono ?_
  rintro e w' ⟨rfl, av', a1, a2, a3, a4⟩
  exact ⟨rfl, ⟨⟨av', a1, by simpa using a2⟩, a3, h.hne, h.hm, h.hs, Nat.le_trans h.hb a4.size, h.hp⟩, a4⟩
end
/-- The program's block as the maker's methods look at it. -/
structure EnvAt (w : World) (m s p base : Nat) (E : EnvS) : Prop where
  box : ∃ wd ca cc aa ac fa fc mv, w.heap[p]? = some (.cells #[.int .i64 wd, .slice ca E.chans cc, .slice aa E.arrs ac, .slice fa E.calls.length fc, mv] 28 (0, 0)) ∧
    ∀ i n, E.calls[i]? = some n → ∃ b q pa pc, fa = some ⟨b, q, none⟩ ∧ w.cell? ⟨b, q + i * 5 + 1, none⟩ = some (.slice pa n pc) ∧ ¬ mS m s base b
  hp : ¬ mS m s base p
  hc : 1 ≤ E.chans
  hc2 : E.chans ≤ 100
  ha2 : E.arrs ≤ 100
  hf2 : E.calls.length ≤ 100
  ho : ∀ n ∈ E.calls, n ≤ 100
theorem EnvAt.trn {w w' : World} {m s p base : Nat} {E : EnvS} (h : EnvAt w m s p base E) (t : Trn (mS m s base) w w') : EnvAt w' m s p base E := by
  obtain ⟨wd, ca, cc, aa, ac, fa, fc, mv, h1, h2⟩ := h.box
  refine ⟨⟨wd, ca, cc, aa, ac, fa, fc, mv, t.heap h1 h.hp, fun i n hi => ?_⟩, h.hp, h.hc, h.hc2, h.ha2, h.hf2, h.ho⟩
  obtain ⟨b, q, pa, pc, e, hx, hb⟩ := h2 i n hi
  exact ⟨b, q, pa, pc, e, by rw [World.cell?_of_block (w := w) (t.block b (block_lt_of_cell hx) hb)]; exact hx, hb⟩
/-- What a method says: an instruction and its target are made. -/
def Made1 (m s p par fn : Nat) (mn : Bool) (tv cv : Value) (base : Nat) (x : InstrD × Int) (l : List UInt8) (w : World) (e : Ending) (w' : World) : Prop :=
  e = .returned (.tuple #[]) ∧ MS w' m s p par fn mn tv cv base x.1.kind x.1.op x.1.dst x.1.name x.1.args x.2 l ∧ Trn (mS m s base) w w'
set_option maxRecDepth 100000 in
set_option maxHeartbeats 3200000 in
theorem copied_any (m s p par fn : Nat) (mn : Bool) (tv cv : Value) (base : Nat) (l : List UInt8) (E : EnvS) (w : World) (hE : E.par = par) (h : MS w m s p par fn mn tv cv base 0 0 .empty .empty [] (-1) l) :
    Calls Tryz.prog 68 #[.pointer (some ⟨m, 0, none⟩)] w (Made1 m s p par fn mn tv cv base (copiedS E l).1 (copiedS E l).2 w) := by
  have H := Lib.hid h
  have HT0 : Hid (Trn (mS m s base) w w) := Trn.refl _ _
  have HPAR := Lib.hid hE
  clear h hE
  go_enter Tryz.func68, Tryz.ntmps68
  obtain ⟨av, hbx, -⟩ := H.out.box
  have c7 := row_of hbx 7 (.int .u8 0) rfl
  have f7 := frozen_of_row w m 7 _ _ hbx
  clear hbx
  go_upto_region 1 with fail
  clear c7 f7
  have H1 := Lib.hid (H.out.kind 0)
  have T1 := Lib.hid (HT0.out.trans (put_trn w m s base 7 (.int .u8 0)))
  generalize w.setCell ⟨m, 7, none⟩ (.int .u8 0) = w1 at *
  have hd2 := dst_st H1.out
  obtain ⟨d2, hdd2⟩ : ∃ x, (dstS l).1 = x := ⟨_, rfl⟩
  obtain ⟨l2, hdl2⟩ : ∃ x, (dstS l).2 = x := ⟨_, rfl⟩
  rw [hdd2, hdl2] at hd2
  have HD2 := Lib.hid hd2
  have HX2 : Hid (dstS l = (d2, l2)) := (by show _ = _; rw [← hdd2, ← hdl2])
  clear hd2 hdd2 hdl2
  go_upto_region 2 with (go_at_call 89; refine HD2.out.mono ?_; rintro e w2 ⟨rfl, hn, tn⟩; have H2 := Lib.hid hn; have T2 := Lib.hid (T1.out.trans tn); clear hn tn)
  clear HD2
  have hd3 := opd_st H2.out (by simp)
  obtain ⟨a3, hdd3⟩ : ∃ x, (opdS par l2).1 = x := ⟨_, rfl⟩
  obtain ⟨l3, hdl3⟩ : ∃ x, (opdS par l2).2 = x := ⟨_, rfl⟩
  rw [hdd3, hdl3] at hd3
  have HD3 := Lib.hid hd3
  have HX3 : Hid (opdS par l2 = (a3, l3)) := (by show _ = _; rw [← hdd3, ← hdl3])
  clear hd3 hdd3 hdl3
  go_wp2_with (go_at_call 90; refine HD3.out.mono ?_; rintro e w3 ⟨rfl, hn, tn⟩; have H3 := Lib.hid hn; have T3 := Lib.hid (T2.out.trans tn); clear hn tn)
  clear HD3
  go_end0
  have hx : copiedS E l = (mkI 0 0 d2 .empty [a3], l3) := by
    unfold copiedS
    simp only [bindS, pureS, opdsS, HPAR.out, HX2.out, HX3.out]
    try rfl
  unfold Made1
  rw [hx]
  exact ⟨rfl, H3.out, T3.out⟩
set_option maxRecDepth 100000 in
set_option maxHeartbeats 3200000 in
theorem op_any (m s p par fn : Nat) (mn : Bool) (tv cv : Value) (base : Nat) (l : List UInt8) (E : EnvS) (w : World) (hE : E.par = par) (h : MS w m s p par fn mn tv cv base 0 0 .empty .empty [] (-1) l) :
    Calls Tryz.prog 69 #[.pointer (some ⟨m, 0, none⟩)] w (Made1 m s p par fn mn tv cv base (opS E l).1 (opS E l).2 w) := by
  have H := Lib.hid h
  have HT0 : Hid (Trn (mS m s base) w w) := Trn.refl _ _
  have HPAR := Lib.hid hE
  clear h hE
  go_enter Tryz.func69, Tryz.ntmps69
  obtain ⟨av, hbx, -⟩ := H.out.box
  have c7 := row_of hbx 7 (.int .u8 0) rfl
  have f7 := frozen_of_row w m 7 _ _ hbx
  clear hbx
  go_upto_region 1 with fail
  clear c7 f7
  have H1 := Lib.hid (H.out.kind 1)
  have T1 := Lib.hid (HT0.out.trans (put_trn w m s base 7 (.int .u8 1)))
  generalize w.setCell ⟨m, 7, none⟩ (.int .u8 1) = w1 at *
  have hd2 := dst_st H1.out
  obtain ⟨d2, hdd2⟩ : ∃ x, (dstS l).1 = x := ⟨_, rfl⟩
  obtain ⟨l2, hdl2⟩ : ∃ x, (dstS l).2 = x := ⟨_, rfl⟩
  rw [hdd2, hdl2] at hd2
  have HD2 := Lib.hid hd2
  have HX2 : Hid (dstS l = (d2, l2)) := (by show _ = _; rw [← hdd2, ← hdl2])
  clear hd2 hdd2 hdl2
  go_upto_region 2 with (go_at_call 89; refine HD2.out.mono ?_; rintro e w2 ⟨rfl, hn, tn⟩; have H2 := Lib.hid hn; have T2 := Lib.hid (T1.out.trans tn); clear hn tn)
  clear HD2
  obtain ⟨v3, hv⟩ : ∃ x, (takeS 19 l2).1 = x := ⟨_, rfl⟩
  obtain ⟨l3, hr⟩ : ∃ x, (takeS 19 l2).2 = x := ⟨_, rfl⟩
  have hvl3 : v3 < 19 := by rw [← hv]; exact take_small 19 l2 (by omega)
  have HX3 : Hid (takeS 19 l2 = (v3, l3)) := (by show _ = _; rw [← hv, ← hr])
  have ht := take_any s l2 19 w2 H2.out.src (by omega) (by omega)
  rw [hv, hr] at ht
  have HD3 := Lib.hid ht
  obtain ⟨q, hq⟩ : ∃ q : Nat, 2 + v3 = q := ⟨_, rfl⟩
  have HQ := Lib.hid hq
  have hw1 : IntKind.u8.wrap (v3 : Int) = v3 := by rw [IntKind.wrap_u8]; exact Int.emod_eq_of_lt (by omega) (by omega)
  have hw2 : IntKind.u8.wrap (2 + (v3 : Int)) = (q : Nat) := by rw [IntKind.wrap_u8, ← hq]; push_cast; exact Int.emod_eq_of_lt (by omega) (by omega)
  have hql : q < 21 := by omega
  obtain ⟨av, hbx, -⟩ := H2.out.box
  have c0 := row_of hbx 0 (.pointer (some ⟨s, 0, none⟩)) rfl
  clear ht hv hr hbx hq
  go_upto_region 3 with (go_at_call 21; refine HD3.out.mono ?_; rintro e z1 ⟨rfl, hs1, ht1⟩; have HZ1 := Lib.hid (H2.out.bytes ht1 hs1); have TZ1 := Lib.hid (T2.out.trans (src_trn ht1)); obtain ⟨av2, hbx2, -⟩ := HZ1.out.box; have c8 := row_of hbx2 8 (.int .u8 0) rfl; have f8 := frozen_of_row _ m 8 _ _ hbx2; clear c0 hs1 ht1 hbx2)
  clear c8 f8 HD3 hw1 hw2
  have H3 := Lib.hid (HZ1.out.op (q : Nat))
  have T3 := Lib.hid (TZ1.out.trans (put_trn _ m s base 8 (.int .u8 (q : Nat))))
  clear HZ1 TZ1
  generalize z1.setCell ⟨m, 8, none⟩ (.int .u8 (q : Nat)) = w3 at *
  have hd4 := opd_st H3.out (by simp)
  obtain ⟨a4, hdd4⟩ : ∃ x, (opdS par l3).1 = x := ⟨_, rfl⟩
  obtain ⟨l4, hdl4⟩ : ∃ x, (opdS par l3).2 = x := ⟨_, rfl⟩
  rw [hdd4, hdl4] at hd4
  have HD4 := Lib.hid hd4
  have HX4 : Hid (opdS par l3 = (a4, l4)) := (by show _ = _; rw [← hdd4, ← hdl4])
  clear hd4 hdd4 hdl4
  go_upto_region 4 with (go_at_call 90; refine HD4.out.mono ?_; rintro e w4 ⟨rfl, hn, tn⟩; have H4 := Lib.hid hn; have T4 := Lib.hid (T3.out.trans tn); clear hn tn)
  clear HD4
  obtain ⟨av, hbx, -⟩ := H4.out.box
  have c8 := row_of hbx 8 (.int .u8 (q : Nat)) rfl
  clear hbx
  by_cases g : q > 3
  · have g3 : (3 : Int) < (q : Nat) := by omega
    go_upto_region 5 with fail
    clear c8 g3
    have hd5 := opd_st H4.out (by simp)
    obtain ⟨a5, hdd5⟩ : ∃ x, (opdS par l4).1 = x := ⟨_, rfl⟩
    obtain ⟨l5, hdl5⟩ : ∃ x, (opdS par l4).2 = x := ⟨_, rfl⟩
    rw [hdd5, hdl5] at hd5
    have HD5 := Lib.hid hd5
    have HX5 : Hid (opdS par l4 = (a5, l5)) := (by show _ = _; rw [← hdd5, ← hdl5])
    clear hd5 hdd5 hdl5
    go_wp2_with (go_at_call 90; refine HD5.out.mono ?_; rintro e w5 ⟨rfl, hn, tn⟩; have H5 := Lib.hid hn; have T5 := Lib.hid (T4.out.trans tn); clear hn tn)
    clear HD5
    go_end0
    have g0 := HQ.out
    have hx : opS E l = (mkI 1 (q : Nat) d2 .empty [a4, a5], l5) := by
      unfold opS
      simp only [bindS, HX2.out, HX3.out, HQ.out, if_pos g, opdsS, pureS, HPAR.out, HX4.out, HX5.out]
      try rfl
    unfold Made1
    rw [hx]
    exact ⟨rfl, H5.out, T5.out⟩
  · have g3 : ¬ (3 : Int) < (q : Nat) := by omega
    go_wp2_with fail
    go_end0
    have g0 := HQ.out
    have hx : opS E l = (mkI 1 (q : Nat) d2 .empty [a4], l4) := by
      unfold opS
      simp only [bindS, HX2.out, HX3.out, HQ.out, if_neg g, opdsS, pureS, HPAR.out, HX4.out]
      try rfl
    unfold Made1
    rw [hx]
    exact ⟨rfl, H4.out, T4.out⟩
set_option maxRecDepth 100000 in
set_option maxHeartbeats 3200000 in
theorem read_any (m s p par fn : Nat) (mn : Bool) (tv cv : Value) (base : Nat) (l : List UInt8) (E : EnvS) (w : World) (hE : E.par = par) (hEnv : EnvAt w m s p base E) (h : MS w m s p par fn mn tv cv base 0 0 .empty .empty [] (-1) l) :
    Calls Tryz.prog 73 #[.pointer (some ⟨m, 0, none⟩)] w (Made1 m s p par fn mn tv cv base (readS E l).1 (readS E l).2 w) := by
  have H := Lib.hid h
  have HT0 : Hid (Trn (mS m s base) w w) := Trn.refl _ _
  have HE := Lib.hid hEnv
  clear hEnv
  have HPAR := Lib.hid hE
  clear h hE
  go_enter Tryz.func73, Tryz.ntmps73
  obtain ⟨av, hbx, -⟩ := H.out.box
  have c7 := row_of hbx 7 (.int .u8 0) rfl
  have f7 := frozen_of_row w m 7 _ _ hbx
  clear hbx
  go_upto_region 1 with fail
  clear c7 f7
  have H1 := Lib.hid (H.out.kind 5)
  have T1 := Lib.hid (HT0.out.trans (put_trn w m s base 7 (.int .u8 5)))
  generalize w.setCell ⟨m, 7, none⟩ (.int .u8 5) = w1 at *
  have hd2 := dst_st H1.out
  obtain ⟨d2, hdd2⟩ : ∃ x, (dstS l).1 = x := ⟨_, rfl⟩
  obtain ⟨l2, hdl2⟩ : ∃ x, (dstS l).2 = x := ⟨_, rfl⟩
  rw [hdd2, hdl2] at hd2
  have HD2 := Lib.hid hd2
  have HX2 : Hid (dstS l = (d2, l2)) := (by show _ = _; rw [← hdd2, ← hdl2])
  clear hd2 hdd2 hdl2
  go_upto_region 2 with (go_at_call 89; refine HD2.out.mono ?_; rintro e w2 ⟨rfl, hn, tn⟩; have H2 := Lib.hid hn; have T2 := Lib.hid (T1.out.trans tn); clear hn tn)
  clear HD2
  have hc1 := HE.out.hc
  have hc2 := HE.out.hc2
  obtain ⟨v3, hv⟩ : ∃ x, (takeS E.chans l2).1 = x := ⟨_, rfl⟩
  obtain ⟨l3, hr⟩ : ∃ x, (takeS E.chans l2).2 = x := ⟨_, rfl⟩
  have hvl3 : v3 < E.chans := by rw [← hv]; exact take_small E.chans l2 (by omega)
  have HX3 : Hid (takeS E.chans l2 = (v3, l3)) := (by show _ = _; rw [← hv, ← hr])
  obtain ⟨n3, hns⟩ : ∃ x, nmS 99 v3 = x := ⟨_, rfl⟩
  have HNS3 := Lib.hid hns
  have HEN := Lib.hid (HE.out.trn T2.out)
  obtain ⟨wd, ca, cc, aa, ac, fa, fc, mv, hpx, -⟩ := HEN.out.box
  obtain ⟨av, hbx, -⟩ := H2.out.box
  have HBX := Lib.hid hbx
  have HPX := Lib.hid hpx
  have l0 := keepS_cell (S := [m, p]) (by simp) (row_of hbx 0 (.pointer (some ⟨s, 0, none⟩)) rfl)
  have l1 := keepS_cell (S := [m, p]) (by simp) (row_of hbx 1 (.pointer (some ⟨p, 0, none⟩)) rfl)
  have p1 := keepS_cell (S := [m, p]) (by simp) (row_of hpx 1 (.slice ca E.chans cc) rfl)
  have hps : p ≠ s := fun e => HE.out.hp (.inr (.inl e))
  refine wp_region_mixS [m, p] (.one [0, 1, 2, 3, 4, 5, 6, 7, 8, 9, 10, 11, 12] 13 (.one [] 14 (.one [] 15 (tailOf [16, 17, 18, 19])))) (fun j => decide (16 ≤ j)) (by kernel_rfl) (by kernel_rfl) rfl (by kernel_rfl) (fun _ d _ _ _ h => by cases d <;> exact h) ?_
  have HBd : Hid (Below w2.heap.size w2 w2.drew) := (Below.refl _ _).drew
  generalize w2.drew = wn at *
  have HKn := Lib.hid (two_keepS (HBd.out.block m (Array.getElem?_eq_some_iff.1 hbx).1) (HBd.out.block p (Array.getElem?_eq_some_iff.1 hpx).1))
  have HZ0 := Lib.hid (H2.out.below HBd.out)
  clear hbx hpx
  refine mix_one (by simp only [opsOf, List.filterMap_cons, List.filterMap_nil, List.getElem?_toArray, List.getElem?_cons_succ, List.getElem?_cons_zero]; rfl) ⟨_, keepS_of HKn.out⟩ ?_
  change wpQuiet _ _ _ _ [_, _, _, _, _, _, _, _, _, _, _, _, _] _
  (repeat (go_big_quiet_step (fail)))
  clear l0 l1 p1
  refine wpQuiet_nil ?_
  refine mix_step rfl ?_
  have ht := take_any s l2 E.chans wn HZ0.out.src (by omega) (by omega)
  rw [hv, hr] at ht
  have HD := Lib.hid ht
  clear hv hr ht
  go_wp2_with (go_at_call 21; refine HD.out.mono ?_; rintro e z1 ⟨rfl, hs1, ht1⟩)
  have HZ1 := Lib.hid (HZ0.out.bytes ht1 hs1)
  have TZ1 := Lib.hid ((T2.out.trans (Trn.of_below HBd.out)).trans (src_trn ht1))
  have HK1 := Lib.hid (fun b hb => (two_keepS (W := wn) (w' := z1) (ht1.block m (by have := HBd.out.size; have := (Array.getElem?_eq_some_iff.1 HBX.out).1; omega) H2.out.hne) (ht1.block p (by have := HBd.out.size; have := (Array.getElem?_eq_some_iff.1 HPX.out).1; omega) hps) b hb).trans (HKn.out b hb) : ∀ b ∈ [m, p], z1.heap[b]? = w2.heap[b]?)
  clear hs1 ht1 HD
  (first | refine ⟨fun _ => ⟨_, keepS_of HK1.out⟩, ?_⟩ | refine ⟨⟨_, keepS_of HK1.out⟩, ?_⟩)
  refine mix_now ?_
  refine mix_step rfl ?_
  go_wp2_with fail
  have hal := (Below.refl z1.heap.size z1).alloc (Nat.le_refl _) (.cells #[.int .i64 (v3 : Nat)] 3)
  have HN := name_any 99 v3 (by omega) z1.heap.size _ (heap_alloc_new z1 (.cells #[.int .i64 (v3 : Nat)] 3))
  rw [hns] at HN
  have HN := Lib.hid HN
  have HZ2 := Lib.hid (HZ1.out.below hal)
  have TZ2 := Lib.hid (TZ1.out.trans (Trn.of_below hal))
  have HK2 := Lib.hid (fun b hb => (two_keepS (W := z1) (hal.block m (by have := HBd.out.size; have := (Array.getElem?_eq_some_iff.1 ((HK1.out m (by simp)).trans HBX.out)).1; omega)) (hal.block p (Array.getElem?_eq_some_iff.1 ((HK1.out p (by simp)).trans HPX.out)).1) b hb).trans (HK1.out b hb) : ∀ b ∈ [m, p], (z1.alloc (.cells #[.int .i64 (v3 : Nat)] 3)).heap[b]? = w2.heap[b]?)
  clear hal hns
  (first | refine ⟨fun _ => ⟨_, keepS_of HK2.out⟩, ?_⟩ | refine ⟨⟨_, keepS_of HK2.out⟩, ?_⟩)
  refine mix_now ?_
  refine mix_step rfl ?_
  go_wp2_with (go_at_call 22; refine HN.out.mono ?_; rintro e z ⟨rfl, rfl⟩)
  (first | refine ⟨fun _ => ⟨_, keepS_of HK2.out⟩, ?_⟩ | refine ⟨⟨_, keepS_of HK2.out⟩, ?_⟩)
  refine mix_tail [16, 17, 18, 19] [_, _, _, _] _ _ rfl rfl ?_
  obtain ⟨av2, hbx2, -⟩ := HZ2.out.box
  have c10 := row_of hbx2 10 (.string .empty) rfl
  have f10 := frozen_of_row _ m 10 _ _ hbx2
  clear hbx2
  go_wp2_with fail
  clear c10 f10 HN
  have H3 := Lib.hid (HZ2.out.name n3)
  have T3 := Lib.hid (TZ2.out.trans (put_trn _ m s base 10 (.string n3)))
  clear HZ0 HZ1 TZ1 HZ2 TZ2 HK1 HK2 HKn HBd HBX HPX HEN hps
  generalize (z1.alloc (.cells #[.int .i64 (v3 : Nat)] 3)).setCell ⟨m, 10, none⟩ (.string n3) = w3 at *
  go_end0
  have hx : readS E l = (mkI 5 0 d2 n3 [], l3) := by
    unfold readS
    simp only [bindS, pureS, opdsS, HPAR.out, HX2.out, HX3.out, HNS3.out]
    try rfl
  unfold Made1
  rw [hx]
  exact ⟨rfl, H3.out, T3.out⟩
set_option maxRecDepth 100000 in
set_option maxHeartbeats 3200000 in
theorem write_any (m s p par fn : Nat) (mn : Bool) (tv cv : Value) (base : Nat) (l : List UInt8) (E : EnvS) (w : World) (hE : E.par = par) (hEnv : EnvAt w m s p base E) (h : MS w m s p par fn mn tv cv base 0 0 .empty .empty [] (-1) l) :
    Calls Tryz.prog 74 #[.pointer (some ⟨m, 0, none⟩)] w (Made1 m s p par fn mn tv cv base (writeS E l).1 (writeS E l).2 w) := by
  have H := Lib.hid h
  have HT0 : Hid (Trn (mS m s base) w w) := Trn.refl _ _
  have HE := Lib.hid hEnv
  clear hEnv
  have HPAR := Lib.hid hE
  clear h hE
  go_enter Tryz.func74, Tryz.ntmps74
  obtain ⟨av, hbx, -⟩ := H.out.box
  have c7 := row_of hbx 7 (.int .u8 0) rfl
  have f7 := frozen_of_row w m 7 _ _ hbx
  clear hbx
  go_upto_region 1 with fail
  clear c7 f7
  have H1 := Lib.hid (H.out.kind 6)
  have T1 := Lib.hid (HT0.out.trans (put_trn w m s base 7 (.int .u8 6)))
  generalize w.setCell ⟨m, 7, none⟩ (.int .u8 6) = w1 at *
  have hc1 := HE.out.hc
  have hc2 := HE.out.hc2
  obtain ⟨v2, hv⟩ : ∃ x, (takeS E.chans l).1 = x := ⟨_, rfl⟩
  obtain ⟨l2, hr⟩ : ∃ x, (takeS E.chans l).2 = x := ⟨_, rfl⟩
  have hvl2 : v2 < E.chans := by rw [← hv]; exact take_small E.chans l (by omega)
  have HX2 : Hid (takeS E.chans l = (v2, l2)) := (by show _ = _; rw [← hv, ← hr])
  obtain ⟨n2, hns⟩ : ∃ x, nmS 99 v2 = x := ⟨_, rfl⟩
  have HNS2 := Lib.hid hns
  have HEN := Lib.hid (HE.out.trn T1.out)
  obtain ⟨wd, ca, cc, aa, ac, fa, fc, mv, hpx, -⟩ := HEN.out.box
  obtain ⟨av, hbx, -⟩ := H1.out.box
  have HBX := Lib.hid hbx
  have HPX := Lib.hid hpx
  have l0 := keepS_cell (S := [m, p]) (by simp) (row_of hbx 0 (.pointer (some ⟨s, 0, none⟩)) rfl)
  have l1 := keepS_cell (S := [m, p]) (by simp) (row_of hbx 1 (.pointer (some ⟨p, 0, none⟩)) rfl)
  have p1 := keepS_cell (S := [m, p]) (by simp) (row_of hpx 1 (.slice ca E.chans cc) rfl)
  have hps : p ≠ s := fun e => HE.out.hp (.inr (.inl e))
  refine wp_region_mixS [m, p] (.one [0, 1, 2, 3, 4, 5, 6, 7, 8, 9, 10, 11, 12] 13 (.one [] 14 (.one [] 15 (tailOf [16, 17, 18, 19])))) (fun j => decide (16 ≤ j)) (by kernel_rfl) (by kernel_rfl) rfl (by kernel_rfl) (fun _ d _ _ _ h => by cases d <;> exact h) ?_
  have HBd : Hid (Below w1.heap.size w1 w1.drew) := (Below.refl _ _).drew
  generalize w1.drew = wn at *
  have HKn := Lib.hid (two_keepS (HBd.out.block m (Array.getElem?_eq_some_iff.1 hbx).1) (HBd.out.block p (Array.getElem?_eq_some_iff.1 hpx).1))
  have HZ0 := Lib.hid (H1.out.below HBd.out)
  clear hbx hpx
  refine mix_one (by simp only [opsOf, List.filterMap_cons, List.filterMap_nil, List.getElem?_toArray, List.getElem?_cons_succ, List.getElem?_cons_zero]; rfl) ⟨_, keepS_of HKn.out⟩ ?_
  change wpQuiet _ _ _ _ [_, _, _, _, _, _, _, _, _, _, _, _, _] _
  (repeat (go_big_quiet_step (fail)))
  clear l0 l1 p1
  refine wpQuiet_nil ?_
  refine mix_step rfl ?_
  have ht := take_any s l E.chans wn HZ0.out.src (by omega) (by omega)
  rw [hv, hr] at ht
  have HD := Lib.hid ht
  clear hv hr ht
  go_wp2_with (go_at_call 21; refine HD.out.mono ?_; rintro e z1 ⟨rfl, hs1, ht1⟩)
  have HZ1 := Lib.hid (HZ0.out.bytes ht1 hs1)
  have TZ1 := Lib.hid ((T1.out.trans (Trn.of_below HBd.out)).trans (src_trn ht1))
  have HK1 := Lib.hid (fun b hb => (two_keepS (W := wn) (w' := z1) (ht1.block m (by have := HBd.out.size; have := (Array.getElem?_eq_some_iff.1 HBX.out).1; omega) H1.out.hne) (ht1.block p (by have := HBd.out.size; have := (Array.getElem?_eq_some_iff.1 HPX.out).1; omega) hps) b hb).trans (HKn.out b hb) : ∀ b ∈ [m, p], z1.heap[b]? = w1.heap[b]?)
  clear hs1 ht1 HD
  (first | refine ⟨fun _ => ⟨_, keepS_of HK1.out⟩, ?_⟩ | refine ⟨⟨_, keepS_of HK1.out⟩, ?_⟩)
  refine mix_now ?_
  refine mix_step rfl ?_
  go_wp2_with fail
  have hal := (Below.refl z1.heap.size z1).alloc (Nat.le_refl _) (.cells #[.int .i64 (v2 : Nat)] 3)
  have HN := name_any 99 v2 (by omega) z1.heap.size _ (heap_alloc_new z1 (.cells #[.int .i64 (v2 : Nat)] 3))
  rw [hns] at HN
  have HN := Lib.hid HN
  have HZ2 := Lib.hid (HZ1.out.below hal)
  have TZ2 := Lib.hid (TZ1.out.trans (Trn.of_below hal))
  have HK2 := Lib.hid (fun b hb => (two_keepS (W := z1) (hal.block m (by have := HBd.out.size; have := (Array.getElem?_eq_some_iff.1 ((HK1.out m (by simp)).trans HBX.out)).1; omega)) (hal.block p (Array.getElem?_eq_some_iff.1 ((HK1.out p (by simp)).trans HPX.out)).1) b hb).trans (HK1.out b hb) : ∀ b ∈ [m, p], (z1.alloc (.cells #[.int .i64 (v2 : Nat)] 3)).heap[b]? = w1.heap[b]?)
  clear hal hns
  (first | refine ⟨fun _ => ⟨_, keepS_of HK2.out⟩, ?_⟩ | refine ⟨⟨_, keepS_of HK2.out⟩, ?_⟩)
  refine mix_now ?_
  refine mix_step rfl ?_
  go_wp2_with (go_at_call 22; refine HN.out.mono ?_; rintro e z ⟨rfl, rfl⟩)
  (first | refine ⟨fun _ => ⟨_, keepS_of HK2.out⟩, ?_⟩ | refine ⟨⟨_, keepS_of HK2.out⟩, ?_⟩)
  refine mix_tail [16, 17, 18, 19] [_, _, _, _] _ _ rfl rfl ?_
  obtain ⟨av2, hbx2, -⟩ := HZ2.out.box
  have c10 := row_of hbx2 10 (.string .empty) rfl
  have f10 := frozen_of_row _ m 10 _ _ hbx2
  clear hbx2
  go_upto_region 2 with fail
  clear c10 f10 HN
  have H2 := Lib.hid (HZ2.out.name n2)
  have T2 := Lib.hid (TZ2.out.trans (put_trn _ m s base 10 (.string n2)))
  clear HZ0 HZ1 TZ1 HZ2 TZ2 HK1 HK2 HKn HBd HBX HPX HEN hps
  generalize (z1.alloc (.cells #[.int .i64 (v2 : Nat)] 3)).setCell ⟨m, 10, none⟩ (.string n2) = w2 at *
  have hd3 := opd_st H2.out (by simp)
  obtain ⟨a3, hdd3⟩ : ∃ x, (opdS par l2).1 = x := ⟨_, rfl⟩
  obtain ⟨l3, hdl3⟩ : ∃ x, (opdS par l2).2 = x := ⟨_, rfl⟩
  rw [hdd3, hdl3] at hd3
  have HD3 := Lib.hid hd3
  have HX3 : Hid (opdS par l2 = (a3, l3)) := (by show _ = _; rw [← hdd3, ← hdl3])
  clear hd3 hdd3 hdl3
  go_wp2_with (go_at_call 90; refine HD3.out.mono ?_; rintro e w3 ⟨rfl, hn, tn⟩; have H3 := Lib.hid hn; have T3 := Lib.hid (T2.out.trans tn); clear hn tn)
  clear HD3
  go_end0
  have hx : writeS E l = (mkI 6 0 .empty n2 [a3], l3) := by
    unfold writeS
    simp only [bindS, pureS, opdsS, HPAR.out, HX2.out, HX3.out, HNS2.out]
    try rfl
  unfold Made1
  rw [hx]
  exact ⟨rfl, H3.out, T3.out⟩
set_option maxRecDepth 100000 in
set_option maxHeartbeats 3200000 in
theorem release_any (m s p par fn : Nat) (mn : Bool) (tv cv : Value) (base : Nat) (l : List UInt8) (E : EnvS) (w : World) (hE : E.par = par) (h : MS w m s p par fn mn tv cv base 0 0 .empty .empty [] (-1) l) :
    Calls Tryz.prog 75 #[.pointer (some ⟨m, 0, none⟩)] w (Made1 m s p par fn mn tv cv base (releaseS E l).1 (releaseS E l).2 w) := by
  have H := Lib.hid h
  have HT0 : Hid (Trn (mS m s base) w w) := Trn.refl _ _
  have HPAR := Lib.hid hE
  clear h hE
  go_enter Tryz.func75, Tryz.ntmps75
  obtain ⟨av, hbx, -⟩ := H.out.box
  have c7 := row_of hbx 7 (.int .u8 0) rfl
  have f7 := frozen_of_row w m 7 _ _ hbx
  clear hbx
  go_upto_region 1 with fail
  clear c7 f7
  have H1 := Lib.hid (H.out.kind 7)
  have T1 := Lib.hid (HT0.out.trans (put_trn w m s base 7 (.int .u8 7)))
  generalize w.setCell ⟨m, 7, none⟩ (.int .u8 7) = w1 at *
  have hd2 := dst_st H1.out
  obtain ⟨d2, hdd2⟩ : ∃ x, (dstS l).1 = x := ⟨_, rfl⟩
  obtain ⟨l2, hdl2⟩ : ∃ x, (dstS l).2 = x := ⟨_, rfl⟩
  rw [hdd2, hdl2] at hd2
  have HD2 := Lib.hid hd2
  have HX2 : Hid (dstS l = (d2, l2)) := (by show _ = _; rw [← hdd2, ← hdl2])
  clear hd2 hdd2 hdl2
  go_upto_region 2 with (go_at_call 89; refine HD2.out.mono ?_; rintro e w2 ⟨rfl, hn, tn⟩; have H2 := Lib.hid hn; have T2 := Lib.hid (T1.out.trans tn); clear hn tn)
  clear HD2
  obtain ⟨v3, hv⟩ : ∃ x, (takeS 2 l2).1 = x := ⟨_, rfl⟩
  obtain ⟨l3, hr⟩ : ∃ x, (takeS 2 l2).2 = x := ⟨_, rfl⟩
  have hvl3 : v3 < 2 := by rw [← hv]; exact take_small 2 l2 (by omega)
  have ht := take_any s l2 2 w2 H2.out.src (by omega) (by omega)
  rw [hv, hr] at ht
  have HD3 := Lib.hid ht
  have HX3 : Hid (takeS 2 l2 = (v3, l3)) := (by show _ = _; rw [← hv, ← hr])
  obtain ⟨n3, hns⟩ : ∃ x, nmS 115 v3 = x := ⟨_, rfl⟩
  have HNS3 := Lib.hid hns
  obtain ⟨av, hbx, -⟩ := H2.out.box
  have c0 := row_of hbx 0 (.pointer (some ⟨s, 0, none⟩)) rfl
  clear ht hv hr hns hbx
  go_upto_region 3 with (first | (go_at_call 21; refine HD3.out.mono ?_; rintro e z1 ⟨rfl, hs1, ht1⟩; have HZ1 := Lib.hid (H2.out.bytes ht1 hs1); have TZ1 := Lib.hid (T2.out.trans (src_trn ht1)); have hal := (Below.refl z1.heap.size z1).alloc (Nat.le_refl _) (.cells #[.int .i64 (v3 : Nat)] 3); have HN := name_any 115 v3 (by omega) z1.heap.size _ (heap_alloc_new z1 (.cells #[.int .i64 (v3 : Nat)] 3)); rw [HNS3.out] at HN; have HN := Lib.hid HN; have HZ2 := Lib.hid (HZ1.out.below hal); have TZ2 := Lib.hid (TZ1.out.trans (Trn.of_below hal)); obtain ⟨av2, hbx2, -⟩ := HZ2.out.box; have c10 := row_of hbx2 10 (.string .empty) rfl; have f10 := frozen_of_row _ m 10 _ _ hbx2; clear c0 hs1 ht1 hal hbx2) | (go_at_call 22; refine HN.out.mono ?_; rintro e z ⟨rfl, rfl⟩))
  clear c10 f10 HD3 HN
  have H3 := Lib.hid (HZ2.out.name n3)
  have T3 := Lib.hid (TZ2.out.trans (put_trn _ m s base 10 (.string n3)))
  clear HZ1 TZ1 HZ2 TZ2
  generalize (z1.alloc (.cells #[.int .i64 (v3 : Nat)] 3)).setCell ⟨m, 10, none⟩ (.string n3) = w3 at *
  have hd4 := opd_st H3.out (by simp)
  obtain ⟨a4, hdd4⟩ : ∃ x, (opdS par l3).1 = x := ⟨_, rfl⟩
  obtain ⟨l4, hdl4⟩ : ∃ x, (opdS par l3).2 = x := ⟨_, rfl⟩
  rw [hdd4, hdl4] at hd4
  have HD4 := Lib.hid hd4
  have HX4 : Hid (opdS par l3 = (a4, l4)) := (by show _ = _; rw [← hdd4, ← hdl4])
  clear hd4 hdd4 hdl4
  go_wp2_with (go_at_call 90; refine HD4.out.mono ?_; rintro e w4 ⟨rfl, hn, tn⟩; have H4 := Lib.hid hn; have T4 := Lib.hid (T3.out.trans tn); clear hn tn)
  clear HD4
  go_end0
  have hx : releaseS E l = (mkI 7 0 d2 n3 [a4], l4) := by
    unfold releaseS
    simp only [bindS, pureS, opdsS, HPAR.out, HX2.out, HX3.out, HX4.out, HNS3.out]
    try rfl
  unfold Made1
  rw [hx]
  exact ⟨rfl, H4.out, T4.out⟩
set_option maxRecDepth 100000 in
set_option maxHeartbeats 3200000 in
theorem load_any (m s p par fn : Nat) (mn : Bool) (tv cv : Value) (base : Nat) (l : List UInt8) (E : EnvS) (w : World) (hE : E.par = par) (hEnv : EnvAt w m s p base E) (h : MS w m s p par fn mn tv cv base 0 0 .empty .empty [] (-1) l) :
    Calls Tryz.prog 70 #[.pointer (some ⟨m, 0, none⟩)] w (Made1 m s p par fn mn tv cv base (loadS E l).1 (loadS E l).2 w) := by
  have H := Lib.hid h
  have HT0 : Hid (Trn (mS m s base) w w) := Trn.refl _ _
  have HE := Lib.hid hEnv
  clear hEnv
  have HPAR := Lib.hid hE
  clear h hE
  go_enter Tryz.func70, Tryz.ntmps70
  obtain ⟨wd, ca, cc, aa, ac, fa, fc, mv, hpx, -⟩ := HE.out.box
  obtain ⟨av, hbx, -⟩ := H.out.box
  have q1 := row_of hbx 1 (.pointer (some ⟨p, 0, none⟩)) rfl
  have q2 := row_of hpx 2 (.slice aa E.arrs ac) rfl
  have ha2 := HE.out.ha2
  clear hpx hbx
  by_cases g : E.arrs = 0
  · have g1 : (E.arrs : Int) = 0 := by omega
    have g2 : ((E.arrs : Int) == 0) = true := by simp [g1]
    have hc := copied_any m s p par fn mn tv cv base l E w HPAR.out H.out
    have HC := Lib.hid hc
    clear hc
    go_wp2_with (go_at_call 68; refine HC.out.mono ?_; rintro e z ⟨rfl, hz, tz⟩)
    go_end0
    unfold Made1
    rw [show loadS E l = copiedS E l from by unfold loadS; rw [if_pos g]]
    exact ⟨rfl, hz, tz⟩
  have g1 : ¬ (E.arrs : Int) = 0 := by omega
  have g2 : ((E.arrs : Int) == 0) = false := by simp [g]
  go_upto_region 2 with fail
  clear q1 q2 g1 g2
  obtain ⟨av, hbx, -⟩ := H.out.box
  have c7 := row_of hbx 7 (.int .u8 0) rfl
  have f7 := frozen_of_row w m 7 _ _ hbx
  clear hbx
  go_upto_region 3 with fail
  clear c7 f7
  have H1 := Lib.hid (H.out.kind 2)
  have T1 := Lib.hid (HT0.out.trans (put_trn w m s base 7 (.int .u8 2)))
  generalize w.setCell ⟨m, 7, none⟩ (.int .u8 2) = w1 at *
  have hd2 := dst_st H1.out
  obtain ⟨d2, hdd2⟩ : ∃ x, (dstS l).1 = x := ⟨_, rfl⟩
  obtain ⟨l2, hdl2⟩ : ∃ x, (dstS l).2 = x := ⟨_, rfl⟩
  rw [hdd2, hdl2] at hd2
  have HD2 := Lib.hid hd2
  have HX2 : Hid (dstS l = (d2, l2)) := (by show _ = _; rw [← hdd2, ← hdl2])
  clear hd2 hdd2 hdl2
  go_upto_region 4 with (go_at_call 89; refine HD2.out.mono ?_; rintro e w2 ⟨rfl, hn, tn⟩; have H2 := Lib.hid hn; have T2 := Lib.hid (T1.out.trans tn); clear hn tn)
  clear HD2
  have hc1 : 1 ≤ E.arrs := by omega
  have hc2 := HE.out.ha2
  obtain ⟨v3, hv⟩ : ∃ x, (takeS E.arrs l2).1 = x := ⟨_, rfl⟩
  obtain ⟨l3, hr⟩ : ∃ x, (takeS E.arrs l2).2 = x := ⟨_, rfl⟩
  have hvl3 : v3 < E.arrs := by rw [← hv]; exact take_small E.arrs l2 (by omega)
  have HX3 : Hid (takeS E.arrs l2 = (v3, l3)) := (by show _ = _; rw [← hv, ← hr])
  obtain ⟨n3, hns⟩ : ∃ x, nmS 97 v3 = x := ⟨_, rfl⟩
  have HNS3 := Lib.hid hns
  have HEN := Lib.hid (HE.out.trn T2.out)
  obtain ⟨wd, ca, cc, aa, ac, fa, fc, mv, hpx, -⟩ := HEN.out.box
  obtain ⟨av, hbx, -⟩ := H2.out.box
  have HBX := Lib.hid hbx
  have HPX := Lib.hid hpx
  have l0 := keepS_cell (S := [m, p]) (by simp) (row_of hbx 0 (.pointer (some ⟨s, 0, none⟩)) rfl)
  have l1 := keepS_cell (S := [m, p]) (by simp) (row_of hbx 1 (.pointer (some ⟨p, 0, none⟩)) rfl)
  have p1 := keepS_cell (S := [m, p]) (by simp) (row_of hpx 2 (.slice aa E.arrs ac) rfl)
  have hps : p ≠ s := fun e => HE.out.hp (.inr (.inl e))
  refine wp_region_mixS [m, p] (.one [0, 1, 2, 3, 4, 5, 6, 7, 8, 9, 10, 11, 12] 13 (.one [] 14 (.one [] 15 (tailOf [16, 17, 18, 19])))) (fun j => decide (16 ≤ j)) (by kernel_rfl) (by kernel_rfl) rfl (by kernel_rfl) (fun _ d _ _ _ h => by cases d <;> exact h) ?_
  have HBd : Hid (Below w2.heap.size w2 w2.drew) := (Below.refl _ _).drew
  generalize w2.drew = wn at *
  have HKn := Lib.hid (two_keepS (HBd.out.block m (Array.getElem?_eq_some_iff.1 hbx).1) (HBd.out.block p (Array.getElem?_eq_some_iff.1 hpx).1))
  have HZ0 := Lib.hid (H2.out.below HBd.out)
  clear hbx hpx
  refine mix_one (by simp only [opsOf, List.filterMap_cons, List.filterMap_nil, List.getElem?_toArray, List.getElem?_cons_succ, List.getElem?_cons_zero]; rfl) ⟨_, keepS_of HKn.out⟩ ?_
  change wpQuiet _ _ _ _ [_, _, _, _, _, _, _, _, _, _, _, _, _] _
  (repeat (go_big_quiet_step (fail)))
  clear l0 l1 p1
  refine wpQuiet_nil ?_
  refine mix_step rfl ?_
  have ht := take_any s l2 E.arrs wn HZ0.out.src (by omega) (by omega)
  rw [hv, hr] at ht
  have HD := Lib.hid ht
  clear hv hr ht
  go_wp2_with (go_at_call 21; refine HD.out.mono ?_; rintro e z1 ⟨rfl, hs1, ht1⟩)
  have HZ1 := Lib.hid (HZ0.out.bytes ht1 hs1)
  have TZ1 := Lib.hid ((T2.out.trans (Trn.of_below HBd.out)).trans (src_trn ht1))
  have HK1 := Lib.hid (fun b hb => (two_keepS (W := wn) (w' := z1) (ht1.block m (by have := HBd.out.size; have := (Array.getElem?_eq_some_iff.1 HBX.out).1; omega) H2.out.hne) (ht1.block p (by have := HBd.out.size; have := (Array.getElem?_eq_some_iff.1 HPX.out).1; omega) hps) b hb).trans (HKn.out b hb) : ∀ b ∈ [m, p], z1.heap[b]? = w2.heap[b]?)
  clear hs1 ht1 HD
  (first | refine ⟨fun _ => ⟨_, keepS_of HK1.out⟩, ?_⟩ | refine ⟨⟨_, keepS_of HK1.out⟩, ?_⟩)
  refine mix_now ?_
  refine mix_step rfl ?_
  go_wp2_with fail
  have hal := (Below.refl z1.heap.size z1).alloc (Nat.le_refl _) (.cells #[.int .i64 (v3 : Nat)] 3)
  have HN := name_any 97 v3 (by omega) z1.heap.size _ (heap_alloc_new z1 (.cells #[.int .i64 (v3 : Nat)] 3))
  rw [hns] at HN
  have HN := Lib.hid HN
  have HZ2 := Lib.hid (HZ1.out.below hal)
  have TZ2 := Lib.hid (TZ1.out.trans (Trn.of_below hal))
  have HK2 := Lib.hid (fun b hb => (two_keepS (W := z1) (hal.block m (by have := HBd.out.size; have := (Array.getElem?_eq_some_iff.1 ((HK1.out m (by simp)).trans HBX.out)).1; omega)) (hal.block p (Array.getElem?_eq_some_iff.1 ((HK1.out p (by simp)).trans HPX.out)).1) b hb).trans (HK1.out b hb) : ∀ b ∈ [m, p], (z1.alloc (.cells #[.int .i64 (v3 : Nat)] 3)).heap[b]? = w2.heap[b]?)
  clear hal hns
  (first | refine ⟨fun _ => ⟨_, keepS_of HK2.out⟩, ?_⟩ | refine ⟨⟨_, keepS_of HK2.out⟩, ?_⟩)
  refine mix_now ?_
  refine mix_step rfl ?_
  go_wp2_with (go_at_call 22; refine HN.out.mono ?_; rintro e z ⟨rfl, rfl⟩)
  (first | refine ⟨fun _ => ⟨_, keepS_of HK2.out⟩, ?_⟩ | refine ⟨⟨_, keepS_of HK2.out⟩, ?_⟩)
  refine mix_tail [16, 17, 18, 19] [_, _, _, _] _ _ rfl rfl ?_
  obtain ⟨av2, hbx2, -⟩ := HZ2.out.box
  have c10 := row_of hbx2 10 (.string .empty) rfl
  have f10 := frozen_of_row _ m 10 _ _ hbx2
  clear hbx2
  go_upto_region 5 with fail
  clear c10 f10 HN
  have H3 := Lib.hid (HZ2.out.name n3)
  have T3 := Lib.hid (TZ2.out.trans (put_trn _ m s base 10 (.string n3)))
  clear HZ0 HZ1 TZ1 HZ2 TZ2 HK1 HK2 HKn HBd HBX HPX HEN hps
  generalize (z1.alloc (.cells #[.int .i64 (v3 : Nat)] 3)).setCell ⟨m, 10, none⟩ (.string n3) = w3 at *
  have hd4 := opd_st H3.out (by simp)
  obtain ⟨a4, hdd4⟩ : ∃ x, (opdS par l3).1 = x := ⟨_, rfl⟩
  obtain ⟨l4, hdl4⟩ : ∃ x, (opdS par l3).2 = x := ⟨_, rfl⟩
  rw [hdd4, hdl4] at hd4
  have HD4 := Lib.hid hd4
  have HX4 : Hid (opdS par l3 = (a4, l4)) := (by show _ = _; rw [← hdd4, ← hdl4])
  clear hd4 hdd4 hdl4
  go_wp2_with (go_at_call 90; refine HD4.out.mono ?_; rintro e w4 ⟨rfl, hn, tn⟩; have H4 := Lib.hid hn; have T4 := Lib.hid (T3.out.trans tn); clear hn tn)
  clear HD4
  go_end0
  have hx : loadS E l = (mkI 2 0 d2 n3 [a4], l4) := by
    unfold loadS
    rw [if_neg g]
    simp only [bindS, pureS, opdsS, HPAR.out, HX2.out, HX3.out, HX4.out, HNS3.out]
    try rfl
  unfold Made1
  rw [hx]
  exact ⟨rfl, H4.out, T4.out⟩
set_option maxRecDepth 100000 in
set_option maxHeartbeats 3200000 in
theorem store_any (m s p par fn : Nat) (mn : Bool) (tv cv : Value) (base : Nat) (l : List UInt8) (E : EnvS) (w : World) (hE : E.par = par) (hEnv : EnvAt w m s p base E) (h : MS w m s p par fn mn tv cv base 0 0 .empty .empty [] (-1) l) :
    Calls Tryz.prog 71 #[.pointer (some ⟨m, 0, none⟩)] w (Made1 m s p par fn mn tv cv base (storeS E l).1 (storeS E l).2 w) := by
  have H := Lib.hid h
  have HT0 : Hid (Trn (mS m s base) w w) := Trn.refl _ _
  have HE := Lib.hid hEnv
  clear hEnv
  have HPAR := Lib.hid hE
  clear h hE
  go_enter Tryz.func71, Tryz.ntmps71
  obtain ⟨wd, ca, cc, aa, ac, fa, fc, mv, hpx, -⟩ := HE.out.box
  obtain ⟨av, hbx, -⟩ := H.out.box
  have q1 := row_of hbx 1 (.pointer (some ⟨p, 0, none⟩)) rfl
  have q2 := row_of hpx 2 (.slice aa E.arrs ac) rfl
  have ha2 := HE.out.ha2
  clear hpx hbx
  by_cases g : E.arrs = 0
  · have g1 : (E.arrs : Int) = 0 := by omega
    have g2 : ((E.arrs : Int) == 0) = true := by simp [g1]
    have hc := copied_any m s p par fn mn tv cv base l E w HPAR.out H.out
    have HC := Lib.hid hc
    clear hc
    go_wp2_with (go_at_call 68; refine HC.out.mono ?_; rintro e z ⟨rfl, hz, tz⟩)
    go_end0
    unfold Made1
    rw [show storeS E l = copiedS E l from by unfold storeS; rw [if_pos g]]
    exact ⟨rfl, hz, tz⟩
  have g1 : ¬ (E.arrs : Int) = 0 := by omega
  have g2 : ((E.arrs : Int) == 0) = false := by simp [g]
  go_upto_region 2 with fail
  clear q1 q2 g1 g2
  obtain ⟨av, hbx, -⟩ := H.out.box
  have c7 := row_of hbx 7 (.int .u8 0) rfl
  have f7 := frozen_of_row w m 7 _ _ hbx
  clear hbx
  go_upto_region 3 with fail
  clear c7 f7
  have H1 := Lib.hid (H.out.kind 3)
  have T1 := Lib.hid (HT0.out.trans (put_trn w m s base 7 (.int .u8 3)))
  generalize w.setCell ⟨m, 7, none⟩ (.int .u8 3) = w1 at *
  have hc1 : 1 ≤ E.arrs := by omega
  have hc2 := HE.out.ha2
  obtain ⟨v2, hv⟩ : ∃ x, (takeS E.arrs l).1 = x := ⟨_, rfl⟩
  obtain ⟨l2, hr⟩ : ∃ x, (takeS E.arrs l).2 = x := ⟨_, rfl⟩
  have hvl2 : v2 < E.arrs := by rw [← hv]; exact take_small E.arrs l (by omega)
  have HX2 : Hid (takeS E.arrs l = (v2, l2)) := (by show _ = _; rw [← hv, ← hr])
  obtain ⟨n2, hns⟩ : ∃ x, nmS 97 v2 = x := ⟨_, rfl⟩
  have HNS2 := Lib.hid hns
  have HEN := Lib.hid (HE.out.trn T1.out)
  obtain ⟨wd, ca, cc, aa, ac, fa, fc, mv, hpx, -⟩ := HEN.out.box
  obtain ⟨av, hbx, -⟩ := H1.out.box
  have HBX := Lib.hid hbx
  have HPX := Lib.hid hpx
  have l0 := keepS_cell (S := [m, p]) (by simp) (row_of hbx 0 (.pointer (some ⟨s, 0, none⟩)) rfl)
  have l1 := keepS_cell (S := [m, p]) (by simp) (row_of hbx 1 (.pointer (some ⟨p, 0, none⟩)) rfl)
  have p1 := keepS_cell (S := [m, p]) (by simp) (row_of hpx 2 (.slice aa E.arrs ac) rfl)
  have hps : p ≠ s := fun e => HE.out.hp (.inr (.inl e))
  refine wp_region_mixS [m, p] (.one [0, 1, 2, 3, 4, 5, 6, 7, 8, 9, 10, 11, 12] 13 (.one [] 14 (.one [] 15 (tailOf [16, 17, 18, 19])))) (fun j => decide (16 ≤ j)) (by kernel_rfl) (by kernel_rfl) rfl (by kernel_rfl) (fun _ d _ _ _ h => by cases d <;> exact h) ?_
  have HBd : Hid (Below w1.heap.size w1 w1.drew) := (Below.refl _ _).drew
  generalize w1.drew = wn at *
  have HKn := Lib.hid (two_keepS (HBd.out.block m (Array.getElem?_eq_some_iff.1 hbx).1) (HBd.out.block p (Array.getElem?_eq_some_iff.1 hpx).1))
  have HZ0 := Lib.hid (H1.out.below HBd.out)
  clear hbx hpx
  refine mix_one (by simp only [opsOf, List.filterMap_cons, List.filterMap_nil, List.getElem?_toArray, List.getElem?_cons_succ, List.getElem?_cons_zero]; rfl) ⟨_, keepS_of HKn.out⟩ ?_
  change wpQuiet _ _ _ _ [_, _, _, _, _, _, _, _, _, _, _, _, _] _
  (repeat (go_big_quiet_step (fail)))
  clear l0 l1 p1
  refine wpQuiet_nil ?_
  refine mix_step rfl ?_
  have ht := take_any s l E.arrs wn HZ0.out.src (by omega) (by omega)
  rw [hv, hr] at ht
  have HD := Lib.hid ht
  clear hv hr ht
  go_wp2_with (go_at_call 21; refine HD.out.mono ?_; rintro e z1 ⟨rfl, hs1, ht1⟩)
  have HZ1 := Lib.hid (HZ0.out.bytes ht1 hs1)
  have TZ1 := Lib.hid ((T1.out.trans (Trn.of_below HBd.out)).trans (src_trn ht1))
  have HK1 := Lib.hid (fun b hb => (two_keepS (W := wn) (w' := z1) (ht1.block m (by have := HBd.out.size; have := (Array.getElem?_eq_some_iff.1 HBX.out).1; omega) H1.out.hne) (ht1.block p (by have := HBd.out.size; have := (Array.getElem?_eq_some_iff.1 HPX.out).1; omega) hps) b hb).trans (HKn.out b hb) : ∀ b ∈ [m, p], z1.heap[b]? = w1.heap[b]?)
  clear hs1 ht1 HD
  (first | refine ⟨fun _ => ⟨_, keepS_of HK1.out⟩, ?_⟩ | refine ⟨⟨_, keepS_of HK1.out⟩, ?_⟩)
  refine mix_now ?_
  refine mix_step rfl ?_
  go_wp2_with fail
  have hal := (Below.refl z1.heap.size z1).alloc (Nat.le_refl _) (.cells #[.int .i64 (v2 : Nat)] 3)
  have HN := name_any 97 v2 (by omega) z1.heap.size _ (heap_alloc_new z1 (.cells #[.int .i64 (v2 : Nat)] 3))
  rw [hns] at HN
  have HN := Lib.hid HN
  have HZ2 := Lib.hid (HZ1.out.below hal)
  have TZ2 := Lib.hid (TZ1.out.trans (Trn.of_below hal))
  have HK2 := Lib.hid (fun b hb => (two_keepS (W := z1) (hal.block m (by have := HBd.out.size; have := (Array.getElem?_eq_some_iff.1 ((HK1.out m (by simp)).trans HBX.out)).1; omega)) (hal.block p (Array.getElem?_eq_some_iff.1 ((HK1.out p (by simp)).trans HPX.out)).1) b hb).trans (HK1.out b hb) : ∀ b ∈ [m, p], (z1.alloc (.cells #[.int .i64 (v2 : Nat)] 3)).heap[b]? = w1.heap[b]?)
  clear hal hns
  (first | refine ⟨fun _ => ⟨_, keepS_of HK2.out⟩, ?_⟩ | refine ⟨⟨_, keepS_of HK2.out⟩, ?_⟩)
  refine mix_now ?_
  refine mix_step rfl ?_
  go_wp2_with (go_at_call 22; refine HN.out.mono ?_; rintro e z ⟨rfl, rfl⟩)
  (first | refine ⟨fun _ => ⟨_, keepS_of HK2.out⟩, ?_⟩ | refine ⟨⟨_, keepS_of HK2.out⟩, ?_⟩)
  refine mix_tail [16, 17, 18, 19] [_, _, _, _] _ _ rfl rfl ?_
  obtain ⟨av2, hbx2, -⟩ := HZ2.out.box
  have c10 := row_of hbx2 10 (.string .empty) rfl
  have f10 := frozen_of_row _ m 10 _ _ hbx2
  clear hbx2
  go_upto_region 4 with fail
  clear c10 f10 HN
  have H2 := Lib.hid (HZ2.out.name n2)
  have T2 := Lib.hid (TZ2.out.trans (put_trn _ m s base 10 (.string n2)))
  clear HZ0 HZ1 TZ1 HZ2 TZ2 HK1 HK2 HKn HBd HBX HPX HEN hps
  generalize (z1.alloc (.cells #[.int .i64 (v2 : Nat)] 3)).setCell ⟨m, 10, none⟩ (.string n2) = w2 at *
  have hd3 := opd_st H2.out (by simp)
  obtain ⟨a3, hdd3⟩ : ∃ x, (opdS par l2).1 = x := ⟨_, rfl⟩
  obtain ⟨l3, hdl3⟩ : ∃ x, (opdS par l2).2 = x := ⟨_, rfl⟩
  rw [hdd3, hdl3] at hd3
  have HD3 := Lib.hid hd3
  have HX3 : Hid (opdS par l2 = (a3, l3)) := (by show _ = _; rw [← hdd3, ← hdl3])
  clear hd3 hdd3 hdl3
  go_upto_region 5 with (go_at_call 90; refine HD3.out.mono ?_; rintro e w3 ⟨rfl, hn, tn⟩; have H3 := Lib.hid hn; have T3 := Lib.hid (T2.out.trans tn); clear hn tn)
  clear HD3
  have hd4 := opd_st H3.out (by simp)
  obtain ⟨a4, hdd4⟩ : ∃ x, (opdS par l3).1 = x := ⟨_, rfl⟩
  obtain ⟨l4, hdl4⟩ : ∃ x, (opdS par l3).2 = x := ⟨_, rfl⟩
  rw [hdd4, hdl4] at hd4
  have HD4 := Lib.hid hd4
  have HX4 : Hid (opdS par l3 = (a4, l4)) := (by show _ = _; rw [← hdd4, ← hdl4])
  clear hd4 hdd4 hdl4
  go_wp2_with (go_at_call 90; refine HD4.out.mono ?_; rintro e w4 ⟨rfl, hn, tn⟩; have H4 := Lib.hid hn; have T4 := Lib.hid (T3.out.trans tn); clear hn tn)
  clear HD4
  go_end0
  have hx : storeS E l = (mkI 3 0 .empty n2 [a3, a4], l4) := by
    unfold storeS
    rw [if_neg g]
    simp only [bindS, pureS, opdsS, HPAR.out, HX2.out, HX3.out, HX4.out, HNS2.out]
    try rfl
  unfold Made1
  rw [hx]
  exact ⟨rfl, H4.out, T4.out⟩
set_option maxRecDepth 100000 in
set_option maxHeartbeats 3200000 in
theorem branch_any (m s p par fn : Nat) (mn : Bool) (tv cv : Value) (base : Nat) (l : List UInt8) (E : EnvS) (w : World) (hE : E.par = par) (nc : Nat) (xa : Option Addr) (xc : Nat) (hcv : cv = .slice xa nc xc) (hnc : nc ≤ 100) (h : MS w m s p par fn mn tv cv base 0 0 .empty .empty [] (-1) l) :
    Calls Tryz.prog 76 #[.pointer (some ⟨m, 0, none⟩)] w (Made1 m s p par fn mn tv cv base (branchS E nc l).1 (branchS E nc l).2 w) := by
  subst hcv
  have H := Lib.hid h
  have HT0 : Hid (Trn (mS m s base) w w) := Trn.refl _ _
  have HPAR := Lib.hid hE
  clear h hE
  go_enter Tryz.func76, Tryz.ntmps76
  obtain ⟨av, hbx, -⟩ := H.out.box
  have c7 := row_of hbx 7 (.int .u8 0) rfl
  have f7 := frozen_of_row w m 7 _ _ hbx
  clear hbx
  go_upto_region 1 with fail
  clear c7 f7
  have H1 := Lib.hid (H.out.kind 9)
  have T1 := Lib.hid (HT0.out.trans (put_trn w m s base 7 (.int .u8 9)))
  generalize w.setCell ⟨m, 7, none⟩ (.int .u8 9) = w1 at *
  have hd2 := opd_st H1.out (by simp)
  obtain ⟨a2, hdd2⟩ : ∃ x, (opdS par l).1 = x := ⟨_, rfl⟩
  obtain ⟨l2, hdl2⟩ : ∃ x, (opdS par l).2 = x := ⟨_, rfl⟩
  rw [hdd2, hdl2] at hd2
  have HD2 := Lib.hid hd2
  have HX2 : Hid (opdS par l = (a2, l2)) := (by show _ = _; rw [← hdd2, ← hdl2])
  clear hd2 hdd2 hdl2
  go_upto_region 2 with (go_at_call 90; refine HD2.out.mono ?_; rintro e w2 ⟨rfl, hn, tn⟩; have H2 := Lib.hid hn; have T2 := Lib.hid (T1.out.trans tn); clear hn tn)
  clear HD2
  obtain ⟨v3, hv⟩ : ∃ x, (takeS (nc + 4) l2).1 = x := ⟨_, rfl⟩
  obtain ⟨l3, hr⟩ : ∃ x, (takeS (nc + 4) l2).2 = x := ⟨_, rfl⟩
  have hvl3 : v3 < nc + 4 := by rw [← hv]; exact take_small (nc + 4) l2 (by omega)
  have HX3 : Hid (takeS (nc + 4) l2 = (v3, l3)) := (by show _ = _; rw [← hv, ← hr])
  obtain ⟨av, hbx, -⟩ := H2.out.box
  have l0 := keepS_cell (S := [m]) (by simp) (row_of hbx 0 (.pointer (some ⟨s, 0, none⟩)) rfl)
  have l6 := keepS_cell (S := [m]) (by simp) (row_of hbx 6 (.slice xa nc xc) rfl)
  refine wp_region_mixS [m] (.one [0, 1, 2, 3, 4, 5, 6, 7, 8, 9, 10] 11 (tailOf [12, 13, 14])) (fun j => decide (12 ≤ j)) (by kernel_rfl) (by kernel_rfl) rfl (by kernel_rfl) (fun _ d _ _ _ h => by cases d <;> exact h) ?_
  have HBd : Hid (Below w2.heap.size w2 w2.drew) := (Below.refl _ _).drew
  generalize w2.drew = wn at *
  have hmx := (Array.getElem?_eq_some_iff.1 hbx).1
  have HKn : Hid (∀ b ∈ [m], wn.heap[b]? = w2.heap[b]?) := fun b hb => by
    simp only [List.mem_cons, List.not_mem_nil, or_false] at hb
    subst hb
    exact HBd.out.block _ hmx
  have HZ0 := Lib.hid (H2.out.below HBd.out)
  clear hbx
  refine mix_one (by simp only [opsOf, List.filterMap_cons, List.filterMap_nil, List.getElem?_toArray, List.getElem?_cons_succ, List.getElem?_cons_zero]; rfl) ⟨_, keepS_of HKn.out⟩ ?_
  change wpQuiet _ _ _ _ [_, _, _, _, _, _, _, _, _, _, _] _
  (repeat (go_big_quiet_step (fail)))
  clear l0 l6
  refine wpQuiet_nil ?_
  refine mix_step rfl ?_
  have ht := take_any s l2 (nc + 4) wn HZ0.out.src (by omega) (by omega)
  rw [hv, hr, show (((nc + 4 : Nat)) : Int) = (nc : Int) + 4 from by omega] at ht
  have HD := Lib.hid ht
  clear hv hr ht
  go_wp2_with (go_at_call 21; refine HD.out.mono ?_; rintro e z1 ⟨rfl, hs1, ht1⟩)
  have HZ1 := Lib.hid (HZ0.out.bytes ht1 hs1)
  have TZ1 := Lib.hid ((T2.out.trans (Trn.of_below HBd.out)).trans (src_trn ht1))
  have HK1 : Hid (∀ b ∈ [m], z1.heap[b]? = w2.heap[b]?) := fun b hb => (by
    have hb' := hb
    simp only [List.mem_cons, List.not_mem_nil, or_false] at hb
    subst hb
    exact (ht1.block _ (by have := HBd.out.size; omega) H2.out.hne).trans (HKn.out _ hb'))
  clear hs1 ht1 HD
  (first | refine ⟨fun _ => ⟨_, keepS_of HK1.out⟩, ?_⟩ | refine ⟨⟨_, keepS_of HK1.out⟩, ?_⟩)
  refine mix_tail [12, 13, 14] [_, _, _] _ _ rfl rfl ?_
  obtain ⟨av2, hbx2, -⟩ := HZ1.out.box
  have c14 := row_of hbx2 14 (.int .i64 (-1)) rfl
  have f14 := frozen_of_row _ m 14 _ _ hbx2
  clear hbx2
  go_wp2_with fail
  clear c14 f14
  have H3 := Lib.hid (HZ1.out.target (v3 : Nat))
  have T3 := Lib.hid (TZ1.out.trans (put_trn _ m s base 14 (.int .i64 (v3 : Nat))))
  clear HZ0 HZ1 TZ1 HK1 HKn HBd
  generalize z1.setCell ⟨m, 14, none⟩ (.int .i64 (v3 : Nat)) = w3 at *
  go_end0
  have hx : branchS E nc l = (mkI 9 0 .empty .empty [a2] (v3 : Nat), l3) := by
    unfold branchS
    simp only [bindS, pureS, opdsS, HPAR.out, HX2.out, HX3.out]
    try rfl
  unfold Made1
  rw [hx]
  exact ⟨rfl, H3.out, T3.out⟩
set_option maxRecDepth 100000 in
set_option maxHeartbeats 3200000 in
theorem jump_any (m s p par fn : Nat) (mn : Bool) (tv cv : Value) (base : Nat) (l : List UInt8) (E : EnvS) (w : World) (hE : E.par = par) (nc : Nat) (xa : Option Addr) (xc : Nat) (hcv : cv = .slice xa nc xc) (hnc : nc ≤ 100) (h : MS w m s p par fn mn tv cv base 0 0 .empty .empty [] (-1) l) :
    Calls Tryz.prog 77 #[.pointer (some ⟨m, 0, none⟩)] w (Made1 m s p par fn mn tv cv base (jumpS nc l).1 (jumpS nc l).2 w) := by
  subst hcv
  have H := Lib.hid h
  have HT0 : Hid (Trn (mS m s base) w w) := Trn.refl _ _
  have HPAR := Lib.hid hE
  clear h hE
  go_enter Tryz.func77, Tryz.ntmps77
  obtain ⟨av, hbx, -⟩ := H.out.box
  have c7 := row_of hbx 7 (.int .u8 0) rfl
  have f7 := frozen_of_row w m 7 _ _ hbx
  clear hbx
  go_upto_region 1 with fail
  clear c7 f7
  have H1 := Lib.hid (H.out.kind 8)
  have T1 := Lib.hid (HT0.out.trans (put_trn w m s base 7 (.int .u8 8)))
  generalize w.setCell ⟨m, 7, none⟩ (.int .u8 8) = w1 at *
  obtain ⟨v2, hv⟩ : ∃ x, (takeS (nc + 4) l).1 = x := ⟨_, rfl⟩
  obtain ⟨l2, hr⟩ : ∃ x, (takeS (nc + 4) l).2 = x := ⟨_, rfl⟩
  have hvl2 : v2 < nc + 4 := by rw [← hv]; exact take_small (nc + 4) l (by omega)
  have HX2 : Hid (takeS (nc + 4) l = (v2, l2)) := (by show _ = _; rw [← hv, ← hr])
  obtain ⟨av, hbx, -⟩ := H1.out.box
  have l0 := keepS_cell (S := [m]) (by simp) (row_of hbx 0 (.pointer (some ⟨s, 0, none⟩)) rfl)
  have l6 := keepS_cell (S := [m]) (by simp) (row_of hbx 6 (.slice xa nc xc) rfl)
  refine wp_region_mixS [m] (.one [0, 1, 2, 3, 4, 5, 6, 7, 8, 9, 10] 11 (tailOf [12, 13, 14])) (fun j => decide (12 ≤ j)) (by kernel_rfl) (by kernel_rfl) rfl (by kernel_rfl) (fun _ d _ _ _ h => by cases d <;> exact h) ?_
  have HBd : Hid (Below w1.heap.size w1 w1.drew) := (Below.refl _ _).drew
  generalize w1.drew = wn at *
  have hmx := (Array.getElem?_eq_some_iff.1 hbx).1
  have HKn : Hid (∀ b ∈ [m], wn.heap[b]? = w1.heap[b]?) := fun b hb => by
    simp only [List.mem_cons, List.not_mem_nil, or_false] at hb
    subst hb
    exact HBd.out.block _ hmx
  have HZ0 := Lib.hid (H1.out.below HBd.out)
  clear hbx
  refine mix_one (by simp only [opsOf, List.filterMap_cons, List.filterMap_nil, List.getElem?_toArray, List.getElem?_cons_succ, List.getElem?_cons_zero]; rfl) ⟨_, keepS_of HKn.out⟩ ?_
  change wpQuiet _ _ _ _ [_, _, _, _, _, _, _, _, _, _, _] _
  (repeat (go_big_quiet_step (fail)))
  clear l0 l6
  refine wpQuiet_nil ?_
  refine mix_step rfl ?_
  have ht := take_any s l (nc + 4) wn HZ0.out.src (by omega) (by omega)
  rw [hv, hr, show (((nc + 4 : Nat)) : Int) = (nc : Int) + 4 from by omega] at ht
  have HD := Lib.hid ht
  clear hv hr ht
  go_wp2_with (go_at_call 21; refine HD.out.mono ?_; rintro e z1 ⟨rfl, hs1, ht1⟩)
  have HZ1 := Lib.hid (HZ0.out.bytes ht1 hs1)
  have TZ1 := Lib.hid ((T1.out.trans (Trn.of_below HBd.out)).trans (src_trn ht1))
  have HK1 : Hid (∀ b ∈ [m], z1.heap[b]? = w1.heap[b]?) := fun b hb => (by
    have hb' := hb
    simp only [List.mem_cons, List.not_mem_nil, or_false] at hb
    subst hb
    exact (ht1.block _ (by have := HBd.out.size; omega) H1.out.hne).trans (HKn.out _ hb'))
  clear hs1 ht1 HD
  (first | refine ⟨fun _ => ⟨_, keepS_of HK1.out⟩, ?_⟩ | refine ⟨⟨_, keepS_of HK1.out⟩, ?_⟩)
  refine mix_tail [12, 13, 14] [_, _, _] _ _ rfl rfl ?_
  obtain ⟨av2, hbx2, -⟩ := HZ1.out.box
  have c14 := row_of hbx2 14 (.int .i64 (-1)) rfl
  have f14 := frozen_of_row _ m 14 _ _ hbx2
  clear hbx2
  go_wp2_with fail
  clear c14 f14
  have H2 := Lib.hid (HZ1.out.target (v2 : Nat))
  have T2 := Lib.hid (TZ1.out.trans (put_trn _ m s base 14 (.int .i64 (v2 : Nat))))
  clear HZ0 HZ1 TZ1 HK1 HKn HBd
  generalize z1.setCell ⟨m, 14, none⟩ (.int .i64 (v2 : Nat)) = w2 at *
  go_end0
  have hx : jumpS nc l = (mkI 8 0 .empty .empty [] (v2 : Nat), l2) := by
    unfold jumpS
    simp only [bindS, pureS, opdsS, HPAR.out, HX2.out]
    try rfl
  unfold Made1
  rw [hx]
  exact ⟨rfl, H2.out, T2.out⟩
set_option maxRecDepth 100000 in
set_option maxHeartbeats 3200000 in
theorem endm_any (m s p par fn : Nat) (mn : Bool) (tv cv : Value) (base : Nat) (l : List UInt8) (E : EnvS) (w : World) (hE : E.par = par) (hmn : E.main = mn) (h : MS w m s p par fn mn tv cv base 0 0 .empty .empty [] (-1) l) :
    Calls Tryz.prog 78 #[.pointer (some ⟨m, 0, none⟩)] w (Made1 m s p par fn mn tv cv base (endS E l).1 (endS E l).2 w) := by
  have H := Lib.hid h
  have HMN := Lib.hid hmn
  clear hmn
  have HT0 : Hid (Trn (mS m s base) w w) := Trn.refl _ _
  have HPAR := Lib.hid hE
  clear h hE
  go_enter Tryz.func78, Tryz.ntmps78
  obtain ⟨av, hbx, -⟩ := H.out.box
  have c7 := row_of hbx 7 (.int .u8 0) rfl
  have f7 := frozen_of_row w m 7 _ _ hbx
  clear hbx
  go_upto_region 1 with fail
  clear c7 f7
  have H1 := Lib.hid (H.out.kind 11)
  have T1 := Lib.hid (HT0.out.trans (put_trn w m s base 7 (.int .u8 11)))
  generalize w.setCell ⟨m, 7, none⟩ (.int .u8 11) = w1 at *
  obtain ⟨av, hbx, -⟩ := H1.out.box
  have c4 := row_of hbx 4 (.bool mn) rfl
  clear hbx
  cases mn
  rotate_left
  · go_wp2_with fail
    go_end0
    unfold Made1
    rw [show endS E l = (mkI 11 0 .empty .empty [], l) from by unfold endS; rw [HMN.out]; rfl]
    exact ⟨rfl, H1.out, T1.out⟩
  · go_upto_region 2 with fail
    clear c4
    obtain ⟨av, hbx, -⟩ := H1.out.box
    have c7 := row_of hbx 7 (.int .u8 11) rfl
    have f7 := frozen_of_row w1 m 7 _ _ hbx
    clear hbx
    go_upto_region 3 with fail
    clear c7 f7
    have H2 := Lib.hid (H1.out.kind 12)
    have T2 := Lib.hid (T1.out.trans (put_trn w1 m s base 7 (.int .u8 12)))
    generalize w1.setCell ⟨m, 7, none⟩ (.int .u8 12) = w2 at *
    have hd3 := opd_st H2.out (by simp)
    obtain ⟨a3, hdd3⟩ : ∃ x, (opdS par l).1 = x := ⟨_, rfl⟩
    obtain ⟨l3, hdl3⟩ : ∃ x, (opdS par l).2 = x := ⟨_, rfl⟩
    rw [hdd3, hdl3] at hd3
    have HD3 := Lib.hid hd3
    have HX3 : Hid (opdS par l = (a3, l3)) := (by show _ = _; rw [← hdd3, ← hdl3])
    clear hd3 hdd3 hdl3
    go_wp2_with (go_at_call 90; refine HD3.out.mono ?_; rintro e w3 ⟨rfl, hn, tn⟩; have H3 := Lib.hid hn; have T3 := Lib.hid (T2.out.trans tn); clear hn tn)
    clear HD3
    go_end0
    have hx : endS E l = (mkI 12 0 .empty .empty [a3], l3) := by
      unfold endS
      rw [HMN.out]
      simp only [Bool.false_eq_true, if_false, bindS, pureS, opdsS, HPAR.out, HX3.out]
      try rfl
    unfold Made1
    rw [hx]
    exact ⟨rfl, H3.out, T3.out⟩
end Go.Proofs.YtfdinncgncbmfaaGreatDoor
