/- The reference of layer 41: operands, dst, array, channel. Conditions: the body's block and the taker's hold what is said. -/
import Derived.Test.YtbfkhnmpfffkmaaDoorSrA
set_option linter.unusedVariables false
set_option linter.unusedSimpArgs false
set_option linter.unnecessarySimpa false
namespace Go.Proofs.YtbfkhnmpfffkmaaDoor
open Go.Maps (Keyed int_keyed)
open Go.WideShapes Go.ChangeMaps Go.MapKept Go.WideMaps Go.ChangeAt Go.RowKit Go.ChangeShapes
theorem opds_snoc (par : Nat) : ∀ n l, opdsS par (n + 1) l = ((opdsS par n l).1 ++ [(opdS par (opdsS par n l).2).1], (opdS par (opdsS par n l).2).2)
  | 0, l => rfl
  | n + 1, l => by
    have ih := opds_snoc par n (opdS par l).2
    have e1 : opdsS par (n + 1 + 1) l = ((opdS par l).1 :: (opdsS par (n + 1) (opdS par l).2).1, (opdsS par (n + 1) (opdS par l).2).2) := rfl
    have e2 : opdsS par (n + 1) l = ((opdS par l).1 :: (opdsS par n (opdS par l).2).1, (opdsS par n (opdS par l).2).2) := rfl
    rw [e1, ih, e2]
    rfl
/-- The body's block as its methods look at it. -/
structure BdE (w : World) (bb g : Nat) (E : EnvS) : Prop where
  box : ∃ wd ca cc aa ac fa fc mv, BdAt w bb g wd (.slice ca E.chans cc) (.slice aa E.arrs ac) (.slice fa E.calls.length fc) mv E.par E.calls.length E.main ∧
    ∀ i n, E.calls[i]? = some n → ∃ b q pa pc, fa = some ⟨b, q, none⟩ ∧ w.cell? ⟨b, q + i * 5 + 1, none⟩ = some (.slice pa n pc) ∧ b ≠ g
  hne : bb ≠ g
  hc : 1 ≤ E.chans
  hc2 : E.chans ≤ 90
  ha2 : E.arrs ≤ 90
  hp : E.par ≤ 90
  hf2 : E.calls.length ≤ 90
  ho : ∀ n ∈ E.calls, n ≤ 90
theorem BdE.trn {w w' : World} {bb g : Nat} {E : EnvS} (h : BdE w bb g E) (t : Trn (fun k => k = g) w w') : BdE w' bb g E := by
  obtain ⟨wd, ca, cc, aa, ac, fa, fc, mv, h1, h2⟩ := h.box
  refine ⟨⟨wd, ca, cc, aa, ac, fa, fc, mv, t.heap h1 h.hne, fun i n hi => ?_⟩, h.hne, h.hc, h.hc2, h.ha2, h.hp, h.hf2, h.ho⟩
  obtain ⟨b, q, pa, pc, e, hx, hb⟩ := h2 i n hi
  exact ⟨b, q, pa, pc, e, by rw [World.cell?_of_block (w := w) (t.block b (block_lt_of_cell hx) hb)]; exact hx, hb⟩
theorem BdE.lt {w : World} {bb g : Nat} {E : EnvS} (h : BdE w bb g E) : bb < w.heap.size := by
  obtain ⟨wd, ca, cc, aa, ac, fa, fc, mv, h1, h2⟩ := h.box
  exact (Array.getElem?_eq_some_iff.1 h1).1
theorem opdR (bb g : Nat) (s : ByteArray) (E : EnvS) (l : List UInt8) (w : World) (hB : BdE w bb g E) (hT : TkL w g s l) (hsz : s.size ≤ 5000) :
    Calls Tryd.prog 46 #[.pointer (some ⟨bb, 0, none⟩)] w (TookR g s w (.agg #[.string (opdS E.par l).1.name, .int .u64 (opdS E.par l).1.num]) (opdS E.par l).2) := by
  obtain ⟨wd, ca, cc, aa, ac, fa, fc, mv, h1, h2⟩ := hB.box
  exact operandR_any bb g wd _ _ _ mv E.par _ _ s l w h1 hT hB.hne hsz hB.hp
set_option maxRecDepth 100000 in
set_option maxHeartbeats 3200000 in
theorem operandsR_any (bb g : Nat) (s : ByteArray) (E : EnvS) (n : Nat) (l : List UInt8) (w : World) (hB : BdE w bb g E) (hT : TkL w g s l) (hsz : s.size ≤ 5000) (hn : n ≤ 90) :
    Calls Tryd.prog 30 #[.pointer (some ⟨bb, 0, none⟩), .int .i64 n] w fun e w' => ∃ v, e = .returned v ∧ w'.ownsRow w.heap.size 45 2 v n ((opdsS E.par n l).1.flatMap argCells) ∧ TkL w' g s (opdsS E.par n l).2 ∧ Trn (fun k => k = g) w w' := by
  obtain ⟨i0, hi, hz0, hz1, hz2⟩ := info_parts infoArg
  have HB := Lib.hid hB
  have HT := Lib.hid hT
  have hgl : g < w.heap.size := hT.lt
  clear hB hT
  go_enter Tryd.func30, Tryd.ntmps30
  go_wp2_with fail
  go_loopw [5, 6] (fun v i wr => ∃ (k : Nat) (A : List ArgD) (lq : List UInt8), k ≤ n ∧ i = .int .i64 k ∧ Hid (opdsS E.par k l = (A, lq)) ∧ A.length = k ∧ wr.ownsRow w.heap.size 45 2 v A.length (A.flatMap argCells) ∧ TkL wr g s lq ∧ Trn (fun k => k = g) w wr) (fun _ i _ => n - (intOf i).toNat)
  case atStart => exact ⟨0, [], l, Nat.zero_le _, rfl, rfl, rfl, World.ownsRow_nil _ _ _ _, HT.out, Trn.refl _ _⟩
  case round =>
    obtain ⟨k, A, lq, hk, rfl, HA, hAl, ho, ht, htr⟩ := hrel
    obtain ⟨w1, rfl⟩ : ∃ x : World, x = wr := ⟨_, rfl⟩
    have HO := Lib.hid ho
    have HS := Lib.hid ht
    have HTR := Lib.hid htr
    have HAL := Lib.hid hAl
    have hA90 : A.length ≤ 90 := by omega
    clear ho ht htr hAl
    by_cases hlt : k < n
    · have hlt1 : (k : Int) < (n : Int) := by omega
      obtain ⟨x, hx⟩ : ∃ x, (opdS E.par lq).1 = x := ⟨_, rfl⟩
      obtain ⟨l2, hl2⟩ : ∃ x, (opdS E.par lq).2 = x := ⟨_, rfl⟩
      have hc := opdR bb g s E lq w1 (HB.out.trn HTR.out) HS.out hsz
      rw [hx, hl2] at hc
      have HC := Lib.hid hc
      have HA2 : Hid (opdsS E.par (k + 1) l = (A ++ [x], l2)) := by
        show _ = _
        rw [opds_snoc, HA.out, hx, hl2]
      clear hc hx hl2
      go_wp2_with (first | (go_at_call 46; refine HC.out.mono ?_; rintro e z ⟨rfl, hs1, ht1⟩; have HS1 := Lib.hid hs1; have HT1 := Lib.hid ht1; have HO1 := Lib.hid (own_trn HO.out ht1 (fun b hb e => by have := own_ge HO.out hb; have e' : b = g := e; omega)); have hsz1 : w1.heap.size ≤ z.heap.size := ht1.size; clear hs1 ht1) | (at_builtin; refine wpList_append_own _ rfl (.tmp 12) (.tmp 15) 33 rfl w.heap.size 45 i0 (.agg #[.string ⟨#[]⟩, .int .u64 0]) 2 24 Tryd.underlying33 hi hz0 hz1 hz2 rfl (by decide) _ _ _ rfl (HO1.out.alloc _) ⟨z.heap.size, 0, none⟩ 1 1 (argCells x) rfl rfl (many_new _ _ _) ?pa2 ?pb2 ?pc2 ?pd2 ?_))
      case pa2 => intro u hu; simp [argCells] at hu; rcases hu with rfl | rfl <;> rfl
      case pb2 => unfold maxLen; omega
      case pc2 => omega
      case pd2 => have := HTR.out.size; first | omega | (simp; omega)
      · intro v' w6 hown' hgrow _
        have hb6 := (Below.refl z.heap.size z).alloc (Nat.le_refl _) (.cells (argCells x).toArray 45)
        have HT6 : Hid (Trn (fun k => k = g) w w6) := ((HTR.out.trans HT1.out).trans (Trn.of_below hb6)).step (Trn.of_grown (S := fun b => w.heap.size ≤ b) hgrow (fun b hb => own_ge HO.out hb)) (fun i hi e => by have e' : w.heap.size ≤ i := e; omega)
        have HS6 := Lib.hid ((HS1.out.keep hb6).at (hgrow.block g (by have := HS1.out.lt; simp; omega) (fun e => by have := own_ge HO.out e.symm; omega)))
        have HO6 := Lib.hid hown'
        clear hown' hgrow hb6
        go_wp2_with fail
        go_roundw
        case rel => exact ⟨k + 1, A ++ [x], l2, by omega, by go_num, HA2.out, by simp [HAL.out], (by have h := HO6.out; simpa using h), HS6.out, HT6.out⟩
        case measure => simp [intOf]; omega
    · obtain rfl : k = n := by omega
      have hlt1 : ¬ (k : Int) < (k : Int) := by omega
      go_wp2_with fail
      go_ret
      refine ⟨_, rfl, ?_, ?_, HTR.out⟩
      · rw [HA.out]; have h := HO.out; rw [HAL.out] at h; exact h
      · rw [HA.out]; exact HS.out
set_option maxRecDepth 100000 in
set_option maxHeartbeats 1600000 in
theorem dstR_any (bb g : Nat) (s : ByteArray) (E : EnvS) (l : List UInt8) (w : World) (hB : BdE w bb g E) (hT : TkL w g s l) (hsz : s.size ≤ 5000) :
    Calls Tryd.prog 29 #[.pointer (some ⟨bb, 0, none⟩)] w (TookR g s w (.string (dstS l).1) (dstS l).2) := by
  obtain ⟨wd, ca, cc, aa, ac, fa, fc, mv, h1, -⟩ := hB.box
  have b0 := row_of h1 0 (.pointer (some ⟨g, 0, none⟩)) rfl
  obtain ⟨v, hv⟩ : ∃ x, (takeS 4 l).1 = x := ⟨_, rfl⟩
  obtain ⟨l2, hr⟩ : ∃ x, (takeS 4 l).2 = x := ⟨_, rfl⟩
  have hvl : v < 4 := by rw [← hv]; exact take_small 4 l (by omega)
  have hc := takeR_any g s l 4 w hT hsz (by omega) (by omega)
  rw [hv, hr] at hc
  have HC := Lib.hid hc
  have HRES : Hid (dstS l = (nmS 120 v, l2)) := by show _ = _; unfold dstS; rw [bindS, hv, hr]; rfl
  have HN : ∀ z, Hid (Calls Tryd.prog 22 #[.string ⟨#[120]⟩, .int .i64 v] z fun e w' => e = .returned (.string (nmS 120 v)) ∧ w' = z) := fun z => nameR_any 120 v (by omega) z
  clear hc hv hr h1 hT hB
  go_enter Tryd.func29, Tryd.ntmps29
  go_wp2_with (first | (go_at_call 21; refine HC.out.mono ?_; rintro e z ⟨rfl, hs1, ht1⟩; have HS1 := Lib.hid hs1; have HT1 := Lib.hid ht1; clear hs1 ht1) | (go_at_call 22; refine (HN _).out.mono ?_; rintro e z2 ⟨rfl, hz⟩; subst hz))
  go_ret
  rw [HRES.out]
  exact ⟨rfl, HS1.out, HT1.out⟩
set_option maxRecDepth 100000 in
set_option maxHeartbeats 1600000 in
theorem arrayR_any (bb g : Nat) (s : ByteArray) (E : EnvS) (l : List UInt8) (w : World) (hB : BdE w bb g E) (hT : TkL w g s l) (hsz : s.size ≤ 5000) (hm : 1 ≤ E.arrs) (hm2 : E.arrs ≤ 90) :
    Calls Tryd.prog 32 #[.pointer (some ⟨bb, 0, none⟩)] w (TookR g s w (.string (nmS 97 (takeS E.arrs l).1)) (takeS E.arrs l).2) := by
  obtain ⟨wd, ca, cc, aa, ac, fa, fc, mv, h1, -⟩ := hB.box
  have hne := hB.hne
  obtain ⟨m, hmm⟩ : ∃ m, E.arrs = m := ⟨_, rfl⟩
  unfold BdAt at h1
  rw [hmm] at h1 hm hm2 ⊢
  obtain ⟨v, hv⟩ : ∃ x, (takeS m l).1 = x := ⟨_, rfl⟩
  obtain ⟨l2, hr⟩ : ∃ x, (takeS m l).2 = x := ⟨_, rfl⟩
  have hvl : v < m := by rw [← hv]; exact take_small m l (by omega)
  have HTA : Hid (∀ z, TkL z g s l → Calls Tryd.prog 21 #[.pointer (some ⟨g, 0, none⟩), .int .i64 m] z fun e w' => e = .returned (.int .i64 (v : Nat)) ∧ TkL w' g s l2 ∧ Trn (fun k => k = g) z w') := fun z hz => by
    have h := takeR_any g s l m z hz hsz (by omega) (by omega)
    rw [hv, hr] at h
    exact h
  rw [hv, hr]
  have HBD := Lib.hid h1
  have HS := Lib.hid hT
  have hbx := (Array.getElem?_eq_some_iff.1 h1).1
  have hgl : g < w.heap.size := hT.lt
  clear hv hr hmm h1 hT hB
  go_enter Tryd.func32, Tryd.ntmps32
  go_upto_region 1 with fail
  have q0 := keepS_cell (S := [bb]) (by simp) (row_of HBD.out 0 _ rfl)
  have q1 := keepS_cell (S := [bb]) (by simp) (row_of HBD.out 3 _ rfl)
  refine wp_region_mixS [bb] (.one [0, 1, 2, 3, 4, 5, 6, 7, 8, 9] 10 (.one [] 11 (tailOf [12]))) (fun j => decide (12 ≤ j)) (by kernel_rfl) (by kernel_rfl) rfl (by kernel_rfl) (fun _ d _ _ _ h => by cases d <;> exact h) ?_
  have HD : Hid (Below w.heap.size w w.drew) := (Below.refl _ _).drew
  generalize w.drew = y0 at *
  have ONE : Hid (∀ z : World, z.heap[bb]? = w.heap[bb]? → ∀ b ∈ [bb], z.heap[b]? = w.heap[b]?) := fun z hz b hb => by
    simp only [List.mem_cons, List.not_mem_nil, or_false] at hb
    subst hb
    exact hz
  have HK0 := Lib.hid (ONE.out y0 (HD.out.block _ hbx))
  have HC := Lib.hid (HTA.out y0 (HS.out.keep HD.out))
  refine mix_one (by simp only [opsOf, List.filterMap_cons, List.filterMap_nil, List.getElem?_toArray, List.getElem?_cons_succ, List.getElem?_cons_zero]; rfl) ⟨_, keepS_of HK0.out⟩ ?_
  change wpQuiet _ _ _ _ [_, _, _, _, _, _, _, _, _, _] _
  (repeat (go_big_quiet_step (fail)))
  clear q0 q1
  refine wpQuiet_nil ?_
  refine mix_step rfl ?_
  go_wp2_with (go_at_call 21; refine HC.out.mono ?_; rintro e y1 ⟨rfl, hs1, ht1⟩; have HS1 := Lib.hid hs1; have HT1 := Lib.hid ht1; clear hs1 ht1)
  have HK1 := Lib.hid (ONE.out y1 ((HT1.out.block bb (by have := HD.out.size; omega) hne).trans (HD.out.block _ hbx)))
  (first | refine ⟨fun _ => ⟨_, keepS_of HK1.out⟩, ?_⟩ | refine ⟨⟨_, keepS_of HK1.out⟩, ?_⟩)
  have HN := Lib.hid (nameR_any 97 v (by omega) y1)
  refine mix_now ?_
  refine mix_step rfl ?_
  go_wp2_with (go_at_call 22; refine HN.out.mono ?_; rintro e z ⟨rfl, hz⟩; subst hz)
  (first | refine ⟨fun _ => ⟨_, keepS_of HK1.out⟩, ?_⟩ | refine ⟨⟨_, keepS_of HK1.out⟩, ?_⟩)
  refine mix_tail [12] [_] _ _ rfl rfl ?_
  go_wp2_with fail
  go_ret
  exact ⟨rfl, HS1.out, (Trn.of_below HD.out).trans HT1.out⟩
set_option maxRecDepth 100000 in
set_option maxHeartbeats 1600000 in
theorem channelR_any (bb g : Nat) (s : ByteArray) (E : EnvS) (l : List UInt8) (w : World) (hB : BdE w bb g E) (hT : TkL w g s l) (hsz : s.size ≤ 5000) (hm : 1 ≤ E.chans) (hm2 : E.chans ≤ 90) :
    Calls Tryd.prog 33 #[.pointer (some ⟨bb, 0, none⟩)] w (TookR g s w (.string (nmS 99 (takeS E.chans l).1)) (takeS E.chans l).2) := by
  obtain ⟨wd, ca, cc, aa, ac, fa, fc, mv, h1, -⟩ := hB.box
  have hne := hB.hne
  obtain ⟨m, hmm⟩ : ∃ m, E.chans = m := ⟨_, rfl⟩
  unfold BdAt at h1
  rw [hmm] at h1 hm hm2 ⊢
  obtain ⟨v, hv⟩ : ∃ x, (takeS m l).1 = x := ⟨_, rfl⟩
  obtain ⟨l2, hr⟩ : ∃ x, (takeS m l).2 = x := ⟨_, rfl⟩
  have hvl : v < m := by rw [← hv]; exact take_small m l (by omega)
  have HTA : Hid (∀ z, TkL z g s l → Calls Tryd.prog 21 #[.pointer (some ⟨g, 0, none⟩), .int .i64 m] z fun e w' => e = .returned (.int .i64 (v : Nat)) ∧ TkL w' g s l2 ∧ Trn (fun k => k = g) z w') := fun z hz => by
    have h := takeR_any g s l m z hz hsz (by omega) (by omega)
    rw [hv, hr] at h
    exact h
  rw [hv, hr]
  have HBD := Lib.hid h1
  have HS := Lib.hid hT
  have hbx := (Array.getElem?_eq_some_iff.1 h1).1
  have hgl : g < w.heap.size := hT.lt
  clear hv hr hmm h1 hT hB
  go_enter Tryd.func33, Tryd.ntmps33
  go_upto_region 1 with fail
  have q0 := keepS_cell (S := [bb]) (by simp) (row_of HBD.out 0 _ rfl)
  have q1 := keepS_cell (S := [bb]) (by simp) (row_of HBD.out 2 _ rfl)
  refine wp_region_mixS [bb] (.one [0, 1, 2, 3, 4, 5, 6, 7, 8, 9] 10 (.one [] 11 (tailOf [12]))) (fun j => decide (12 ≤ j)) (by kernel_rfl) (by kernel_rfl) rfl (by kernel_rfl) (fun _ d _ _ _ h => by cases d <;> exact h) ?_
  have HD : Hid (Below w.heap.size w w.drew) := (Below.refl _ _).drew
  generalize w.drew = y0 at *
  have ONE : Hid (∀ z : World, z.heap[bb]? = w.heap[bb]? → ∀ b ∈ [bb], z.heap[b]? = w.heap[b]?) := fun z hz b hb => by
    simp only [List.mem_cons, List.not_mem_nil, or_false] at hb
    subst hb
    exact hz
  have HK0 := Lib.hid (ONE.out y0 (HD.out.block _ hbx))
  have HC := Lib.hid (HTA.out y0 (HS.out.keep HD.out))
  refine mix_one (by simp only [opsOf, List.filterMap_cons, List.filterMap_nil, List.getElem?_toArray, List.getElem?_cons_succ, List.getElem?_cons_zero]; rfl) ⟨_, keepS_of HK0.out⟩ ?_
  change wpQuiet _ _ _ _ [_, _, _, _, _, _, _, _, _, _] _
  (repeat (go_big_quiet_step (fail)))
  clear q0 q1
  refine wpQuiet_nil ?_
  refine mix_step rfl ?_
  go_wp2_with (go_at_call 21; refine HC.out.mono ?_; rintro e y1 ⟨rfl, hs1, ht1⟩; have HS1 := Lib.hid hs1; have HT1 := Lib.hid ht1; clear hs1 ht1)
  have HK1 := Lib.hid (ONE.out y1 ((HT1.out.block bb (by have := HD.out.size; omega) hne).trans (HD.out.block _ hbx)))
  (first | refine ⟨fun _ => ⟨_, keepS_of HK1.out⟩, ?_⟩ | refine ⟨⟨_, keepS_of HK1.out⟩, ?_⟩)
  have HN := Lib.hid (nameR_any 99 v (by omega) y1)
  refine mix_now ?_
  refine mix_step rfl ?_
  go_wp2_with (go_at_call 22; refine HN.out.mono ?_; rintro e z ⟨rfl, hz⟩; subst hz)
  (first | refine ⟨fun _ => ⟨_, keepS_of HK1.out⟩, ?_⟩ | refine ⟨⟨_, keepS_of HK1.out⟩, ?_⟩)
  refine mix_tail [12] [_] _ _ rfl rfl ?_
  go_wp2_with fail
  go_ret
  exact ⟨rfl, HS1.out, (Trn.of_below HD.out).trans HT1.out⟩
end Go.Proofs.YtbfkhnmpfffkmaaDoor
