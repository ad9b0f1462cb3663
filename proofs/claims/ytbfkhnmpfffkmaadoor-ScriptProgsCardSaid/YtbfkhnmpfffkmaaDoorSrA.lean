/- The reference of layer 41: its taker, names, operands. Conditions: the taker's block holds the string and a number; the string is not too long. -/
import Derived.Test.YtbfkhnmpfffkmaaDoorScX
import Derived.Deep.RegionWith
set_option linter.unusedVariables false
set_option linter.unusedSimpArgs false
set_option linter.unnecessarySimpa false
namespace Go.Proofs.YtbfkhnmpfffkmaaDoor
open Go.Maps (Keyed int_keyed)
open Go.WideShapes Go.ChangeMaps Go.MapKept Go.WideMaps Go.ChangeAt Go.RowKit Go.ChangeShapes
theorem mix_endR {P : Program} {ops : Array Oper} {Q : Exit → Act → World → Prop} {C : World → Prop} {E : Nat → Bool} {a : Act} {w : World} (h : Q .normal a w) : mixRun P ops Q C E (.fin []) a w := h
/-- The taker's block: the string, and how many of its bytes were taken; l is what is left. -/
def TkL (w : World) (g : Nat) (s : ByteArray) (l : List UInt8) : Prop := ∃ n : Nat, w.heap[g]? = some (.cells #[.string s, .int .i64 n] 68 (0, 0)) ∧ n ≤ s.size ∧ s.data.toList.drop n = l
theorem TkL.lt {w : World} {g : Nat} {s : ByteArray} {l : List UInt8} (h : TkL w g s l) : g < w.heap.size := by
  obtain ⟨n, h, -⟩ := h
  exact (Array.getElem?_eq_some_iff.1 h).1
theorem TkL.at {w w' : World} {g : Nat} {s : ByteArray} {l : List UInt8} (h : TkL w g s l) (e : w'.heap[g]? = w.heap[g]?) : TkL w' g s l := by
  obtain ⟨n, h, h2⟩ := h
  exact ⟨n, e.trans h, h2⟩
theorem TkL.keep {w w' : World} {g : Nat} {s : ByteArray} {l : List UInt8} (h : TkL w g s l) (k : Below w.heap.size w w') : TkL w' g s l := h.at (k.block g h.lt)
set_option maxRecDepth 100000 in
set_option maxHeartbeats 1600000 in
theorem takeR_any (g : Nat) (s : ByteArray) (l : List UInt8) (m : Nat) (w : World) (h : TkL w g s l) (hs : s.size ≤ 5000) (hm : 1 ≤ m) (hm2 : m ≤ 1000) :
    Calls Tryd.prog 21 #[.pointer (some ⟨g, 0, none⟩), .int .i64 m] w fun e w' => e = .returned (.int .i64 ((takeS m l).1 : Nat)) ∧ TkL w' g s (takeS m l).2 ∧ Trn (fun k => k = g) w w' := by
  obtain ⟨n, hb, hn, hl⟩ := h
  have hsz : s.data.toList.length = s.size := rfl
  have H := Lib.hid hb
  have e0 := ext_cell (row_of hb 0 _ rfl)
  have e1 := ext_cell (row_of hb 1 _ rfl)
  have hgl : g < w.heap.size := (Array.getElem?_eq_some_iff.1 hb).1
  clear hb
  cases l with
  | nil =>
    have hns : n = s.size := by
      have := congrArg List.length hl
      simp only [List.length_drop, List.length_nil, hsz] at this
      omega
    have hq : ((n : Int) == (s.size : Int)) = true := by simp [hns]
    have HL := Lib.hid hl
    clear hl hsz hns
    go_enter Tryd.func21, Tryd.ntmps21
    go_upto_region 1 with fail
    (refine wp_region_calm (by kernel_rfl) (by kernel_rfl) ?_; (repeat (go_big_quiet_step (fail))); refine wpQuiet_nil ?_; intro wc hwc)
    go_wp2_with fail
    go_ret
    exact ⟨rfl, ⟨n, (hwc.block g hgl).trans H.out, hn, HL.out⟩, Trn.of_below hwc⟩
  | cons b r =>
    have hns : n < s.size := by
      have := congrArg List.length hl
      simp only [List.length_drop, List.length_cons, hsz] at this
      omega
    have hq : ((n : Int) == (s.size : Int)) = false := by simp; omega
    have hdr : s.data.toList.drop (n + 1) = r := by
      rw [← List.tail_drop, hl]; rfl
    have hbn0 : s.data.toList[n]? = some b := by
      have := congrArg (·[0]?) hl
      simpa using this
    have hix : ∀ z : World, (Instr.index 9 (.string s) (.int .i64 n)).run Tryd.prog z = .ok (.int .u8 (b.toNat : Nat)) z := fun z => by
      rw [run_index_string z 9 s .i64 n Tryd.underlying9, dif_pos ⟨by omega, by omega⟩]
      congr 2
      have h1 : s.data[n]? = some b := by rw [← Array.getElem?_toList]; exact hbn0
      obtain ⟨h2, h3⟩ := Array.getElem?_eq_some_iff.1 h1
      have h4 : (s[n]'hns) = b := h3
      simp [h4]
    have hn0 : (m : Int) ≠ 0 := by omega
    have htm := tmod_nat b.toNat m
    have hbn : b.toNat < 256 := b.toNat_lt
    have HD := Lib.hid hdr
    clear hl hsz hdr hbn0
    go_enter Tryd.func21, Tryd.ntmps21
    go_upto_region 1 with fail
    (refine wp_region_calm (by kernel_rfl) (by kernel_rfl) ?_; (repeat (go_big_quiet_step (fail))); refine wpQuiet_nil ?_; intro wc hwc)
    clear e0 e1
    have HB := Lib.hid hwc
    have hb1 := (hwc.block g hgl).trans H.out
    have c1 := row_of hb1 1 _ rfl
    have f1 := frozen_of_row wc g 1 _ _ hb1
    have HB1 := Lib.hid hb1
    clear hwc hb1
    go_upto_region 4 with fail
    clear c1 f1
    have hb2 := heap_setCell_same wc g 1 _ _ (.int .i64 ((n : Int) + 1)) HB1.out
    simp only [List.setIfInBounds_toArray, List.set_cons_succ, List.set_cons_zero] at hb2
    have HT := Lib.hid ((Trn.of_below (S := fun k => k = g) HB.out).trans (setCell_trn wc ⟨g, 1, none⟩ (.int .i64 ((n : Int) + 1))))
    have HB2 := Lib.hid hb2
    generalize wc.setCell ⟨g, 1, none⟩ (.int .i64 ((n : Int) + 1)) = W at *
    have e0 := ext_cell (row_of hb2 0 _ rfl)
    have e1 := ext_cell (row_of hb2 1 _ rfl)
    clear hb2
    (refine wp_region_calm_tail 13 (by kernel_rfl) (by kernel_rfl) ?_; simp only [List.take_succ_cons, List.take_zero, List.drop_succ_cons, List.drop_zero]; (repeat (go_big_quiet_step (fail))); refine wpQuiet_nil ?_; intro wc hwc)
    go_wp2_with fail
    go_ret
    exact ⟨by first | rfl | (rw [← htm]; rfl) | (simp [takeS, ← htm]), ⟨n + 1, by rw [hwc.block g (Array.getElem?_eq_some_iff.1 HB2.out).1, HB2.out]; rfl, by omega, HD.out⟩, HT.out.trans (Trn.of_below hwc)⟩
theorem nameR_any (c : UInt8) (k : Nat) (hk : k < 100) (w : World) :
    Calls Tryd.prog 22 #[.string ⟨#[c]⟩, .int .i64 k] w fun e w' => e = .returned (.string (nmS c k)) ∧ w' = w := by
  have HI := Lib.hid (itoa_any k hk w)
  have HE := Lib.hid (nm_eq c k)
  obtain ⟨s, hs⟩ : ∃ s, nmS c k = s := ⟨_, rfl⟩
  obtain ⟨t, ht⟩ : ∃ t : ByteArray, ⟨#[c]⟩ = t := ⟨_, rfl⟩
  rw [ht] at HE ⊢
  rw [hs] at HE ⊢
  have hlt : ¬ 9223372036854775807 < t.size + (Lib.decDigits k).length := by
    have := dec_len hk
    have : t.size = 1 := by rw [← ht]; rfl
    omega
  clear hs ht
  go_enter Tryd.func22, Tryd.ntmps22
  go_wp2_with (go_at_call 27; refine HI.out.mono ?_; rintro e z ⟨rfl, rfl⟩)
  go_ret
  exact ⟨by show Ending.returned (Value.string (t ++ (⟨(Lib.decDigits k).toArray⟩ : ByteArray))) = _; rw [HE.out], rfl⟩
/-- The body's block: the taker, a copy of the program's value, the numbers of parameters and of functions, and whether it is main. -/
def BdAt (w : World) (bb g : Nat) (wd : Int) (cv av fv mv : Value) (par calls : Nat) (mn : Bool) : Prop := w.heap[bb]? = some (.cells #[.pointer (some ⟨g, 0, none⟩), .int .i64 wd, cv, av, fv, mv, .int .i64 (par : Nat), .int .i64 (calls : Nat), .bool mn] 72 (0, 0))
/-- What a function of the reference says that takes bytes. -/
def TookR (g : Nat) (s : ByteArray) (w : World) (v : Value) (l : List UInt8) (e : Ending) (w' : World) : Prop := e = .returned v ∧ TkL w' g s l ∧ Trn (fun k => k = g) w w'
set_option maxRecDepth 100000 in
set_option maxHeartbeats 3200000 in
theorem operandR_any (bb g : Nat) (wd : Int) (cv av fv mv : Value) (par calls : Nat) (mn : Bool) (s : ByteArray) (l : List UInt8) (w : World) (hB : BdAt w bb g wd cv av fv mv par calls mn) (hT : TkL w g s l) (hne : bb ≠ g) (hsz : s.size ≤ 5000) (hpar : par ≤ 90) :
    Calls Tryd.prog 46 #[.pointer (some ⟨bb, 0, none⟩)] w (TookR g s w (.agg #[.string (opdS par l).1.name, .int .u64 (opdS par l).1.num]) (opdS par l).2) := by
  unfold BdAt at hB
  have hal := (Below.refl w.heap.size w).alloc (Nat.le_refl _) (.cells #[.string ⟨#[]⟩, .int .u64 0] 45)
  have HAL := Lib.hid hal
  have HR_w0 := Lib.hid (heap_alloc_new w (.cells #[.string ⟨#[]⟩, .int .u64 0] 45))
  have HBd_w0 := Lib.hid ((hal.block bb (Array.getElem?_eq_some_iff.1 hB).1).trans hB)
  have HS_w0 := Lib.hid (hT.keep hal)
  have hbl : bb < w.heap.size := (Array.getElem?_eq_some_iff.1 hB).1
  have hgl : g < w.heap.size := hT.lt
  clear hB hT hal
  go_enter Tryd.func46, Tryd.ntmps46
  go_upto_region 1 with fail
  generalize w.alloc (.cells #[.string ⟨#[]⟩, .int .u64 0] 45) = w0 at *
  obtain ⟨rb, hrb⟩ : ∃ x, w.heap.size = x := ⟨_, rfl⟩
  rw [hrb] at HR_w0 hbl hgl
  try rw [hrb]
  have HRB := Lib.hid hrb
  clear hrb
  obtain ⟨j, hv⟩ : ∃ x, (takeS 8 l).1 = x := ⟨_, rfl⟩
  obtain ⟨l1, hr⟩ : ∃ x, (takeS 8 l).2 = x := ⟨_, rfl⟩
  have hvlj : j < 8 := by rw [← hv]; exact take_small 8 l (by omega)
  have ht := takeR_any g s l 8 w0 HS_w0.out hsz (by omega) (by omega)
  rw [hv, hr] at ht
  have HTj := Lib.hid ht
  have HXj : Hid (takeS 8 l = (j, l1)) := (by show _ = _; rw [← hv, ← hr])
  clear ht hv hr
  have b0 := row_of HBd_w0.out 0 _ rfl
  have HOP : Hid (opdS par l = (if j < 4 then pureS ⟨nmS 120 j, 0⟩ else if j < 7 then bindS (takeS 8) fun v => pureS ⟨.empty, v⟩ else if 0 < par then bindS (takeS par) fun v => pureS ⟨nmS 112 v, 0⟩ else bindS (takeS 256) fun v => pureS (⟨.empty, v⟩ : ArgD)) l1) := by
    show _ = _
    unfold opdS
    rw [bindS, HXj.out]
  go_upto_region 2 with (go_at_call 21; refine HTj.out.mono ?_; rintro e w1 ⟨rfl, hs1, ht1⟩; have HS_w1 := Lib.hid hs1; have HT_w1 := Lib.hid ht1; have HR_w1 := Lib.hid (ht1.heap HR_w0.out (by omega)); have HBd_w1 := Lib.hid (ht1.heap HBd_w0.out (by omega)); clear hs1 ht1)
  clear b0 HTj HS_w0 HR_w0 HBd_w0
  have HTW : Hid (Trn (fun k => k = g) w w1) := (Trn.of_below HAL.out).trans HT_w1.out
  by_cases k4 : j < 4
  · have k4' : (j : Int) < 4 := by omega
    obtain ⟨ns, hns⟩ : ∃ x, nmS 120 j = x := ⟨_, rfl⟩
    have hN := nameR_any 120 j (by omega) w1
    rw [hns] at hN
    have HN := Lib.hid hN
    have HRES : Hid (opdS par l = (⟨ns, 0⟩, l1)) := by show _ = _; rw [HOP.out, if_pos k4, ← hns]; rfl
    clear hN hns
    go_wp2_with (first | (go_at_call 22; refine HN.out.mono ?_; rintro e z ⟨rfl, hz⟩; subst hz) | (refine wpList_store_row rfl 45 (.tmp 2) (.tmp 13) rfl rb #[.string ns, .int .u64 0] rfl rfl 45 #[.string ⟨#[]⟩, .int .u64 0] HR_w1.out (by as_aux_lemma => kernel_rfl) (by as_aux_lemma => kernel_rfl) (by as_aux_lemma => kernel_rfl) ?_))
    try simp only [Act.put]
    refine bodyPost_ret (v := .agg #[.string ns, .int .u64 0]) (results_cell_row (P := Tryd.prog) (fn := Tryd.f46) rfl _ _ rb 45 _ (0,0) _ rfl (setRow_heap _ _ _ _ _ _ HR_w1.out) Tryd.underlying45 rfl (by kernel_rfl)) rfl ?_
    rw [HRES.out]
    exact ⟨rfl, HS_w1.out.at (setRow_other _ _ _ _ (by omega)), HTW.out.step (setRow_trn HR_w1.out) (fun i hi e => by have h := HRB.out; have e' : i = rb := e; omega)⟩
  have k4' : ¬ (j : Int) < 4 := by omega
  by_cases k7 : j < 7
  · have k7' : (j : Int) < 7 := by omega
    obtain ⟨v, hv⟩ : ∃ x, (takeS 8 l1).1 = x := ⟨_, rfl⟩
    obtain ⟨l2, hr⟩ : ∃ x, (takeS 8 l1).2 = x := ⟨_, rfl⟩
    have hvlv : v < 8 := by rw [← hv]; exact take_small 8 l1 (by omega)
    have ht := takeR_any g s l1 8 w1 HS_w1.out hsz (by omega) (by omega)
    rw [hv, hr] at ht
    have HTv := Lib.hid ht
    have HXv : Hid (takeS 8 l1 = (v, l2)) := (by show _ = _; rw [← hv, ← hr])
    clear ht hv hr
    have b0 := row_of HBd_w1.out 0 _ rfl
    have hwr : IntKind.u64.wrap (v : Int) = v := by rw [IntKind.wrap_u64]; exact Int.emod_eq_of_lt (by omega) (by omega)
    have HRES : Hid (opdS par l = (⟨.empty, (v : Nat)⟩, l2)) := by show _ = _; rw [HOP.out, if_neg k4, if_pos k7, bindS, HXv.out]; rfl
    go_wp2_with (first | (go_at_call 21; refine HTv.out.mono ?_; rintro e w2 ⟨rfl, hs1, ht1⟩; have HS_w2 := Lib.hid hs1; have HT_w2 := Lib.hid ht1; have HR_w2 := Lib.hid (ht1.heap HR_w1.out (by omega)); have HBd_w2 := Lib.hid (ht1.heap HBd_w1.out (by omega)); clear hs1 ht1) | (refine wpList_store_row rfl 45 (.tmp 2) (.tmp 22) rfl rb #[.string ⟨#[]⟩, .int .u64 (v : Nat)] rfl rfl 45 #[.string ⟨#[]⟩, .int .u64 0] HR_w2.out (by as_aux_lemma => kernel_rfl) (by as_aux_lemma => kernel_rfl) (by as_aux_lemma => kernel_rfl) ?_))
    try simp only [Act.put]
    refine bodyPost_ret (v := .agg #[.string ⟨#[]⟩, .int .u64 (v : Nat)]) (results_cell_row (P := Tryd.prog) (fn := Tryd.f46) rfl _ _ rb 45 _ (0,0) _ rfl (setRow_heap _ _ _ _ _ _ HR_w2.out) Tryd.underlying45 rfl (by kernel_rfl)) rfl ?_
    rw [HRES.out]
    exact ⟨rfl, HS_w2.out.at (setRow_other _ _ _ _ (by omega)), (HTW.out.trans HT_w2.out).step (setRow_trn HR_w2.out) (fun i hi e => by have h := HRB.out; have e' : i = rb := e; omega)⟩
  have k7' : ¬ (j : Int) < 7 := by omega
  by_cases kp : 0 < par
  · have kp' : (0 : Int) < (par : Int) := by omega
    obtain ⟨v, hv⟩ : ∃ x, (takeS par l1).1 = x := ⟨_, rfl⟩
    obtain ⟨l2, hr⟩ : ∃ x, (takeS par l1).2 = x := ⟨_, rfl⟩
    have hvl : v < par := by rw [← hv]; exact take_small par l1 (by omega)
    have HXv : Hid (takeS par l1 = (v, l2)) := (by show _ = _; rw [← hv, ← hr])
    obtain ⟨ns, hns⟩ : ∃ x, nmS 112 v = x := ⟨_, rfl⟩
    have HNS := Lib.hid hns
    have HRES : Hid (opdS par l = (⟨ns, 0⟩, l2)) := by show _ = _; rw [HOP.out, if_neg k4, if_neg k7, if_pos kp, bindS, HXv.out, ← hns]; rfl
    have HTA : Hid (∀ z, TkL z g s l1 → Calls Tryd.prog 21 #[.pointer (some ⟨g, 0, none⟩), .int .i64 par] z fun e w' => e = .returned (.int .i64 (v : Nat)) ∧ TkL w' g s l2 ∧ Trn (fun k => k = g) z w') := fun z hz => by
      have h := takeR_any g s l1 par z hz hsz (by omega) (by omega)
      rw [hv, hr] at h
      exact h
    clear hv hr hns
    have b0 := row_of HBd_w1.out 0 _ rfl
    have b6 := row_of HBd_w1.out 6 _ rfl
    go_upto_region 7 with fail
    clear b0 b6
    have q0 := keepS_cell (S := [bb]) (by simp) (row_of HBd_w1.out 0 _ rfl)
    have q6 := keepS_cell (S := [bb]) (by simp) (row_of HBd_w1.out 6 _ rfl)
    refine wp_region_mixS [bb] (.one [0, 1, 2, 3, 4, 5, 6, 7] 8 (.one [] 9 (.one [10] 11 (.fin [])))) (fun _ => false) (by kernel_rfl) (by kernel_rfl) rfl (by kernel_rfl) (fun _ d _ _ _ h => by cases d <;> exact h) ?_
    have HD : Hid (Below w1.heap.size w1 w1.drew) := (Below.refl _ _).drew
    generalize w1.drew = y0 at *
    have hbx := (Array.getElem?_eq_some_iff.1 HBd_w1.out).1
    have ONE : Hid (∀ z : World, z.heap[bb]? = w1.heap[bb]? → ∀ b ∈ [bb], z.heap[b]? = w1.heap[b]?) := fun z hz b hb => by
      simp only [List.mem_cons, List.not_mem_nil, or_false] at hb
      subst hb
      exact hz
    have HK0 := Lib.hid (ONE.out y0 (HD.out.block _ hbx))
    have HR_y0 := Lib.hid ((HD.out.block rb (Array.getElem?_eq_some_iff.1 HR_w1.out).1).trans HR_w1.out)
    have HC := Lib.hid (HTA.out y0 (HS_w1.out.keep HD.out))
    refine mix_one (by simp only [opsOf, List.filterMap_cons, List.filterMap_nil, List.getElem?_toArray, List.getElem?_cons_succ, List.getElem?_cons_zero]; rfl) ⟨_, keepS_of HK0.out⟩ ?_
    change wpQuiet _ _ _ _ [_, _, _, _, _, _, _, _] _
    (repeat (go_big_quiet_step (fail)))
    clear q0 q6
    refine wpQuiet_nil ?_
    refine mix_step rfl ?_
    go_wp2_with (go_at_call 21; refine HC.out.mono ?_; rintro e y1 ⟨rfl, hs1, ht1⟩; have HS_y1 := Lib.hid hs1; have HT_y1 := Lib.hid ht1; have HR_y1 := Lib.hid (ht1.heap HR_y0.out (by omega)); clear hs1 ht1)
    have HK1 := Lib.hid (ONE.out y1 ((HT_y1.out.block bb (by have := HD.out.size; omega) (by omega)).trans (HD.out.block _ hbx)))
    (first | refine ⟨fun _ => ⟨_, keepS_of HK1.out⟩, ?_⟩ | refine ⟨⟨_, keepS_of HK1.out⟩, ?_⟩)
    have hN := nameR_any 112 v (by omega) y1
    rw [HNS.out] at hN
    have HN := Lib.hid hN
    clear hN
    refine mix_now ?_
    refine mix_step rfl ?_
    go_wp2_with (go_at_call 22; refine HN.out.mono ?_; rintro e z ⟨rfl, hz⟩; subst hz)
    (first | refine ⟨fun _ => ⟨_, keepS_of HK1.out⟩, ?_⟩ | refine ⟨⟨_, keepS_of HK1.out⟩, ?_⟩)
    refine mix_one (by simp only [opsOf, List.filterMap_cons, List.filterMap_nil, List.getElem?_toArray, List.getElem?_cons_succ, List.getElem?_cons_zero]; rfl) ⟨_, keepS_of HK1.out⟩ ?_
    change wpQuiet _ _ _ _ [_] _
    (repeat (go_big_quiet_step (fail)))
    refine wpQuiet_nil ?_
    refine mix_step rfl ?_
    try (simp only [Act.put, List.setIfInBounds_toArray, List.set_cons_succ, List.set_cons_zero, List.getElem_toArray, List.getElem_cons_succ, List.getElem_cons_zero])
    go_wp2_with (refine wpList_store_row rfl 45 (.tmp 2) (.tmp 38) rfl rb #[.string ns, .int .u64 0] rfl rfl 45 #[.string ⟨#[]⟩, .int .u64 0] HR_y1.out (by as_aux_lemma => kernel_rfl) (by as_aux_lemma => kernel_rfl) (by as_aux_lemma => kernel_rfl) ?_)
    try simp only [Act.put]
    have HK2 := Lib.hid (ONE.out (z.setRow rb #[.string ns, .int .u64 0]) ((setRow_other _ _ _ _ (by omega)).trans (HK1.out bb (by simp))))
    (first | refine ⟨fun _ => ⟨_, keepS_of HK2.out⟩, ?_⟩ | refine ⟨⟨_, keepS_of HK2.out⟩, ?_⟩)
    refine mix_endR ?_
    go_wp2_with fail
    try simp only [Act.put]
    refine bodyPost_ret (v := .agg #[.string ns, .int .u64 0]) (results_cell_row (P := Tryd.prog) (fn := Tryd.f46) rfl _ _ rb 45 _ (0,0) _ rfl (setRow_heap _ _ _ _ _ _ HR_y1.out) Tryd.underlying45 rfl (by kernel_rfl)) rfl ?_
    rw [HRES.out]
    exact ⟨rfl, HS_y1.out.at (setRow_other _ _ _ _ (by omega)), ((HTW.out.trans (Trn.of_below HD.out)).trans HT_y1.out).step (setRow_trn HR_y1.out) (fun i hi e => by have h := HRB.out; have e' : i = rb := e; omega)⟩
  · have kp' : ¬ (0 : Int) < (par : Int) := by omega
    obtain ⟨v, hv⟩ : ∃ x, (takeS 256 l1).1 = x := ⟨_, rfl⟩
    obtain ⟨l2, hr⟩ : ∃ x, (takeS 256 l1).2 = x := ⟨_, rfl⟩
    have hvlv : v < 256 := by rw [← hv]; exact take_small 256 l1 (by omega)
    have ht := takeR_any g s l1 256 w1 HS_w1.out hsz (by omega) (by omega)
    rw [hv, hr] at ht
    have HTv := Lib.hid ht
    have HXv : Hid (takeS 256 l1 = (v, l2)) := (by show _ = _; rw [← hv, ← hr])
    clear ht hv hr
    have b0 := row_of HBd_w1.out 0 _ rfl
    have b6 := row_of HBd_w1.out 6 _ rfl
    have hwr : IntKind.u64.wrap (v : Int) = v := by rw [IntKind.wrap_u64]; exact Int.emod_eq_of_lt (by omega) (by omega)
    have HRES : Hid (opdS par l = (⟨.empty, (v : Nat)⟩, l2)) := by show _ = _; rw [HOP.out, if_neg k4, if_neg k7, if_neg kp, bindS, HXv.out]; rfl
    go_wp2_with (first | (go_at_call 21; refine HTv.out.mono ?_; rintro e w2 ⟨rfl, hs1, ht1⟩; have HS_w2 := Lib.hid hs1; have HT_w2 := Lib.hid ht1; have HR_w2 := Lib.hid (ht1.heap HR_w1.out (by omega)); have HBd_w2 := Lib.hid (ht1.heap HBd_w1.out (by omega)); clear hs1 ht1) | (refine wpList_store_row rfl 45 (.tmp 2) (.tmp 45) rfl rb #[.string ⟨#[]⟩, .int .u64 (v : Nat)] rfl rfl 45 #[.string ⟨#[]⟩, .int .u64 0] HR_w2.out (by as_aux_lemma => kernel_rfl) (by as_aux_lemma => kernel_rfl) (by as_aux_lemma => kernel_rfl) ?_))
    try simp only [Act.put]
    refine bodyPost_ret (v := .agg #[.string ⟨#[]⟩, .int .u64 (v : Nat)]) (results_cell_row (P := Tryd.prog) (fn := Tryd.f46) rfl _ _ rb 45 _ (0,0) _ rfl (setRow_heap _ _ _ _ _ _ HR_w2.out) Tryd.underlying45 rfl (by kernel_rfl)) rfl ?_
    rw [HRES.out]
    exact ⟨rfl, HS_w2.out.at (setRow_other _ _ _ _ (by omega)), (HTW.out.trans HT_w2.out).step (setRow_trn HR_w2.out) (fun i hi e => by have h := HRB.out; have e' : i = rb := e; omega)⟩
end Go.Proofs.YtbfkhnmpfffkmaaDoor
