/- Contracts of package script's name at one number, and of the maker's dst and operand. Conditions: numbers are less than 100; the maker's block holds what is said. -/
import Derived.Test.YtfdinncgncbmfaaGreatDoorScI
import Derived.Test.YtfdinncgncbmfaaGreatDoorMixK
import Derived.Maps.AppendAt
import Derived.Deep.CutBlock
import Derived.Deep.CutRange
set_option linter.unusedVariables false
set_option linter.unusedSimpArgs false
set_option linter.unnecessarySimpa false
namespace Go.Proofs.YtfdinncgncbmfaaGreatDoor
open Go.ChangeShapes Go.WideShapes Go.ChangeAt Go.RowKit
theorem nm_eq (c : UInt8) (k : Nat) : (⟨#[c]⟩ : ByteArray) ++ (⟨(Lib.decDigits k).toArray⟩ : ByteArray) = nmS c k := by
  unfold nmS
  apply ByteArray.ext
  simp
theorem dec_len {k : Nat} (h : k < 100) : (Lib.decDigits k).length ≤ 2 := by
  unfold Lib.decDigits
  split
  · simp
  · unfold Lib.decDigits
    rw [dif_pos (by omega)]
    simp
set_option maxRecDepth 100000 in
theorem name_any (c : UInt8) (k : Nat) (hk : k < 100) (b : Nat) (w : World) (h : w.heap[b]? = some (.cells #[.int .i64 k] 3 (0, 0))) :
    Calls Tryz.prog 22 #[.string ⟨#[c]⟩, .slice (some ⟨b, 0, none⟩) 1 1] w fun e w' => e = .returned (.string (nmS c k)) ∧ w = w' := by
  have c0 := row_of h 0 _ rfl
  have HI := Lib.hid (itoa_any k hk w)
  have HE := Lib.hid (nm_eq c k)
  obtain ⟨s, hs⟩ : ∃ s, nmS c k = s := ⟨_, rfl⟩
  obtain ⟨t, ht⟩ : ∃ t : ByteArray, ⟨#[c]⟩ = t := ⟨_, rfl⟩
  rw [ht] at HE ⊢
  rw [hs] at HE ⊢
  have hlt : ¬ 9223372036854775807 < t.size + (Lib.decDigits k).length := by
    have := dec_len hk
    have : t.size = 1 := by rw [← ht]; rfl
    omega
  clear hs ht h
  go_enter Tryz.func22, Tryz.ntmps22
  go_wp2_with fail
  go_loopw [0, 6, 9] (fun a _ v wr => ∃ j : Nat, j ≤ 1 ∧ v = .int .i64 j ∧ a = .string (if j = 0 then t else s) ∧ w = wr) (fun _ _ v _ => 1 - (intOf v).toNat)
  case atStart => exact ⟨0, Nat.zero_le _, rfl, rfl, by first | trivial | rfl⟩
  case round =>
    obtain ⟨j, hj, rfl, rfl, hw⟩ := hrel
    subst hw
    by_cases h0 : j = 0
    · subst h0
      go_wp2_with (go_at_call 35; refine HI.out.mono ?_; rintro e z ⟨rfl, rfl⟩)
      go_roundw
      case rel => exact ⟨1, by omega, by go_num, by simp [HE.out], by first | trivial | rfl⟩
      case measure => simp [intOf]
    · obtain rfl : j = 1 := by omega
      go_wp2_with fail
      go_ret
      exact ⟨rfl, rfl⟩
/-- The maker's block. -/
def MkAt (w : World) (m s p par fn : Nat) (mn : Bool) (tv cv : Value) (k o : Int) (d nm : ByteArray) (av : Value) (t : Int) : Prop := w.heap[m]? = some (.cells #[.pointer (some ⟨s, 0, none⟩), .pointer (some ⟨p, 0, none⟩), .int .i64 (par : Nat), .int .i64 (fn : Nat), .bool mn, tv, cv, .int .u8 k, .int .u8 o, .string d, .string nm, av, .int .i64 0, .int .i64 0, .int .i64 t] 88 (0, 0))
theorem Trn.heap {S : Nat → Prop} {w w' : World} {b : Nat} {v : Obj} (h : Trn S w w') (hb : w.heap[b]? = some v) (hs : ¬ S b) : w'.heap[b]? = some v := (h.block b (Array.getElem?_eq_some_iff.1 hb).1 hs).trans hb
theorem own_ge {w : World} {base : Nat} {e : TypeId} {size : Nat} {v : Value} {n : Nat} {xs : List Value} (h : w.ownsRow base e size v n xs) {k : Nat} (hk : v.ownBlock = some k) : base ≤ k := by
  obtain ⟨hl, h | ⟨g, cap, cur, rfl, hg, hc, hr⟩⟩ := h
  · obtain ⟨rfl, -⟩ := h
    simp [Value.ownBlock] at hk
  · simp only [Value.ownBlock, Option.some.injEq] at hk
    omega
theorem own_lt {w : World} {base : Nat} {e : TypeId} {size : Nat} {v : Value} {n : Nat} {xs : List Value} (h : w.ownsRow base e size v n xs) {k : Nat} (hk : v.ownBlock = some k) : k < w.heap.size := by
  obtain ⟨hl, h | ⟨g, cap, cur, rfl, hg, hc, hr⟩⟩ := h
  · obtain ⟨rfl, -⟩ := h
    simp [Value.ownBlock] at hk
  · simp only [Value.ownBlock, Option.some.injEq] at hk
    subst hk
    exact (Array.getElem?_eq_some_iff.1 hc).1
theorem own_trn {S : Nat → Prop} {w w' : World} {base : Nat} {e : TypeId} {size : Nat} {v : Value} {n : Nat} {xs : List Value} (h : w.ownsRow base e size v n xs) (hb : Trn S w w') (hs : ∀ k, v.ownBlock = some k → ¬ S k) : w'.ownsRow base e size v n xs := by
  obtain ⟨hl, h | ⟨g, cap, cur, rfl, hg, hc, hr⟩⟩ := h
  · exact ⟨hl, .inl h⟩
  · exact ⟨hl, .inr ⟨g, cap, cur, rfl, hg, (hb.block g (Array.getElem?_eq_some_iff.1 hc).1 (hs g (by simp [Value.ownBlock]))).trans hc, hr⟩⟩
theorem take_small (n : Nat) (l : List UInt8) (hn : 1 ≤ n) : (takeS n l).1 < n := by
  cases l with
  | nil => exact hn
  | cons b r => exact Nat.mod_lt _ hn
set_option maxRecDepth 100000 in
set_option maxHeartbeats 1600000 in
theorem dst_any (m s p par fn : Nat) (mn : Bool) (tv cv : Value) (k o : Int) (d nm : ByteArray) (av : Value) (t : Int) (l : List UInt8) (w : World) (hM : MkAt w m s p par fn mn tv cv k o d nm av t) (hS : SrcAt w s l) (hne : m ≠ s) :
    Calls Tryz.prog 89 #[.pointer (some ⟨m, 0, none⟩)] w fun e w' => e = .returned (.tuple #[]) ∧ MkAt w' m s p par fn mn tv cv k o (dstS l).1 nm av t ∧ SrcAt w' s (dstS l).2 ∧ Trn (fun x => x = m ∨ x = s) w w' := by
  obtain ⟨j, hj⟩ : ∃ j, (takeS 4 l).1 = j := ⟨_, rfl⟩
  obtain ⟨r, hr⟩ : ∃ r, (takeS 4 l).2 = r := ⟨_, rfl⟩
  have hjl : j < 4 := by rw [← hj]; exact take_small 4 l (by omega)
  have HD1 : Hid ((dstS l).1 = nmS 120 j) := by show _ = _; rw [← hj]; rfl
  have HD2 : Hid ((dstS l).2 = r) := by show _ = _; rw [← hr]; rfl
  rw [HD1.out, HD2.out]
  have HT := take_any s l 4 w hS (by omega) (by omega)
  rw [hj, hr] at HT
  have HT := Lib.hid HT
  have HM := Lib.hid hM
  have c0 := row_of hM 0 (.pointer (some ⟨s, 0, none⟩)) rfl
  have hml : m < w.heap.size := (Array.getElem?_eq_some_iff.1 hM).1
  have hsl : s < w.heap.size := hS.lt
  clear hM hS hj hr HD1 HD2
  go_enter Tryz.func89, Tryz.ntmps89
  go_wp2_with (first | (go_at_call 21; refine HT.out.mono ?_; rintro e w1 ⟨rfl, hs1, ht1⟩; have HS1 := Lib.hid hs1; have HT1 := Lib.hid ht1; have HM1 := Lib.hid (ht1.heap HM.out hne); have hal := (Below.refl w1.heap.size w1).alloc (Nat.le_refl _) (.cells #[.int .i64 (j : Nat)] 3); have HN := Lib.hid (name_any 120 j (by omega) w1.heap.size _ (heap_alloc_new w1 (.cells #[.int .i64 (j : Nat)] 3))); have hm2 := (hal.block m (Array.getElem?_eq_some_iff.1 HM1.out).1).trans HM1.out; have hs2 := (hal.block s hs1.lt).trans hs1; have HS2 := Lib.hid hs2; have HM2 := Lib.hid hm2; have HB2 := Lib.hid hal; have c9 := row_of hm2 9 (.string d) rfl; have f9 := frozen_of_row _ m 9 _ _ hm2; clear c0 hs1 ht1 hal hm2 hs2) | (go_at_call 22; refine HN.out.mono ?_; rintro e z ⟨rfl, rfl⟩))
  go_end0
  refine ⟨rfl, ?_, ?_, ?_⟩
  · show _ = _
    rw [heap_setCell_same _ _ _ _ _ _ HM2.out]
    rfl
  · show _ = _
    rw [heap_setCell_other _ _ _ _ (by simpa using hne.symm)]
    exact HS2.out
  · refine ((HT1.out.mono fun i h => .inr h).trans (Trn.of_below HB2.out)).step (setCell_trn _ ⟨m, 9, none⟩ _) fun i _ h => .inl h
theorem two_keepS {W w' : World} {a b : Nat} (ha : w'.heap[a]? = W.heap[a]?) (hb : w'.heap[b]? = W.heap[b]?) : ∀ x ∈ [a, b], w'.heap[x]? = W.heap[x]? := by
  intro x hx; simp only [List.mem_cons, List.not_mem_nil, or_false] at hx; rcases hx with rfl | rfl; exact ha; exact hb
theorem infoArg : (Tryz.prog.info? 47).map (fun i => (i.zero, i.size, i.bytes)) = some (some (.agg #[.string ⟨#[]⟩, .int .u64 0]), 2, 24) := by kernel_rfl
set_option maxRecDepth 100000 in
set_option maxHeartbeats 3200000 in
theorem operand_any (m s p par fn : Nat) (mn : Bool) (tv cv : Value) (k o : Int) (d nm : ByteArray) (av : Value) (t : Int) (args : List ArgD) (base : Nat) (l : List UInt8) (w : World) (hM : MkAt w m s p par fn mn tv cv k o d nm av t) (hS : SrcAt w s l) (hne : m ≠ s) (hown : w.ownsRow base 47 2 av args.length (args.flatMap argCells)) (hmb : m < base) (hsb : s < base) (hbw : base ≤ w.heap.size) (hpar : par ≤ 100) (hargs : args.length ≤ 100) :
    Calls Tryz.prog 90 #[.pointer (some ⟨m, 0, none⟩)] w fun e w' => e = .returned (.tuple #[]) ∧ ∃ av', MkAt w' m s p par fn mn tv cv k o d nm av' t ∧ w'.ownsRow base 47 2 av' (args.length + 1) ((args ++ [(opdS par l).1]).flatMap argCells) ∧ SrcAt w' s (opdS par l).2 ∧ Trn (fun x => x = m ∨ x = s ∨ base ≤ x) w w' := by
  obtain ⟨i0, hi, hz0, hz1, hz2⟩ := info_parts infoArg
  obtain ⟨j, hj⟩ : ∃ j, (takeS 8 l).1 = j := ⟨_, rfl⟩
  obtain ⟨r, hr⟩ : ∃ r, (takeS 8 l).2 = r := ⟨_, rfl⟩
  have hjl : j < 8 := by rw [← hj]; exact take_small 8 l (by omega)
  have HOP : Hid (opdS par l = (if j < 4 then pureS ⟨nmS 120 j, 0⟩ else if j < 7 then bindS (takeS 8) fun v => pureS ⟨.empty, v⟩ else if 0 < par then bindS (takeS par) fun v => pureS ⟨nmS 112 v, 0⟩ else bindS (takeS 256) fun v => pureS (⟨.empty, v⟩ : ArgD)) r) := by
    show _ = _
    rw [← hj, ← hr]
    rfl
  have hal := (Below.refl w.heap.size w).alloc (Nat.le_refl _) (.cells #[.string ⟨#[]⟩, .int .u64 0] 47)
  have hab := below_row hal (Nat.le_refl _) #[.string ⟨#[]⟩, .int .u64 0]
  have HZN := Lib.hid (heap_alloc_new w (.cells #[.string ⟨#[]⟩, .int .u64 0] 47))
  have HA : Hid (((w.alloc (.cells #[.string ⟨#[]⟩, .int .u64 0] 47)).setRow w.heap.size #[.string ⟨#[]⟩, .int .u64 0]).heap[w.heap.size]? = some (.cells #[.string ⟨#[]⟩, .int .u64 0] 47 (0, 0))) := setRow_heap _ _ _ _ _ _ HZN.out
  have HM := Lib.hid ((hab.block m (Array.getElem?_eq_some_iff.1 hM).1).trans hM)
  have hS1 : SrcAt ((w.alloc (.cells #[.string ⟨#[]⟩, .int .u64 0] 47)).setRow w.heap.size #[.string ⟨#[]⟩, .int .u64 0]) s l := (hab.block s hS.lt).trans hS
  have HO := Lib.hid (own_below hown hab)
  have hlt0 : ∀ k, av.ownBlock = some k → k < w.heap.size := fun k hk => own_lt hown hk
  have HB := Lib.hid hab
  have HS := Lib.hid hS1
  have hml : m < w.heap.size := (Array.getElem?_eq_some_iff.1 hM).1
  have hsl : s < w.heap.size := hS.lt
  clear hM hS hown hal hab hS1
  go_enter Tryz.func90, Tryz.ntmps90
  go_upto_region 1 with (refine wpList_store_row rfl 47 (.tmp 2) (.tmp 4) rfl w.heap.size #[.string ⟨#[]⟩, .int .u64 0] rfl rfl 47 #[.string ⟨#[]⟩, .int .u64 0] ?hs0 (by as_aux_lemma => kernel_rfl) (by as_aux_lemma => kernel_rfl) (by as_aux_lemma => kernel_rfl) ?_; exact HZN.out)
  clear HZN
  try simp only [Act.put]
  generalize (w.alloc (.cells #[.string ⟨#[]⟩, .int .u64 0] 47)).setRow w.heap.size #[.string ⟨#[]⟩, .int .u64 0] = W at *
  obtain ⟨a, ha⟩ : ∃ a, w.heap.size = a := ⟨_, rfl⟩
  rw [ha] at HA HB hml hsl hbw hlt0
  have HLT := Lib.hid hlt0
  clear hlt0
  rw [ha]
  have haW : a < W.heap.size := (Array.getElem?_eq_some_iff.1 HA.out).1
  have HT := take_any s l 8 W HS.out (by omega) (by omega)
  rw [hj, hr] at HT
  have HT := Lib.hid HT
  have c0 := row_of HM.out 0 (.pointer (some ⟨s, 0, none⟩)) rfl
  have HWA := Lib.hid ha
  clear hj hr ha
  go_upto_region 3 with (go_at_call 21; refine HT.out.mono ?_; rintro e w1 ⟨rfl, hs1, ht1⟩; have HS1 := Lib.hid hs1; have HT1 := Lib.hid ht1; have HM1 := Lib.hid (ht1.heap HM.out hne); have HA1 := Lib.hid (ht1.heap HA.out (by omega)); have HO1 := Lib.hid (own_trn HO.out ht1 (fun k hk e => by have := own_ge HO.out hk; omega)); clear hs1 ht1)
  clear c0 HT HS HM HA HO
  have HTW : Hid (Trn (fun x => x = m ∨ x = s ∨ base ≤ x) w w1) := (Trn.of_below (show Below w.heap.size w W by rw [HWA.out]; exact HB.out)).trans (HT1.out.mono fun i h => .inr (.inl h))
  have hw1 : W.heap.size ≤ w1.heap.size := HT1.out.size
  have hwa : w.heap.size = a := HWA.out
  by_cases k4 : j < 4
  · have k4' : (j : Int) < 4 := by omega
    obtain ⟨ns, hns⟩ : ∃ x, nmS 120 j = x := ⟨_, rfl⟩
    have hal := (Below.refl w1.heap.size w1).alloc (Nat.le_refl _) (.cells #[.int .i64 (j : Nat)] 3)
    have HN := (name_any 120 j (by omega) w1.heap.size _ (heap_alloc_new w1 (.cells #[.int .i64 (j : Nat)] 3)))
    rw [hns] at HN
    have HN := Lib.hid HN
    have HM2 := Lib.hid ((hal.block m (Array.getElem?_eq_some_iff.1 HM1.out).1).trans HM1.out)
    have HA2 := Lib.hid ((hal.block a (Array.getElem?_eq_some_iff.1 HA1.out).1).trans HA1.out)
    have HS2 : Hid (SrcAt (w1.alloc (.cells #[.int .i64 (j : Nat)] 3)) s r) := (hal.block s HS1.out.lt).trans HS1.out
    have HO2 := Lib.hid (own_below HO1.out hal)
    have HB2 := Lib.hid hal
    have c9 := row_of HA2.out 0 (.string ⟨#[]⟩) rfl
    have f9 := frozen_of_row _ a 0 _ _ HA2.out
    clear hal
    go_upto_region 9 with (go_at_call 22; refine HN.out.mono ?_; rintro e z ⟨rfl, rfl⟩)
    clear c9 f9 HN
    have hsc := setCell_trn (w1.alloc (.cells #[.int .i64 (j : Nat)] 3)) ⟨a, 0, none⟩ (.string ns)
    have HM3 := Lib.hid (hsc.heap HM2.out (by show ¬ m = a; omega))
    have HS3 : Hid (SrcAt ((w1.alloc (.cells #[.int .i64 (j : Nat)] 3)).setCell ⟨a, 0, none⟩ (.string ns)) s r) := hsc.heap HS2.out (by show ¬ s = a; omega)
    have HA3 : Hid (((w1.alloc (.cells #[.int .i64 (j : Nat)] 3)).setCell ⟨a, 0, none⟩ (.string ns)).heap[a]? = some (.cells #[.string ns, .int .u64 0] 47 (0, 0))) := by
      show _ = _
      rw [heap_setCell_same _ _ _ _ _ _ HA2.out]
      rfl
    have HO3 := Lib.hid (own_trn HO2.out hsc (fun k hk e => by have := HLT.out k hk; have e' : k = a := e; omega))
    generalize (w1.alloc (.cells #[.int .i64 (j : Nat)] 3)).setCell ⟨a, 0, none⟩ (.string ns) = w3 at *
    have HTW3 := Lib.hid ((HTW.out.trans (Trn.of_below HB2.out)).step hsc fun i hi h => by have e' : i = a := h; right; right; omega)
    have hres : opdS par l = (⟨ns, 0⟩, r) := by rw [HOP.out, if_pos k4, ← hns]; rfl
    clear hns hsc HM2 HA2 HS2 HO2 HB2
    have l11 := keepS_cell (S := [m, a]) (by simp) (row_of HM3.out 11 av rfl)
    have g0 := keepS_cell (S := [m, a]) (by simp) (row_of HA3.out 0 (.string ns) rfl)
    have g1 := keepS_cell (S := [m, a]) (by simp) (row_of HA3.out 1 (.int .u64 0) rfl)
    refine wp_region_mixS [m, a] (.one [0, 1, 2, 3, 4, 5, 6] 7 (.one [] 8 (tailOf [9, 10, 11, 12]))) (fun j => decide (9 ≤ j)) (by kernel_rfl) (by kernel_rfl) rfl (by kernel_rfl) (fun _ d _ _ _ h => by cases d <;> exact h) ?_
    have HBd : Hid (Below w3.heap.size w3 w3.drew) := (Below.refl _ _).drew
    generalize w3.drew = wn at *
    have hmw : m < w3.heap.size := (Array.getElem?_eq_some_iff.1 HM3.out).1
    have haw : a < w3.heap.size := (Array.getElem?_eq_some_iff.1 HA3.out).1
    have HKn := Lib.hid (two_keepS (HBd.out.block m hmw) (HBd.out.block a haw))
    refine mix_one (by simp only [opsOf, List.filterMap_cons, List.filterMap_nil, List.getElem?_toArray, List.getElem?_cons_succ, List.getElem?_cons_zero]; rfl) ⟨_, keepS_of HKn.out⟩ ?_
    change wpQuiet _ _ _ _ [_, _, _, _, _, _, _] _
    (repeat (go_big_quiet_step (fail)))
    clear l11 g0 g1
    refine wpQuiet_nil ?_
    refine mix_step rfl ?_
    go_wp2_with fail
    have HN := Lib.hid (heap_alloc_new wn (.cells #[.string ns, .int .u64 0] 47))
    have hal2 : Below wn.heap.size wn (wn.alloc (.cells #[.string ns, .int .u64 0] 47)) := (Below.refl _ _).alloc (Nat.le_refl _) _
    have HBn := Lib.hid (bcomp HBd.out hal2)
    have hmn : m < wn.heap.size := by have := HBd.out.size; omega
    have han : a < wn.heap.size := by have := HBd.out.size; omega
    have HKa := Lib.hid (two_keepS (hal2.block m hmn) (hal2.block a han))
    clear hal2
    obtain ⟨gb, hgb⟩ : ∃ gb, wn.heap.size = gb := ⟨_, rfl⟩
    rw [hgb] at HN hmn han
    try rw [hgb]
    generalize wn.alloc (.cells #[.string ns, .int .u64 0] 47) = wa at *
    have HKw := Lib.hid (fun b hb => (HKa.out b hb).trans (HKn.out b hb) : ∀ b ∈ [m, a], wa.heap[b]? = w3.heap[b]?)
    have HOa := Lib.hid (own_below HO3.out HBn.out)
    have hbwa : base ≤ wa.heap.size := by have := HBn.out.size; have := HTW3.out.size; omega
    clear hgb
    (first | refine ⟨fun _ => ⟨_, keepS_of HKw.out⟩, ?_⟩ | refine ⟨⟨_, keepS_of HKw.out⟩, ?_⟩)
    refine mix_now ?_
    refine mix_step rfl ?_
    try (simp only [Act.put, List.setIfInBounds_toArray, List.set_cons_succ, List.set_cons_zero, List.getElem_toArray, List.getElem_cons_succ, List.getElem_cons_zero])
    refine wpList_append_own_at _ rfl (.tmp 57) (.tmp 59) 40 rfl base 47 i0 (.agg #[.string ⟨#[]⟩, .int .u64 0]) 2 24 Tryz.underlying40 hi hz0 hz1 hz2 rfl (by decide) _ _ _ rfl HOa.out ⟨gb, 0, none⟩ 1 1 [.string ns, .int .u64 0] rfl rfl ?hnw ?hone ?h63 ?hby hbwa ?_
    case hnw =>
      intro j u hu
      match j, hu with
      | 0, hu => simp only [List.getElem?_cons_zero, Option.some.injEq] at hu; subst hu; exact row_of HN.out 0 _ rfl
      | 1, hu => simp only [List.getElem?_cons_zero, List.getElem?_cons_succ, Option.some.injEq] at hu; subst hu; exact row_of HN.out 1 _ rfl
      | j + 2, hu => simp at hu
    case hone => intro u hu; simp only [List.mem_cons, List.not_mem_nil, or_false] at hu; rcases hu with rfl | rfl <;> rfl
    case h63 => unfold maxLen; omega
    case hby => omega
    intro v' w4 hown' hgrow _ hblk
    have HNB : Hid (av.ownBlock ≠ some m ∧ av.ownBlock ≠ some a ∧ av.ownBlock ≠ some s) := ⟨fun e => by have := own_ge HOa.out e; omega, fun e => by have := HLT.out a e; omega, fun e => by have := own_ge HOa.out e; omega⟩
    have hma : m < wa.heap.size := by have := HBn.out.size; omega
    have haa : a < wa.heap.size := by have := HBn.out.size; omega
    have hm4 := (hgrow.block m hma (fun e => HNB.out.1 e.symm)).trans ((HKw.out m (by simp)).trans HM3.out)
    have ha4 := (hgrow.block a haa (fun e => HNB.out.2.1 e.symm)).trans ((HKw.out a (by simp)).trans HA3.out)
    obtain ⟨xa, xc, rfl, _⟩ := own_read hown'
    have HO4 := Lib.hid hown'
    have HG4 := Lib.hid hgrow
    have HM4 := Lib.hid hm4
    have HKf := Lib.hid (two_keepS (hm4.trans HM3.out.symm) (ha4.trans HA3.out.symm))
    clear hown' hgrow hblk ha4
    try (simp only [Act.put, List.setIfInBounds_toArray, List.set_cons_succ, List.set_cons_zero, List.getElem_toArray, List.getElem_cons_succ, List.getElem_cons_zero])
    go_wp2_with fail
    (first | refine ⟨fun _ => ⟨_, keepS_of HKf.out⟩, ?_⟩ | refine ⟨⟨_, keepS_of HKf.out⟩, ?_⟩)
    have c11 := row_of hm4 11 av rfl
    have f11 := frozen_of_row w4 m 11 _ _ hm4
    clear hm4
    refine mix_tail [9, 10, 11, 12] [_, _, _, _] _ _ rfl rfl ?_
    simp only [Act.put, List.setIfInBounds_toArray, List.set_cons_succ, List.set_cons_zero, List.getElem_toArray, List.getElem_cons_succ, List.getElem_cons_zero]
    go_wp2_with fail
    go_end0
    refine ⟨rfl, .slice xa (args.length + 1) xc, ?_, ?_, ?_, ?_⟩
    · show _ = _
      rw [heap_setCell_same _ _ _ _ _ _ HM4.out]
      rfl
    · show World.ownsRow _ _ _ _ _ _ _
      rw [hres, List.flatMap_append]
      have hsc := setCell_trn w4 ⟨m, 11, none⟩ (.slice xa (args.length + 1) xc)
      have := own_trn HO4.out hsc (fun k hk e => by have := own_ge HO4.out hk; have e' : k = m := e; omega)
      simpa [argCells, show ByteArray.empty = (⟨#[]⟩ : ByteArray) from rfl] using this
    · show _ = _
      rw [hres, heap_setCell_other _ _ _ _ (by simpa using hne.symm)]
      have hsa := HBn.out.block s HS3.out.lt
      exact (HG4.out.block s (by have := HBn.out.size; have := HS3.out.lt; omega) (fun e => HNB.out.2.2 e.symm)).trans (hsa.trans HS3.out)
    · exact ((((HTW3.out).trans (Trn.of_below HBn.out)).trans (Trn.of_grown HG4.out (fun b hb => .inr (.inr (own_ge HOa.out hb))))).step (setCell_trn _ ⟨m, 11, none⟩ _) fun i _ h => .inl h)
  · by_cases k7 : j < 7
    · have k4' : ¬ (j : Int) < 4 := by omega
      have k7' : (j : Int) < 7 := by omega
      obtain ⟨v, hv⟩ : ∃ v, (takeS 8 r).1 = v := ⟨_, rfl⟩
      obtain ⟨r2, hr2⟩ : ∃ x, (takeS 8 r).2 = x := ⟨_, rfl⟩
      have hvl : v < 8 := by rw [← hv]; exact take_small 8 r (by omega)
      have hres : opdS par l = (⟨.empty, (v : Nat)⟩, r2) := by
        rw [HOP.out, if_neg k4, if_pos k7, ← hv, ← hr2]; rfl
      have HT := take_any s r 8 w1 HS1.out (by omega) (by omega)
      rw [hv, hr2] at HT
      have HT := Lib.hid HT
      have c0 := row_of HM1.out 0 (.pointer (some ⟨s, 0, none⟩)) rfl
      have hwr : IntKind.u64.wrap (v : Int) = v := by rw [IntKind.wrap_u64]; exact Int.emod_eq_of_lt (by omega) (by omega)
      have HRES := Lib.hid hres
      clear hv hr2 hres
      go_upto_region 9 with (go_at_call 21; refine HT.out.mono ?_; rintro e w2 ⟨rfl, hs2, ht2⟩; have HS2 := Lib.hid hs2; have HT2 := Lib.hid ht2; have HM2 := Lib.hid (ht2.heap HM1.out hne); have HA2 := Lib.hid (ht2.heap HA1.out (by omega)); have HO2 := Lib.hid (own_trn HO1.out ht2 (fun k hk e => by have := own_ge HO1.out hk; omega)); have c1 := row_of HA2.out 1 (.int .u64 0) rfl; have f1 := frozen_of_row _ a 1 _ _ HA2.out; clear hs2 ht2)
      clear c0 c1 f1 HT
      have hsc := setCell_trn w2 ⟨a, 1, none⟩ (.int .u64 (v : Nat))
      have HM3 := Lib.hid (hsc.heap HM2.out (by show ¬ m = a; omega))
      have HS3 : Hid (SrcAt (w2.setCell ⟨a, 1, none⟩ (.int .u64 (v : Nat))) s r2) := hsc.heap HS2.out (by show ¬ s = a; omega)
      have HA3 : Hid ((w2.setCell ⟨a, 1, none⟩ (.int .u64 (v : Nat))).heap[a]? = some (.cells #[.string ⟨#[]⟩, .int .u64 (v : Nat)] 47 (0, 0))) := by
        show _ = _
        rw [heap_setCell_same _ _ _ _ _ _ HA2.out]
        rfl
      have HO3 := Lib.hid (own_trn HO2.out hsc (fun k hk e => by have := HLT.out k hk; have e' : k = a := e; omega))
      generalize w2.setCell ⟨a, 1, none⟩ (.int .u64 (v : Nat)) = w3 at *
      have HTW3 := Lib.hid ((HTW.out.trans (HT2.out.mono fun i h => .inr (.inl h))).step hsc fun i hi h => by have e' : i = a := h; right; right; omega)
      have hres := HRES.out
      clear hsc HM2 HA2 HS2 HO2 HT2
      have l11 := keepS_cell (S := [m, a]) (by simp) (row_of HM3.out 11 av rfl)
      have g0 := keepS_cell (S := [m, a]) (by simp) (row_of HA3.out 0 (.string ⟨#[]⟩) rfl)
      have g1 := keepS_cell (S := [m, a]) (by simp) (row_of HA3.out 1 (.int .u64 (v : Nat)) rfl)
      refine wp_region_mixS [m, a] (.one [0, 1, 2, 3, 4, 5, 6] 7 (.one [] 8 (tailOf [9, 10, 11, 12]))) (fun j => decide (9 ≤ j)) (by kernel_rfl) (by kernel_rfl) rfl (by kernel_rfl) (fun _ d _ _ _ h => by cases d <;> exact h) ?_
      have HBd : Hid (Below w3.heap.size w3 w3.drew) := (Below.refl _ _).drew
      generalize w3.drew = wn at *
      have hmw : m < w3.heap.size := (Array.getElem?_eq_some_iff.1 HM3.out).1
      have haw : a < w3.heap.size := (Array.getElem?_eq_some_iff.1 HA3.out).1
      have HKn := Lib.hid (two_keepS (HBd.out.block m hmw) (HBd.out.block a haw))
      refine mix_one (by simp only [opsOf, List.filterMap_cons, List.filterMap_nil, List.getElem?_toArray, List.getElem?_cons_succ, List.getElem?_cons_zero]; rfl) ⟨_, keepS_of HKn.out⟩ ?_
      change wpQuiet _ _ _ _ [_, _, _, _, _, _, _] _
      (repeat (go_big_quiet_step (fail)))
      clear l11 g0 g1
      refine wpQuiet_nil ?_
      refine mix_step rfl ?_
      go_wp2_with fail
      have HN := Lib.hid (heap_alloc_new wn (.cells #[.string ⟨#[]⟩, .int .u64 (v : Nat)] 47))
      have hal2 : Below wn.heap.size wn (wn.alloc (.cells #[.string ⟨#[]⟩, .int .u64 (v : Nat)] 47)) := (Below.refl _ _).alloc (Nat.le_refl _) _
      have HBn := Lib.hid (bcomp HBd.out hal2)
      have hmn : m < wn.heap.size := by have := HBd.out.size; omega
      have han : a < wn.heap.size := by have := HBd.out.size; omega
      have HKa := Lib.hid (two_keepS (hal2.block m hmn) (hal2.block a han))
      clear hal2
      obtain ⟨gb, hgb⟩ : ∃ gb, wn.heap.size = gb := ⟨_, rfl⟩
      rw [hgb] at HN hmn han
      try rw [hgb]
      generalize wn.alloc (.cells #[.string ⟨#[]⟩, .int .u64 (v : Nat)] 47) = wa at *
      have HKw := Lib.hid (fun b hb => (HKa.out b hb).trans (HKn.out b hb) : ∀ b ∈ [m, a], wa.heap[b]? = w3.heap[b]?)
      have HOa := Lib.hid (own_below HO3.out HBn.out)
      have hbwa : base ≤ wa.heap.size := by have := HBn.out.size; have := HTW3.out.size; omega
      clear hgb
      (first | refine ⟨fun _ => ⟨_, keepS_of HKw.out⟩, ?_⟩ | refine ⟨⟨_, keepS_of HKw.out⟩, ?_⟩)
      refine mix_now ?_
      refine mix_step rfl ?_
      try (simp only [Act.put, List.setIfInBounds_toArray, List.set_cons_succ, List.set_cons_zero, List.getElem_toArray, List.getElem_cons_succ, List.getElem_cons_zero])
      refine wpList_append_own_at _ rfl (.tmp 57) (.tmp 59) 40 rfl base 47 i0 (.agg #[.string ⟨#[]⟩, .int .u64 0]) 2 24 Tryz.underlying40 hi hz0 hz1 hz2 rfl (by decide) _ _ _ rfl HOa.out ⟨gb, 0, none⟩ 1 1 [.string ⟨#[]⟩, .int .u64 (v : Nat)] rfl rfl ?hnw ?hone ?h63 ?hby hbwa ?_
      case hnw =>
        intro j u hu
        match j, hu with
        | 0, hu => simp only [List.getElem?_cons_zero, Option.some.injEq] at hu; subst hu; exact row_of HN.out 0 _ rfl
        | 1, hu => simp only [List.getElem?_cons_zero, List.getElem?_cons_succ, Option.some.injEq] at hu; subst hu; exact row_of HN.out 1 _ rfl
        | j + 2, hu => simp at hu
      case hone => intro u hu; simp only [List.mem_cons, List.not_mem_nil, or_false] at hu; rcases hu with rfl | rfl <;> rfl
      case h63 => unfold maxLen; omega
      case hby => omega
      intro v' w4 hown' hgrow _ hblk
      have HNB : Hid (av.ownBlock ≠ some m ∧ av.ownBlock ≠ some a ∧ av.ownBlock ≠ some s) := ⟨fun e => by have := own_ge HOa.out e; omega, fun e => by have := HLT.out a e; omega, fun e => by have := own_ge HOa.out e; omega⟩
      have hma : m < wa.heap.size := by have := HBn.out.size; omega
      have haa : a < wa.heap.size := by have := HBn.out.size; omega
      have hm4 := (hgrow.block m hma (fun e => HNB.out.1 e.symm)).trans ((HKw.out m (by simp)).trans HM3.out)
      have ha4 := (hgrow.block a haa (fun e => HNB.out.2.1 e.symm)).trans ((HKw.out a (by simp)).trans HA3.out)
      obtain ⟨xa, xc, rfl, _⟩ := own_read hown'
      have HO4 := Lib.hid hown'
      have HG4 := Lib.hid hgrow
      have HM4 := Lib.hid hm4
      have HKf := Lib.hid (two_keepS (hm4.trans HM3.out.symm) (ha4.trans HA3.out.symm))
      clear hown' hgrow hblk ha4
      try (simp only [Act.put, List.setIfInBounds_toArray, List.set_cons_succ, List.set_cons_zero, List.getElem_toArray, List.getElem_cons_succ, List.getElem_cons_zero])
      go_wp2_with fail
      (first | refine ⟨fun _ => ⟨_, keepS_of HKf.out⟩, ?_⟩ | refine ⟨⟨_, keepS_of HKf.out⟩, ?_⟩)
      have c11 := row_of hm4 11 av rfl
      have f11 := frozen_of_row w4 m 11 _ _ hm4
      clear hm4
      refine mix_tail [9, 10, 11, 12] [_, _, _, _] _ _ rfl rfl ?_
      simp only [Act.put, List.setIfInBounds_toArray, List.set_cons_succ, List.set_cons_zero, List.getElem_toArray, List.getElem_cons_succ, List.getElem_cons_zero]
      go_wp2_with fail
      go_end0
      refine ⟨rfl, .slice xa (args.length + 1) xc, ?_, ?_, ?_, ?_⟩
      · show _ = _
        rw [heap_setCell_same _ _ _ _ _ _ HM4.out]
        rfl
      · show World.ownsRow _ _ _ _ _ _ _
        rw [hres, List.flatMap_append]
        have hsc := setCell_trn w4 ⟨m, 11, none⟩ (.slice xa (args.length + 1) xc)
        have := own_trn HO4.out hsc (fun k hk e => by have := own_ge HO4.out hk; have e' : k = m := e; omega)
        simpa [argCells, show ByteArray.empty = (⟨#[]⟩ : ByteArray) from rfl] using this
      · show _ = _
        rw [hres, heap_setCell_other _ _ _ _ (by simpa using hne.symm)]
        have hsa := HBn.out.block s HS3.out.lt
        exact (HG4.out.block s (by have := HBn.out.size; have := HS3.out.lt; omega) (fun e => HNB.out.2.2 e.symm)).trans (hsa.trans HS3.out)
      · exact ((((HTW3.out).trans (Trn.of_below HBn.out)).trans (Trn.of_grown HG4.out (fun b hb => .inr (.inr (own_ge HOa.out hb))))).step (setCell_trn _ ⟨m, 11, none⟩ _) fun i _ h => .inl h)
    · have k4' : ¬ (j : Int) < 4 := by omega
      have k7' : ¬ (j : Int) < 7 := by omega
      have c2 := row_of HM1.out 2 (.int .i64 (par : Nat)) rfl
      by_cases kp : 0 < par
      · have kp' : (0 : Int) < par := by omega
        obtain ⟨v, hv⟩ : ∃ v, (takeS par r).1 = v := ⟨_, rfl⟩
        obtain ⟨r2, hr2⟩ : ∃ x, (takeS par r).2 = x := ⟨_, rfl⟩
        have hvl : v < par := by rw [← hv]; exact take_small par r (by omega)
        obtain ⟨ns, hns⟩ : ∃ x, nmS 112 v = x := ⟨_, rfl⟩
        have hres : opdS par l = (⟨ns, 0⟩, r2) := by
          rw [HOP.out, if_neg k4, if_neg k7, if_pos kp, ← hns, ← hv, ← hr2]; rfl
        have HRES := Lib.hid hres
        go_upto_region 8 with fail
        clear c2
        have l0 := keepS_cell (S := [m, a]) (by simp) (row_of HM1.out 0 (.pointer (some ⟨s, 0, none⟩)) rfl)
        have l2 := keepS_cell (S := [m, a]) (by simp) (row_of HM1.out 2 (.int .i64 (par : Nat)) rfl)
        refine wp_region_mixS [m, a] (.one [0, 1, 2, 3, 4, 5, 6, 7] 8 (.one [] 9 (.one [] 10 (tailOf [11, 12])))) (fun j => decide (11 ≤ j)) (by kernel_rfl) (by kernel_rfl) rfl (by kernel_rfl) (fun _ d _ _ _ h => by cases d <;> exact h) ?_
        have HBd : Hid (Below w1.heap.size w1 w1.drew) := (Below.refl _ _).drew
        generalize w1.drew = wn at *
        have hm1 : m < w1.heap.size := (Array.getElem?_eq_some_iff.1 HM1.out).1
        have ha1 : a < w1.heap.size := (Array.getElem?_eq_some_iff.1 HA1.out).1
        have HKn := Lib.hid (two_keepS (HBd.out.block m hm1) (HBd.out.block a ha1))
        have HSn : Hid (SrcAt wn s r) := (HBd.out.block s HS1.out.lt).trans HS1.out
        refine mix_one (by simp only [opsOf, List.filterMap_cons, List.filterMap_nil, List.getElem?_toArray, List.getElem?_cons_succ, List.getElem?_cons_zero]; rfl) ⟨_, keepS_of HKn.out⟩ ?_
        change wpQuiet _ _ _ _ [_, _, _, _, _, _, _, _] _
        (repeat (go_big_quiet_step (fail)))
        clear l0 l2
        refine wpQuiet_nil ?_
        refine mix_step rfl ?_
        have HT := take_any s r par wn HSn.out (by omega) (by omega)
        rw [hv, hr2] at HT
        have HT := Lib.hid HT
        clear hv hr2
        go_wp2_with (go_at_call 21; refine HT.out.mono ?_; rintro e w2 ⟨rfl, hs2, ht2⟩)
        have HT2 := Lib.hid ((Trn.of_below HBd.out : Trn (fun x => x = s) w1 wn).trans ht2)
        have HS2 := Lib.hid hs2
        have HM2 := Lib.hid (HT2.out.heap HM1.out hne)
        have HA2 := Lib.hid (HT2.out.heap HA1.out (by omega))
        have HO2 := Lib.hid (own_trn HO1.out HT2.out (fun k hk e => by have := own_ge HO1.out hk; omega))
        have HK2 := Lib.hid (two_keepS (HM2.out.trans HM1.out.symm) (HA2.out.trans HA1.out.symm))
        clear hs2 ht2 HT HSn HKn HBd
        (first | refine ⟨fun _ => ⟨_, keepS_of HK2.out⟩, ?_⟩ | refine ⟨⟨_, keepS_of HK2.out⟩, ?_⟩)
        refine mix_now ?_
        refine mix_step rfl ?_
        go_wp2_with fail
        have hal := (Below.refl w2.heap.size w2).alloc (Nat.le_refl _) (.cells #[.int .i64 (v : Nat)] 3)
        have HN := (name_any 112 v (by omega) w2.heap.size _ (heap_alloc_new w2 (.cells #[.int .i64 (v : Nat)] 3)))
        rw [hns] at HN
        have HN := Lib.hid HN
        have HM3a := Lib.hid ((hal.block m (Array.getElem?_eq_some_iff.1 HM2.out).1).trans HM2.out)
        have HA3a := Lib.hid ((hal.block a (Array.getElem?_eq_some_iff.1 HA2.out).1).trans HA2.out)
        have HS3a : Hid (SrcAt (w2.alloc (.cells #[.int .i64 (v : Nat)] 3)) s r2) := (hal.block s HS2.out.lt).trans HS2.out
        have HO3a := Lib.hid (own_below HO2.out hal)
        have HB3a := Lib.hid hal
        have HK3 := Lib.hid (two_keepS (HM3a.out.trans HM1.out.symm) (HA3a.out.trans HA1.out.symm))
        clear hal hns
        (first | refine ⟨fun _ => ⟨_, keepS_of HK3.out⟩, ?_⟩ | refine ⟨⟨_, keepS_of HK3.out⟩, ?_⟩)
        refine mix_now ?_
        refine mix_step rfl ?_
        go_wp2_with (go_at_call 22; refine HN.out.mono ?_; rintro e z ⟨rfl, rfl⟩)
        (first | refine ⟨fun _ => ⟨_, keepS_of HK3.out⟩, ?_⟩ | refine ⟨⟨_, keepS_of HK3.out⟩, ?_⟩)
        refine mix_tail [11, 12] [_, _] _ _ rfl rfl ?_
        have c9 := row_of HA3a.out 0 (.string ⟨#[]⟩) rfl
        have f9 := frozen_of_row _ a 0 _ _ HA3a.out
        go_upto_region 9 with fail
        clear c9 f9 HN
        have hsc := setCell_trn (w2.alloc (.cells #[.int .i64 (v : Nat)] 3)) ⟨a, 0, none⟩ (.string ns)
        have HM3 := Lib.hid (hsc.heap HM3a.out (by show ¬ m = a; omega))
        have HS3 : Hid (SrcAt ((w2.alloc (.cells #[.int .i64 (v : Nat)] 3)).setCell ⟨a, 0, none⟩ (.string ns)) s r2) := hsc.heap HS3a.out (by show ¬ s = a; omega)
        have HA3 : Hid (((w2.alloc (.cells #[.int .i64 (v : Nat)] 3)).setCell ⟨a, 0, none⟩ (.string ns)).heap[a]? = some (.cells #[.string ns, .int .u64 0] 47 (0, 0))) := by
          show _ = _
          rw [heap_setCell_same _ _ _ _ _ _ HA3a.out]
          rfl
        have HO3 := Lib.hid (own_trn HO3a.out hsc (fun k hk e => by have := HLT.out k hk; have e' : k = a := e; omega))
        generalize (w2.alloc (.cells #[.int .i64 (v : Nat)] 3)).setCell ⟨a, 0, none⟩ (.string ns) = w3 at *
        have HTW3 := Lib.hid (((HTW.out.trans (HT2.out.mono fun i h => .inr (.inl h))).trans (Trn.of_below HB3a.out)).step hsc fun i hi h => by have e' : i = a := h; right; right; omega)
        clear hsc HM3a HA3a HS3a HO3a HB3a HM2 HA2 HS2 HO2 HT2 HK2 HK3 hres
        have hres := HRES.out
        have l11 := keepS_cell (S := [m, a]) (by simp) (row_of HM3.out 11 av rfl)
        have g0 := keepS_cell (S := [m, a]) (by simp) (row_of HA3.out 0 (.string ns) rfl)
        have g1 := keepS_cell (S := [m, a]) (by simp) (row_of HA3.out 1 (.int .u64 0) rfl)
        refine wp_region_mixS [m, a] (.one [0, 1, 2, 3, 4, 5, 6] 7 (.one [] 8 (tailOf [9, 10, 11, 12]))) (fun j => decide (9 ≤ j)) (by kernel_rfl) (by kernel_rfl) rfl (by kernel_rfl) (fun _ d _ _ _ h => by cases d <;> exact h) ?_
        have HBd : Hid (Below w3.heap.size w3 w3.drew) := (Below.refl _ _).drew
        generalize w3.drew = wn at *
        have hmw : m < w3.heap.size := (Array.getElem?_eq_some_iff.1 HM3.out).1
        have haw : a < w3.heap.size := (Array.getElem?_eq_some_iff.1 HA3.out).1
        have HKn := Lib.hid (two_keepS (HBd.out.block m hmw) (HBd.out.block a haw))
        refine mix_one (by simp only [opsOf, List.filterMap_cons, List.filterMap_nil, List.getElem?_toArray, List.getElem?_cons_succ, List.getElem?_cons_zero]; rfl) ⟨_, keepS_of HKn.out⟩ ?_
        change wpQuiet _ _ _ _ [_, _, _, _, _, _, _] _
        (repeat (go_big_quiet_step (fail)))
        clear l11 g0 g1
        refine wpQuiet_nil ?_
        refine mix_step rfl ?_
        go_wp2_with fail
        have HN := Lib.hid (heap_alloc_new wn (.cells #[.string ns, .int .u64 0] 47))
        have hal2 : Below wn.heap.size wn (wn.alloc (.cells #[.string ns, .int .u64 0] 47)) := (Below.refl _ _).alloc (Nat.le_refl _) _
        have HBn := Lib.hid (bcomp HBd.out hal2)
        have hmn : m < wn.heap.size := by have := HBd.out.size; omega
        have han : a < wn.heap.size := by have := HBd.out.size; omega
        have HKa := Lib.hid (two_keepS (hal2.block m hmn) (hal2.block a han))
        clear hal2
        obtain ⟨gb, hgb⟩ : ∃ gb, wn.heap.size = gb := ⟨_, rfl⟩
        rw [hgb] at HN hmn han
        try rw [hgb]
        generalize wn.alloc (.cells #[.string ns, .int .u64 0] 47) = wa at *
        have HKw := Lib.hid (fun b hb => (HKa.out b hb).trans (HKn.out b hb) : ∀ b ∈ [m, a], wa.heap[b]? = w3.heap[b]?)
        have HOa := Lib.hid (own_below HO3.out HBn.out)
        have hbwa : base ≤ wa.heap.size := by have := HBn.out.size; have := HTW3.out.size; omega
        clear hgb
        (first | refine ⟨fun _ => ⟨_, keepS_of HKw.out⟩, ?_⟩ | refine ⟨⟨_, keepS_of HKw.out⟩, ?_⟩)
        refine mix_now ?_
        refine mix_step rfl ?_
        try (simp only [Act.put, List.setIfInBounds_toArray, List.set_cons_succ, List.set_cons_zero, List.getElem_toArray, List.getElem_cons_succ, List.getElem_cons_zero])
        refine wpList_append_own_at _ rfl (.tmp 57) (.tmp 59) 40 rfl base 47 i0 (.agg #[.string ⟨#[]⟩, .int .u64 0]) 2 24 Tryz.underlying40 hi hz0 hz1 hz2 rfl (by decide) _ _ _ rfl HOa.out ⟨gb, 0, none⟩ 1 1 [.string ns, .int .u64 0] rfl rfl ?hnw ?hone ?h63 ?hby hbwa ?_
        case hnw =>
          intro j u hu
          match j, hu with
          | 0, hu => simp only [List.getElem?_cons_zero, Option.some.injEq] at hu; subst hu; exact row_of HN.out 0 _ rfl
          | 1, hu => simp only [List.getElem?_cons_zero, List.getElem?_cons_succ, Option.some.injEq] at hu; subst hu; exact row_of HN.out 1 _ rfl
          | j + 2, hu => simp at hu
        case hone => intro u hu; simp only [List.mem_cons, List.not_mem_nil, or_false] at hu; rcases hu with rfl | rfl <;> rfl
        case h63 => unfold maxLen; omega
        case hby => omega
        intro v' w4 hown' hgrow _ hblk
        have HNB : Hid (av.ownBlock ≠ some m ∧ av.ownBlock ≠ some a ∧ av.ownBlock ≠ some s) := ⟨fun e => by have := own_ge HOa.out e; omega, fun e => by have := HLT.out a e; omega, fun e => by have := own_ge HOa.out e; omega⟩
        have hma : m < wa.heap.size := by have := HBn.out.size; omega
        have haa : a < wa.heap.size := by have := HBn.out.size; omega
        have hm4 := (hgrow.block m hma (fun e => HNB.out.1 e.symm)).trans ((HKw.out m (by simp)).trans HM3.out)
        have ha4 := (hgrow.block a haa (fun e => HNB.out.2.1 e.symm)).trans ((HKw.out a (by simp)).trans HA3.out)
        obtain ⟨xa, xc, rfl, _⟩ := own_read hown'
        have HO4 := Lib.hid hown'
        have HG4 := Lib.hid hgrow
        have HM4 := Lib.hid hm4
        have HKf := Lib.hid (two_keepS (hm4.trans HM3.out.symm) (ha4.trans HA3.out.symm))
        clear hown' hgrow hblk ha4
        try (simp only [Act.put, List.setIfInBounds_toArray, List.set_cons_succ, List.set_cons_zero, List.getElem_toArray, List.getElem_cons_succ, List.getElem_cons_zero])
        go_wp2_with fail
        (first | refine ⟨fun _ => ⟨_, keepS_of HKf.out⟩, ?_⟩ | refine ⟨⟨_, keepS_of HKf.out⟩, ?_⟩)
        have c11 := row_of hm4 11 av rfl
        have f11 := frozen_of_row w4 m 11 _ _ hm4
        clear hm4
        refine mix_tail [9, 10, 11, 12] [_, _, _, _] _ _ rfl rfl ?_
        simp only [Act.put, List.setIfInBounds_toArray, List.set_cons_succ, List.set_cons_zero, List.getElem_toArray, List.getElem_cons_succ, List.getElem_cons_zero]
        go_wp2_with fail
        go_end0
        refine ⟨rfl, .slice xa (args.length + 1) xc, ?_, ?_, ?_, ?_⟩
        · show _ = _
          rw [heap_setCell_same _ _ _ _ _ _ HM4.out]
          rfl
        · show World.ownsRow _ _ _ _ _ _ _
          rw [hres, List.flatMap_append]
          have hsc := setCell_trn w4 ⟨m, 11, none⟩ (.slice xa (args.length + 1) xc)
          have := own_trn HO4.out hsc (fun k hk e => by have := own_ge HO4.out hk; have e' : k = m := e; omega)
          simpa [argCells, show ByteArray.empty = (⟨#[]⟩ : ByteArray) from rfl] using this
        · show _ = _
          rw [hres, heap_setCell_other _ _ _ _ (by simpa using hne.symm)]
          have hsa := HBn.out.block s HS3.out.lt
          exact (HG4.out.block s (by have := HBn.out.size; have := HS3.out.lt; omega) (fun e => HNB.out.2.2 e.symm)).trans (hsa.trans HS3.out)
        · exact ((((HTW3.out).trans (Trn.of_below HBn.out)).trans (Trn.of_grown HG4.out (fun b hb => .inr (.inr (own_ge HOa.out hb))))).step (setCell_trn _ ⟨m, 11, none⟩ _) fun i _ h => .inl h)
      · have kp' : ¬ (0 : Int) < par := by omega
        obtain ⟨v, hv⟩ : ∃ v, (takeS 256 r).1 = v := ⟨_, rfl⟩
        obtain ⟨r2, hr2⟩ : ∃ x, (takeS 256 r).2 = x := ⟨_, rfl⟩
        have hvl : v < 256 := by rw [← hv]; exact take_small 256 r (by omega)
        have hres : opdS par l = (⟨.empty, (v : Nat)⟩, r2) := by
          rw [HOP.out, if_neg k4, if_neg k7, if_neg kp, ← hv, ← hr2]; rfl
        have HT := take_any s r 256 w1 HS1.out (by omega) (by omega)
        rw [hv, hr2] at HT
        have HT := Lib.hid HT
        have c0 := row_of HM1.out 0 (.pointer (some ⟨s, 0, none⟩)) rfl
        have hwr : IntKind.u64.wrap (v : Int) = v := by rw [IntKind.wrap_u64]; exact Int.emod_eq_of_lt (by omega) (by omega)
        have HRES := Lib.hid hres
        clear hv hr2 hres
        go_upto_region 9 with (go_at_call 21; refine HT.out.mono ?_; rintro e w2 ⟨rfl, hs2, ht2⟩; have HS2 := Lib.hid hs2; have HT2 := Lib.hid ht2; have HM2 := Lib.hid (ht2.heap HM1.out hne); have HA2 := Lib.hid (ht2.heap HA1.out (by omega)); have HO2 := Lib.hid (own_trn HO1.out ht2 (fun k hk e => by have := own_ge HO1.out hk; omega)); have c1 := row_of HA2.out 1 (.int .u64 0) rfl; have f1 := frozen_of_row _ a 1 _ _ HA2.out; clear hs2 ht2)
        clear c0 c1 f1 HT
        have hsc := setCell_trn w2 ⟨a, 1, none⟩ (.int .u64 (v : Nat))
        have HM3 := Lib.hid (hsc.heap HM2.out (by show ¬ m = a; omega))
        have HS3 : Hid (SrcAt (w2.setCell ⟨a, 1, none⟩ (.int .u64 (v : Nat))) s r2) := hsc.heap HS2.out (by show ¬ s = a; omega)
        have HA3 : Hid ((w2.setCell ⟨a, 1, none⟩ (.int .u64 (v : Nat))).heap[a]? = some (.cells #[.string ⟨#[]⟩, .int .u64 (v : Nat)] 47 (0, 0))) := by
          show _ = _
          rw [heap_setCell_same _ _ _ _ _ _ HA2.out]
          rfl
        have HO3 := Lib.hid (own_trn HO2.out hsc (fun k hk e => by have := HLT.out k hk; have e' : k = a := e; omega))
        generalize w2.setCell ⟨a, 1, none⟩ (.int .u64 (v : Nat)) = w3 at *
        have HTW3 := Lib.hid ((HTW.out.trans (HT2.out.mono fun i h => .inr (.inl h))).step hsc fun i hi h => by have e' : i = a := h; right; right; omega)
        have hres := HRES.out
        clear hsc HM2 HA2 HS2 HO2 HT2
        have l11 := keepS_cell (S := [m, a]) (by simp) (row_of HM3.out 11 av rfl)
        have g0 := keepS_cell (S := [m, a]) (by simp) (row_of HA3.out 0 (.string ⟨#[]⟩) rfl)
        have g1 := keepS_cell (S := [m, a]) (by simp) (row_of HA3.out 1 (.int .u64 (v : Nat)) rfl)
        refine wp_region_mixS [m, a] (.one [0, 1, 2, 3, 4, 5, 6] 7 (.one [] 8 (tailOf [9, 10, 11, 12]))) (fun j => decide (9 ≤ j)) (by kernel_rfl) (by kernel_rfl) rfl (by kernel_rfl) (fun _ d _ _ _ h => by cases d <;> exact h) ?_
        have HBd : Hid (Below w3.heap.size w3 w3.drew) := (Below.refl _ _).drew
        generalize w3.drew = wn at *
        have hmw : m < w3.heap.size := (Array.getElem?_eq_some_iff.1 HM3.out).1
        have haw : a < w3.heap.size := (Array.getElem?_eq_some_iff.1 HA3.out).1
        have HKn := Lib.hid (two_keepS (HBd.out.block m hmw) (HBd.out.block a haw))
        refine mix_one (by simp only [opsOf, List.filterMap_cons, List.filterMap_nil, List.getElem?_toArray, List.getElem?_cons_succ, List.getElem?_cons_zero]; rfl) ⟨_, keepS_of HKn.out⟩ ?_
        change wpQuiet _ _ _ _ [_, _, _, _, _, _, _] _
        (repeat (go_big_quiet_step (fail)))
        clear l11 g0 g1
        refine wpQuiet_nil ?_
        refine mix_step rfl ?_
        go_wp2_with fail
        have HN := Lib.hid (heap_alloc_new wn (.cells #[.string ⟨#[]⟩, .int .u64 (v : Nat)] 47))
        have hal2 : Below wn.heap.size wn (wn.alloc (.cells #[.string ⟨#[]⟩, .int .u64 (v : Nat)] 47)) := (Below.refl _ _).alloc (Nat.le_refl _) _
        have HBn := Lib.hid (bcomp HBd.out hal2)
        have hmn : m < wn.heap.size := by have := HBd.out.size; omega
        have han : a < wn.heap.size := by have := HBd.out.size; omega
        have HKa := Lib.hid (two_keepS (hal2.block m hmn) (hal2.block a han))
        clear hal2
        obtain ⟨gb, hgb⟩ : ∃ gb, wn.heap.size = gb := ⟨_, rfl⟩
        rw [hgb] at HN hmn han
        try rw [hgb]
        generalize wn.alloc (.cells #[.string ⟨#[]⟩, .int .u64 (v : Nat)] 47) = wa at *
        have HKw := Lib.hid (fun b hb => (HKa.out b hb).trans (HKn.out b hb) : ∀ b ∈ [m, a], wa.heap[b]? = w3.heap[b]?)
        have HOa := Lib.hid (own_below HO3.out HBn.out)
        have hbwa : base ≤ wa.heap.size := by have := HBn.out.size; have := HTW3.out.size; omega
        clear hgb
        (first | refine ⟨fun _ => ⟨_, keepS_of HKw.out⟩, ?_⟩ | refine ⟨⟨_, keepS_of HKw.out⟩, ?_⟩)
        refine mix_now ?_
        refine mix_step rfl ?_
        try (simp only [Act.put, List.setIfInBounds_toArray, List.set_cons_succ, List.set_cons_zero, List.getElem_toArray, List.getElem_cons_succ, List.getElem_cons_zero])
        refine wpList_append_own_at _ rfl (.tmp 57) (.tmp 59) 40 rfl base 47 i0 (.agg #[.string ⟨#[]⟩, .int .u64 0]) 2 24 Tryz.underlying40 hi hz0 hz1 hz2 rfl (by decide) _ _ _ rfl HOa.out ⟨gb, 0, none⟩ 1 1 [.string ⟨#[]⟩, .int .u64 (v : Nat)] rfl rfl ?hnw ?hone ?h63 ?hby hbwa ?_
        case hnw =>
          intro j u hu
          match j, hu with
          | 0, hu => simp only [List.getElem?_cons_zero, Option.some.injEq] at hu; subst hu; exact row_of HN.out 0 _ rfl
          | 1, hu => simp only [List.getElem?_cons_zero, List.getElem?_cons_succ, Option.some.injEq] at hu; subst hu; exact row_of HN.out 1 _ rfl
          | j + 2, hu => simp at hu
        case hone => intro u hu; simp only [List.mem_cons, List.not_mem_nil, or_false] at hu; rcases hu with rfl | rfl <;> rfl
        case h63 => unfold maxLen; omega
        case hby => omega
        intro v' w4 hown' hgrow _ hblk
        have HNB : Hid (av.ownBlock ≠ some m ∧ av.ownBlock ≠ some a ∧ av.ownBlock ≠ some s) := ⟨fun e => by have := own_ge HOa.out e; omega, fun e => by have := HLT.out a e; omega, fun e => by have := own_ge HOa.out e; omega⟩
        have hma : m < wa.heap.size := by have := HBn.out.size; omega
        have haa : a < wa.heap.size := by have := HBn.out.size; omega
        have hm4 := (hgrow.block m hma (fun e => HNB.out.1 e.symm)).trans ((HKw.out m (by simp)).trans HM3.out)
        have ha4 := (hgrow.block a haa (fun e => HNB.out.2.1 e.symm)).trans ((HKw.out a (by simp)).trans HA3.out)
        obtain ⟨xa, xc, rfl, _⟩ := own_read hown'
        have HO4 := Lib.hid hown'
        have HG4 := Lib.hid hgrow
        have HM4 := Lib.hid hm4
        have HKf := Lib.hid (two_keepS (hm4.trans HM3.out.symm) (ha4.trans HA3.out.symm))
        clear hown' hgrow hblk ha4
        try (simp only [Act.put, List.setIfInBounds_toArray, List.set_cons_succ, List.set_cons_zero, List.getElem_toArray, List.getElem_cons_succ, List.getElem_cons_zero])
        go_wp2_with fail
        (first | refine ⟨fun _ => ⟨_, keepS_of HKf.out⟩, ?_⟩ | refine ⟨⟨_, keepS_of HKf.out⟩, ?_⟩)
        have c11 := row_of hm4 11 av rfl
        have f11 := frozen_of_row w4 m 11 _ _ hm4
        clear hm4
        refine mix_tail [9, 10, 11, 12] [_, _, _, _] _ _ rfl rfl ?_
        simp only [Act.put, List.setIfInBounds_toArray, List.set_cons_succ, List.set_cons_zero, List.getElem_toArray, List.getElem_cons_succ, List.getElem_cons_zero]
        go_wp2_with fail
        go_end0
        refine ⟨rfl, .slice xa (args.length + 1) xc, ?_, ?_, ?_, ?_⟩
        · show _ = _
          rw [heap_setCell_same _ _ _ _ _ _ HM4.out]
          rfl
        · show World.ownsRow _ _ _ _ _ _ _
          rw [hres, List.flatMap_append]
          have hsc := setCell_trn w4 ⟨m, 11, none⟩ (.slice xa (args.length + 1) xc)
          have := own_trn HO4.out hsc (fun k hk e => by have := own_ge HO4.out hk; have e' : k = m := e; omega)
          simpa [argCells, show ByteArray.empty = (⟨#[]⟩ : ByteArray) from rfl] using this
        · show _ = _
          rw [hres, heap_setCell_other _ _ _ _ (by simpa using hne.symm)]
          have hsa := HBn.out.block s HS3.out.lt
          exact (HG4.out.block s (by have := HBn.out.size; have := HS3.out.lt; omega) (fun e => HNB.out.2.2 e.symm)).trans (hsa.trans HS3.out)
        · exact ((((HTW3.out).trans (Trn.of_below HBn.out)).trans (Trn.of_grown HG4.out (fun b hb => .inr (.inr (own_ge HOa.out hb))))).step (setCell_trn _ ⟨m, 11, none⟩ _) fun i _ h => .inl h)

end Go.Proofs.YtfdinncgncbmfaaGreatDoor
