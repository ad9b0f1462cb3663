/- The walk of ScriptOps. Conditions: the three bytes are bytes. -/
import Derived.Test.YtbfkhnmpfffkmaaDoorScD
set_option linter.unusedVariables false
set_option linter.unusedSimpArgs false
set_option linter.unnecessarySimpa false
namespace Go.Proofs.YtbfkhnmpfffkmaaDoor
open Go.Maps (Keyed int_keyed)
open Go.WideShapes Go.ChangeMaps Go.MapKept Go.WideMaps Go.ChangeAt Go.RowKit Go.ChangeShapes
theorem ba_of {s : ByteArray} {l : List UInt8} (h : s.data.toList = l) : s = ⟨l.toArray⟩ := by
  apply ByteArray.ext
  rw [← h]
theorem ops_shape (o a b : Nat) (ho : o < 19) (ha : a < 4) (hb : b < 8) : ∃ x r y z, (progS (opsB o a b)).main = x :: r ∧ x.kind = 1 ∧ x.op = 2 + (o : Int) ∧ x.dst = ⟨#[120, 48]⟩ ∧ x.args = y :: z ∧ y.name = ⟨#[120, UInt8.ofNat (48 + a)]⟩ ∧ (o < 2 → z = []) ∧ (¬ o < 2 → r = [] ∧ ∃ u, z = [u] ∧ u.name = ⟨#[]⟩ ∧ u.num = b) := by
  have h := ops_law o a b ho ha hb
  unfold opsOk at h
  cases hm : (progS (opsB o a b)).main with
  | nil => rw [hm] at h; simp at h
  | cons x r =>
    rw [hm] at h
    simp only [Bool.and_eq_true, beq_iff_eq] at h
    obtain ⟨⟨⟨h1, h2⟩, h3⟩, h4⟩ := h
    cases ha : x.args with
    | nil => rw [ha] at h4; simp at h4
    | cons y z =>
      rw [ha] at h4
      simp only [Bool.and_eq_true, beq_iff_eq] at h4
      obtain ⟨h5, h6⟩ := h4
      refine ⟨x, r, y, z, rfl, h1, h2, ba_of h3, ha, ba_of h5, fun hl => ?_, fun hl => ?_⟩
      · rw [if_pos hl] at h6
        simpa using h6
      · rw [if_neg hl] at h6
        simp only [Bool.and_eq_true] at h6
        obtain ⟨h7, h8⟩ := h6
        refine ⟨by simpa using h7, ?_⟩
        match z, h8 with
        | [u], h8 =>
          simp only [Bool.and_eq_true, beq_iff_eq] at h8
          exact ⟨u, rfl, ba_of (l := []) (by simpa using h8.1), h8.2⟩
theorem six_eq (o a b : Nat) : (⟨#[0, 0, 0, 0, 1, 0]⟩ : ByteArray) ++ ⟨#[UInt8.ofNat o, UInt8.ofNat a, 4, UInt8.ofNat b]⟩ = ⟨(opsB o a b).toArray⟩ := by
  apply ByteArray.ext
  simp [opsB]
theorem RdArgs.at' {lo : Option (Nat → Prop)} {w : World} {v : Value} {l : List ArgD} (h : RdArgs lo w v l) {i : Nat} {s : ArgD} (hi : l[i]? = some s) : ∃ b o c, v = .slice (some ⟨b, o, none⟩) l.length c ∧ w.cell? ⟨b, o + i * 2, none⟩ = some (.string s.name) ∧ w.cell? ⟨b, o + i * 2 + 1, none⟩ = some (.int .u64 s.num) := by
  obtain ⟨a, c, rfl, -, hr⟩ := h
  obtain ⟨b, o, rfl, -, h0, h1, h2⟩ := hr i s hi
  exact ⟨b, o, c, rfl, h0, h1⟩
theorem pair_eq (c : UInt8) : (⟨#[120, c]⟩ : ByteArray) = ⟨#[120]⟩ ++ ⟨#[c]⟩ := by
  apply ByteArray.ext
  simp
theorem u8_nat {n : Nat} (h : n < 256) : ((UInt8.ofNat n).toNat : Int) = (n : Int) := by
  simp; omega
set_option maxRecDepth 100000 in
set_option maxHeartbeats 6400000 in
theorem ops_walk (o a b : Int) (w : World) (ho : InU8 o) (ha : InU8 a) (hb : InU8 b) :
    Calls Tryd.prog 6 #[.int .u8 o, .int .u8 a, .int .u8 b] w fun e w' => e = .returned (.bool true) ∧ Below w.heap.size w w' := by
  have KN : ∀ z, Hid (Calls Tryd.prog 7 #[] z fun e w' => e = .returned (.bool true) ∧ Below z.heap.size z w') := fun z => known_any z
  unfold InU8 at ho ha hb
  obtain ⟨oj, hoj⟩ : ∃ x : Nat, x = o.toNat % 19 := ⟨_, rfl⟩
  obtain ⟨aj, haj⟩ : ∃ x : Nat, x = a.toNat % 4 := ⟨_, rfl⟩
  obtain ⟨bj, hbj⟩ : ∃ x : Nat, x = b.toNat % 8 := ⟨_, rfl⟩
  have hto : Int.tmod o 19 = (oj : Int) := by rw [show o = ((o.toNat : Nat) : Int) by omega, hoj]; exact tmod_nat o.toNat 19
  have hta : Int.tmod a 4 = (aj : Int) := by rw [show a = ((a.toNat : Nat) : Int) by omega, haj]; exact tmod_nat a.toNat 4
  have htb : Int.tmod b 8 = (bj : Int) := by rw [show b = ((b.toNat : Nat) : Int) by omega, hbj]; exact tmod_nat b.toNat 8
  have hol : oj < 19 := by omega
  have hal : aj < 4 := by omega
  have hbl : bj < 8 := by omega
  obtain ⟨x, r, y, zz, hm, hk, hop, hd, hargs, hyn, hz0, hz1⟩ := ops_shape oj aj bj hol hal hbl
  have HM := Lib.hid hm
  have HK := Lib.hid hk
  have HOP := Lib.hid hop
  have HD := Lib.hid hd
  have HAR := Lib.hid hargs
  have HYN := Lib.hid hyn
  have HZ0 := Lib.hid hz0
  have HZ1 := Lib.hid hz1
  clear hm hk hop hd hargs hyn hz0 hz1 hoj haj hbj ho ha hb
  have hcv : (convert 41 9 (.slice (some ⟨w.heap.size, 0, none⟩) 4 4)).run Tryd.prog (w.alloc (.cells #[.int .u8 oj, .int .u8 aj, .int .u8 4, .int .u8 bj] 5)) = .ok (.string ⟨#[UInt8.ofNat oj, UInt8.ofNat aj, 4, UInt8.ofNat bj]⟩) (w.alloc (.cells #[.int .u8 oj, .int .u8 aj, .int .u8 4, .int .u8 bj] 5)) := by
    have hn := heap_alloc_new w (.cells #[.int .u8 oj, .int .u8 aj, .int .u8 4, .int .u8 bj] 5)
    refine run_convert_bytes_back (P := Tryd.prog) _ 41 9 5 ⟨w.heap.size, 0, none⟩ 4 [UInt8.ofNat oj, UInt8.ofNat aj, 4, UInt8.ofNat bj] Tryd.underlying41 Tryd.underlying5 Tryd.underlying9 (fun j hj => ?_)
    have hj4 : j < 4 := hj
    have h4 : j = 0 ∨ j = 1 ∨ j = 2 ∨ j = 3 := by omega
    rcases h4 with rfl | rfl | rfl | rfl
    · simp only [List.getElem_cons_zero, u8_nat (show oj < 256 by omega)]; exact row_of hn 0 _ rfl
    · simp only [List.getElem_cons_succ, List.getElem_cons_zero, u8_nat (show aj < 256 by omega)]; exact row_of hn 1 _ rfl
    · exact row_of hn 2 _ rfl
    · simp only [List.getElem_cons_succ, List.getElem_cons_zero, u8_nat (show bj < 256 by omega)]; exact row_of hn 3 _ rfl
  have HBW := Lib.hid ((Below.refl w.heap.size w).alloc (Nat.le_refl _) (.cells #[.int .u8 oj, .int .u8 aj, .int .u8 4, .int .u8 bj] 5))
  have HPR : ∀ z, Hid (Calls Tryd.prog 9 #[.string ((⟨#[0, 0, 0, 0, 1, 0]⟩ : ByteArray) ++ ⟨#[UInt8.ofNat oj, UInt8.ofNat aj, 4, UInt8.ofNat bj]⟩)] z fun e w' => ∃ cv av fv mv, e = .returned (.agg #[.int .i64 (progS (opsB oj aj bj)).width, cv, av, fv, mv]) ∧ RdProg (some (upFrom z.heap.size)) w' (progS (opsB oj aj bj)) cv av fv mv ∧ Below z.heap.size z w') := fun z => by rw [six_eq]; exact prog_any _ z
  have hfm := fun (v0 v1 v2 v3 v4 : Value) (z : World) => fieldMain v0 v1 v2 v3 v4 z
  go_enter Tryd.func6, Tryd.ntmps6
  go_upto_region 2 with (go_at_call 9; refine (HPR _).out.mono ?_; rintro e z ⟨cv, av, fv, mv, rfl, hr, hbz⟩; have HRM := Lib.hid hr.forget.2.2.2.1; have HBZ := Lib.hid hbz; clear hr hbz)
  clear hcv HPR hfm
  have HBA := Lib.hid (bcomp HBW.out HBZ.out)
  have hbm := HRM.out
  rw [HM.out] at hbm
  obtain ⟨g, og, c, av, hbv, p0, p1, p2, -, p4, -, -, hri⟩ := hbm.at' (i := 0) rfl
  have hra := hri.1
  rw [HAR.out] at hra
  obtain ⟨ga, oa, ca, hav, r0, -⟩ := hra.at' (i := 0) rfl
  have HRA := Lib.hid hra
  rw [HK.out] at p0
  rw [HOP.out] at p1
  rw [HD.out] at p2
  rw [HYN.out, pair_eq] at r0
  obtain ⟨n, hn⟩ : ∃ n, (x :: r).length = n := ⟨_, rfl⟩
  obtain ⟨na, hna⟩ : ∃ n, (y :: zz).length = n := ⟨_, rfl⟩
  rw [hn] at hbv
  rw [hna] at hav
  have hn1 : 1 ≤ n := by rw [← hn]; simp
  have hna1 : 1 ≤ na := by rw [← hna]; simp
  have HN := Lib.hid hn
  have HNA := Lib.hid hna
  subst hbv hav
  simp only [Nat.zero_mul, Nat.add_zero] at p0 p1 p2 p4 r0
  have gg : g < z.heap.size := block_lt_of_cell p0
  have gga : ga < z.heap.size := block_lt_of_cell r0
  have HP4 := Lib.hid p4
  have q0 := keepS_cell (S := [g, ga]) (by simp) p0
  have q1 := keepS_cell (S := [g, ga]) (by simp) p1
  have q2 := keepS_cell (S := [g, ga]) (by simp) p2
  have q4 := keepS_cell (S := [g, ga]) (by simp) p4
  have s0 := keepS_cell (S := [g, ga]) (by simp) r0
  have hsd : ((⟨#[120, 48]⟩ : ByteArray).toList == [120, 48]) = true := by decide +kernel
  have hw1 : IntKind.u8.wrap (2 + (oj : Int)) = 2 + (oj : Int) := by rw [IntKind.wrap_u8]; exact Int.emod_eq_of_lt (by omega) (by omega)
  have hw2 : IntKind.u8.wrap (48 + (aj : Int)) = 48 + (aj : Int) := by rw [IntKind.wrap_u8]; exact Int.emod_eq_of_lt (by omega) (by omega)
  clear hbm hri hra hn hna p0 p1 p2 p4 r0
  have hlt1 : ¬ (n : Int) < 1 := by omega
  have hlt2 : ¬ (na : Int) < 1 := by omega
  refine wp_region_mixS [g, ga] (.one [0, 1, 2, 3, 4, 5, 6, 7, 8, 9, 10, 11, 12, 13, 14, 15, 16, 17, 18, 19, 20, 21, 22, 23, 24, 25, 26, 27, 28, 29, 30, 31, 32, 33, 34, 35, 36, 37, 38, 39, 40, 41, 42, 43, 44, 45] 46 (.one [] 47 (.fin [48, 49, 50]))) (fun j => decide (99 ≤ j)) (by kernel_rfl) (by kernel_rfl) rfl (by kernel_rfl) (fun _ d _ _ _ h => by cases d <;> exact h) ?_
  have HBd : Hid (Below z.heap.size z z.drew) := (Below.refl _ _).drew
  generalize z.drew = y0 at *
  have HKn := Lib.hid (two_keepS (HBd.out.block g gg) (HBd.out.block ga gga))
  refine mix_one (by simp only [opsOf, List.filterMap_cons, List.filterMap_nil, List.getElem?_toArray, List.getElem?_cons_succ, List.getElem?_cons_zero]; rfl) ⟨_, keepS_of HKn.out⟩ ?_
  change wpQuiet _ _ _ _ (_ :: _ :: _ :: _ :: _ :: _ :: _ :: _ :: _ :: _ :: _ :: _ :: _ :: _ :: _ :: _ :: _ :: _ :: _ :: _ :: _ :: _ :: _ :: _ :: _ :: _ :: _ :: _ :: _ :: _ :: _ :: _ :: _ :: _ :: _ :: _ :: _ :: _ :: _ :: _ :: _ :: _ :: _ :: _ :: _ :: _ :: []) _
  (repeat (go_big_quiet_step (fail)))
  refine wpQuiet_nil ?_
  refine mix_step rfl ?_
  go_wp2_with fail
  have HB1 := Lib.hid (bcomp HBd.out ((Below.refl y0.heap.size y0).alloc (Nat.le_refl _) (.cells #[.int .u8 (48 + (aj : Int))] 5)))
  have hn1 := heap_alloc_new y0 (.cells #[.int .u8 (48 + (aj : Int))] 5)
  obtain ⟨g1, hg1⟩ : ∃ x, y0.heap.size = x := ⟨_, rfl⟩
  rw [hg1] at hn1
  try rw [hg1]
  generalize y0.alloc (.cells #[.int .u8 (48 + (aj : Int))] 5) = y1 at *
  have hcv : (convert 41 9 (.slice (some ⟨g1, 0, none⟩) 1 1)).run Tryd.prog y1 = .ok (.string ⟨#[UInt8.ofNat (48 + aj)]⟩) y1 := by
    refine run_convert_bytes_back (P := Tryd.prog) _ 41 9 5 ⟨g1, 0, none⟩ 1 [UInt8.ofNat (48 + aj)] Tryd.underlying41 Tryd.underlying5 Tryd.underlying9 (fun j hj => ?_)
    obtain rfl : j = 0 := by simpa using hj
    simp only [List.getElem_cons_zero, u8_nat (show 48 + aj < 256 by omega)]
    exact row_of hn1 0 _ rfl
  clear hn1 hg1
  have HK1 := Lib.hid (two_keepS (HB1.out.block g gg) (HB1.out.block ga gga))
  (first | refine ⟨fun _ => ⟨_, keepS_of HK1.out⟩, ?_⟩ | refine ⟨⟨_, keepS_of HK1.out⟩, ?_⟩)
  refine mix_now ?_
  refine mix_step rfl ?_
  go_wp2_with fail
  (first | refine ⟨fun _ => ⟨_, keepS_of HK1.out⟩, ?_⟩ | refine ⟨⟨_, keepS_of HK1.out⟩, ?_⟩)
  clear hcv
  refine mix_fin (by simp only [opsOf, List.filterMap_cons, List.filterMap_nil, List.getElem?_toArray, List.getElem?_cons_succ, List.getElem?_cons_zero]; rfl) ⟨_, keepS_of HK1.out⟩ ?_
  change wpQuiet _ _ _ _ [_, _, _] _
  (repeat (go_big_quiet_step (fail)))
  refine wpQuiet_nil ?_
  clear q0 q1 q2 q4 s0 hsd hw1 hw2 hlt1 hlt2
  have hp4 := cell_keep HB1.out HP4.out
  have HB2 := Lib.hid (bcomp HBA.out HB1.out)
  by_cases h2 : oj < 2
  · have h2' : (oj : Int) < 2 := by omega
    obtain rfl : na = 1 := by have h := HNA.out; rw [HZ0.out h2] at h; simpa using h.symm
    go_wp2_with (go_at_call 7; refine (KN _).out.mono ?_; rintro e y2 ⟨rfl, hb2⟩)
    go_ret
    exact ⟨rfl, bcomp HB2.out hb2⟩
  · have h2' : ¬ (oj : Int) < 2 := by omega
    obtain ⟨hr0, u, hzz, hun, hum⟩ := HZ1.out h2
    obtain rfl : n = 1 := by have h := HN.out; rw [hr0] at h; simpa using h.symm
    obtain rfl : na = 2 := by have h := HNA.out; rw [hzz] at h; simpa using h.symm
    obtain ⟨g2, o2, c2, hv2, u0, u1⟩ := HRA.out.at' (i := 1) (s := u) (by rw [hzz]; rfl)
    simp only [Value.slice.injEq, Option.some.injEq, Addr.mk.injEq, and_true] at hv2
    obtain ⟨⟨rfl, rfl⟩, -, -⟩ := hv2
    rw [hun] at u0
    rw [hum] at u1
    have v0 := cell_keep HB1.out u0
    have v1 := cell_keep HB1.out u1
    have hw3 : IntKind.u64.wrap (bj : Int) = (bj : Int) := by rw [IntKind.wrap_u64]; exact Int.emod_eq_of_lt (by omega) (by omega)
    clear hr0 hzz hun hum u0 u1
    go_wp2_with (go_at_call 7; refine (KN _).out.mono ?_; rintro e y2 ⟨rfl, hb2⟩)
    go_ret
    exact ⟨rfl, bcomp HB2.out hb2⟩
end Go.Proofs.YtbfkhnmpfffkmaaDoor
