/- The walk of ScriptLevels. Conditions: the five bytes are bytes; the tables are as laid. -/
import Derived.Test.YtfdinncgncbmfaaDoorScS
import Derived.Test.YtfdinncgncbmfaaDoorScX
set_option linter.unusedVariables false
set_option linter.unusedSimpArgs false
set_option linter.unnecessarySimpa false
namespace Go.Proofs.YtfdinncgncbmfaaDoor
open Go.ChangeShapes Go.WideShapes Go.ChangeAt Go.RowKit
theorem u8_natL {n : Nat} (h : n < 256) : ((UInt8.ofNat n).toNat : Int) = (n : Int) := by
  simp; omega
theorem levels_law' {k a b m st : Nat} (hk : k < 256) (ha : a < 256) (hb : b < 256) (hm : m < 256) (hs : st < 256) : policyS [UInt8.ofNat k, UInt8.ofNat a, UInt8.ofNat b, UInt8.ofNat m, UInt8.ofNat st] twoP = ⟨(List.range (k % 4 + 1)).map (nmS 108), orderS (k % 4), [⟨⟨#[111, 110, 101]⟩, ((a % (k % 4 + 1) : Nat) : Int)⟩, ⟨⟨#[116, 119, 111]⟩, ((b % (k % 4 + 1) : Nat) : Int)⟩], [], (m % 2) == 1, 1 + ((st % 60 : Nat) : Int), 1, 0, 0⟩ := by
  have e : ∀ n, n < 256 → (UInt8.ofNat n).toNat = n := fun n h => by simp; omega
  rw [levels_law, e k hk, e a ha, e b hb, e m hm, e st hs]
theorem two_rd {w : World} {b0 : Nat} (h0 : w.heap[b0]? = some (.cells #[.string ⟨#[111, 110, 101]⟩, .string ⟨#[116, 119, 111]⟩] 9 (0, 0))) :
    RdProg none w twoP (.slice (some ⟨b0, 0, none⟩) 2 2) (.slice none 0 0) (.slice none 0 0) (.slice none 0 0) := by
  have hsz : ∀ a b c : UInt8, (⟨#[a, b, c]⟩ : ByteArray).size ≤ maxLen := fun a b c => by show 3 ≤ maxLen; unfold maxLen; omega
  refine ⟨⟨some ⟨b0, 0, none⟩, 2, rfl, ⟨by simp [twoP], by simp [twoP]⟩, fun i s hi => ?_⟩, ⟨none, 0, rfl, ⟨by simp [twoP], by simp [twoP]⟩, fun i s hi => by simp [twoP] at hi⟩, ⟨none, 0, rfl, ⟨by simp [twoP], by simp [twoP]⟩, fun i s hi => by simp [twoP] at hi⟩, ⟨none, 0, rfl, ⟨by simp [twoP], by simp [twoP]⟩, fun i s hi => by simp [twoP] at hi⟩, by unfold InI64 twoP; simp⟩
  match i, hi with
  | 0, hi => simp only [twoP, List.getElem?_cons_zero, Option.some.injEq] at hi; subst hi; exact ⟨b0, 0, rfl, Free.none _ _ _, row_of h0 0 _ rfl, hsz _ _ _⟩
  | 1, hi => simp only [twoP, List.getElem?_cons_zero, List.getElem?_cons_succ, Option.some.injEq] at hi; subst hi; exact ⟨b0, 0, rfl, Free.none _ _ _, row_of h0 1 _ rfl, hsz _ _ _⟩
  | i + 2, hi => simp [twoP] at hi
set_option maxRecDepth 100000 in
set_option maxHeartbeats 6400000 in
theorem levels_walk (k a b m st : Int) (w : World) (hk : InU8 k) (ha : InU8 a) (hb : InU8 b) (hm : InU8 m) (hs : InU8 st) (hL : Laid w) :
    Calls Tryd.prog 5 #[.int .u8 k, .int .u8 a, .int .u8 b, .int .u8 m, .int .u8 st] w fun e w' => e = .returned (.bool true) ∧ Below w.heap.size w w' := by
  unfold InU8 at hk ha hb hm hs
  obtain ⟨kn, rfl⟩ : ∃ n : Nat, k = n := ⟨k.toNat, by omega⟩
  obtain ⟨an, rfl⟩ : ∃ n : Nat, a = n := ⟨a.toNat, by omega⟩
  obtain ⟨bn, rfl⟩ : ∃ n : Nat, b = n := ⟨b.toNat, by omega⟩
  obtain ⟨mn, rfl⟩ : ∃ n : Nat, m = n := ⟨m.toNat, by omega⟩
  obtain ⟨sn, rfl⟩ : ∃ n : Nat, st = n := ⟨st.toNat, by omega⟩
  have hk : kn < 256 := by omega
  have ha : an < 256 := by omega
  have hb : bn < 256 := by omega
  have hm : mn < 256 := by omega
  have hs : sn < 256 := by omega
  have hlaw := levels_law' hk ha hb hm hs
  obtain ⟨j, hj⟩ : ∃ x, kn % 4 = x := ⟨_, rfl⟩
  rw [hj] at hlaw
  have hj4 : j < 4 := by omega
  have htk : Int.tmod (kn : Int) 4 = (j : Int) := by rw [← hj]; exact tmod_nat kn 4
  obtain ⟨x, hx⟩ : ∃ x, an % (j + 1) = x := ⟨_, rfl⟩
  obtain ⟨y, hy⟩ : ∃ x, bn % (j + 1) = x := ⟨_, rfl⟩
  have hjc : ((j + 1 : Nat) : Int) = (j : Int) + 1 := by omega
  have htx : Int.tmod (an : Int) ((j : Int) + 1) = (x : Int) := by rw [← hx, ← hjc]; exact tmod_nat an (j + 1)
  have hty : Int.tmod (bn : Int) ((j : Int) + 1) = (y : Int) := by rw [← hy, ← hjc]; exact tmod_nat bn (j + 1)
  have hx4 : x < 4 := by rw [← hx]; exact Nat.lt_of_lt_of_le (Nat.mod_lt _ (by omega)) (by omega)
  have hy4 : y < 4 := by rw [← hy]; exact Nat.lt_of_lt_of_le (Nat.mod_lt _ (by omega)) (by omega)
  obtain ⟨mp, hmp⟩ : ∃ x, mn % 2 = x := ⟨_, rfl⟩
  have htm : Int.tmod (mn : Int) 2 = (mp : Int) := by rw [← hmp]; exact tmod_nat mn 2
  have hmp2 : mp < 2 := by rw [← hmp]; omega
  obtain ⟨sb, hsb⟩ : ∃ x, (mp == 1) = x := ⟨_, rfl⟩
  have hms : ((mp : Int) == 1) = sb := by
    rw [← hsb, Bool.eq_iff_iff, beq_iff_eq, beq_iff_eq]
    omega
  obtain ⟨sp, hsp⟩ : ∃ x, sn % 60 = x := ⟨_, rfl⟩
  have hts : Int.tmod (sn : Int) 60 = (sp : Int) := by rw [← hsp]; exact tmod_nat sn 60
  have hsp60 : sp < 60 := by rw [← hsp]; omega
  rw [hx, hy, hmp, hsb, hsp] at hlaw
  obtain ⟨on, hon⟩ : ∃ x, (orderS j).length = x := ⟨_, rfl⟩
  have hpair : (#[.int .i64 0, .int .i64 1, .int .i64 2, .int .i64 4] : Array Value)[j]? = some (.int .i64 (on : Nat)) := by
    rw [← hon]
    have h : j = 0 ∨ j = 1 ∨ j = 2 ∨ j = 3 := by omega
    rcases h with rfl | rfl | rfl | rfl <;> rfl
  have HPA := Lib.hid hpair
  have hcv : ∀ W : World, (convert 52 9 (.slice (some ⟨W.heap.size, 0, none⟩) 5 5)).run Tryd.prog (W.alloc (.cells #[.int .u8 kn, .int .u8 an, .int .u8 bn, .int .u8 mn, .int .u8 sn] 5)) = .ok (.string ⟨#[UInt8.ofNat kn, UInt8.ofNat an, UInt8.ofNat bn, UInt8.ofNat mn, UInt8.ofNat sn]⟩) (W.alloc (.cells #[.int .u8 kn, .int .u8 an, .int .u8 bn, .int .u8 mn, .int .u8 sn] 5)) := by
    intro W
    have hn := heap_alloc_new W (.cells #[.int .u8 kn, .int .u8 an, .int .u8 bn, .int .u8 mn, .int .u8 sn] 5)
    refine run_convert_bytes_back (P := Tryd.prog) _ 52 9 5 ⟨W.heap.size, 0, none⟩ 5 [UInt8.ofNat kn, UInt8.ofNat an, UInt8.ofNat bn, UInt8.ofNat mn, UInt8.ofNat sn] Tryd.underlying52 Tryd.underlying5 Tryd.underlying9 (fun i hi => ?_)
    have hi5 : i < 5 := hi
    have h5 : i = 0 ∨ i = 1 ∨ i = 2 ∨ i = 3 ∨ i = 4 := by omega
    rcases h5 with rfl | rfl | rfl | rfl | rfl
    · simp only [List.getElem_cons_zero, u8_natL hk]; exact row_of hn 0 _ rfl
    · simp only [List.getElem_cons_succ, List.getElem_cons_zero, u8_natL ha]; exact row_of hn 1 _ rfl
    · simp only [List.getElem_cons_succ, List.getElem_cons_zero, u8_natL hb]; exact row_of hn 2 _ rfl
    · simp only [List.getElem_cons_succ, List.getElem_cons_zero, u8_natL hm]; exact row_of hn 3 _ rfl
    · simp only [List.getElem_cons_succ, List.getElem_cons_zero, u8_natL hs]; exact row_of hn 4 _ rfl
  have HCV := Lib.hid hcv
  have HPO : Hid (∀ (b0 : Nat) (W : World), W.heap[b0]? = some (.cells #[.string ⟨#[111, 110, 101]⟩, .string ⟨#[116, 119, 111]⟩] 9 (0, 0)) → Laid W → Calls Tryd.prog 9 #[.string ⟨#[UInt8.ofNat kn, UInt8.ofNat an, UInt8.ofNat bn, UInt8.ofNat mn, UInt8.ofNat sn]⟩, .agg #[.int .i64 1, .slice (some ⟨b0, 0, none⟩) 2 2, .slice none 0 0, .slice none 0 0, .slice none 0 0]] W fun e z => ∃ a1 c1 a2 c2 g o c3 a4 c4, e = .returned (.agg #[.slice a1 (j + 1) c1, .slice a2 on c2, .slice (some ⟨g, o, none⟩) 2 c3, .slice a4 0 c4, .bool sb, .int .i64 (1 + (sp : Int)), .int .i64 1, .int .i64 0, .int .i64 0]) ∧ z.cell? ⟨g, o, none⟩ = some (.string ⟨#[111, 110, 101]⟩) ∧ z.cell? ⟨g, o + 1, none⟩ = some (.int .i64 (x : Nat)) ∧ z.cell? ⟨g, o + 2, none⟩ = some (.string ⟨#[116, 119, 111]⟩) ∧ z.cell? ⟨g, o + 3, none⟩ = some (.int .i64 (y : Nat)) ∧ Below W.heap.size W z) := by
    intro b0 W h0 hLW
    refine (policy_any [UInt8.ofNat kn, UInt8.ofNat an, UInt8.ofNat bn, UInt8.ofNat mn, UInt8.ofNat sn] twoP _ _ _ _ W (two_rd h0) hLW).mono ?_
    rintro e z ⟨lv, ov, cu, su, rfl, hr, hbz⟩
    rw [hlaw] at hr ⊢
    obtain ⟨h1, h2, h3, h4⟩ := hr
    obtain ⟨a1, c1, rfl, -, -⟩ := h1
    obtain ⟨a2, c2, rfl, -, -⟩ := h2
    obtain ⟨a3, c3, rfl, -, hc⟩ := h3
    obtain ⟨a4, c4, rfl, -, -⟩ := h4
    obtain ⟨g, o, rfl, hx0⟩ := hc 0 _ rfl
    obtain ⟨g', o', he, hx1⟩ := hc 1 _ rfl
    simp only [Option.some.injEq, Addr.mk.injEq, and_true] at he
    obtain ⟨rfl, rfl⟩ := he
    have q0 := hx0 0 _ rfl
    have q1 := hx0 1 _ rfl
    have q2 := hx1 0 _ rfl
    have q3 := hx1 1 _ rfl
    refine ⟨a1, c1, a2, c2, g, o, c3, a4, c4, ?_, by simpa using q0, by simpa using q1, by simpa using q2, by simpa [Nat.add_assoc] using q3, hbz⟩
    simp [hon]
  have HLD := Lib.hid hL
  have k1 := (Below.refl w.heap.size w).alloc (Nat.le_refl _) (.cells #[.string ⟨#[111, 110, 101]⟩, .string ⟨#[116, 119, 111]⟩] 9)
  have k2 := k1.alloc (by simp) (.cells #[.int .i64 1, .slice (some ⟨w.heap.size, 0, none⟩) 2 2, .slice none 0 0, .slice none 0 0, .slice none 0 0] 28)
  have g2 := heap2_of (w := w) (A := .cells #[.string ⟨#[111, 110, 101]⟩, .string ⟨#[116, 119, 111]⟩] 9 (0, 0)) (B := .cells #[.int .i64 1, .slice (some ⟨w.heap.size, 0, none⟩) 2 2, .slice none 0 0, .slice none 0 0, .slice none 0 0] 28 (0, 0)) (Below.refl _ _)
  have HB2 := Lib.hid k2
  have HS2 := Lib.hid g2.1
  have HP2 := Lib.hid g2.2.1
  clear hj hx hy hmp hsp hsb hon hlaw hjc hpair hcv hL k1 k2 g2
  go_enter Tryd.func5, Tryd.ntmps5
  go_upto_region 2 with fail
  generalize (w.alloc (.cells #[.string ⟨#[111, 110, 101]⟩, .string ⟨#[116, 119, 111]⟩] 9)).alloc (.cells #[.int .i64 1, .slice (some ⟨w.heap.size, 0, none⟩) 2 2, .slice none 0 0, .slice none 0 0, .slice none 0 0] 28) = W at *
  obtain ⟨r, hr⟩ : ∃ r, w.heap.size = r := ⟨_, rfl⟩
  rw [hr] at HP2 HS2
  try rw [hr]
  have HRR := Lib.hid hr
  clear hr
  have hcv := HCV.out W
  have hal := (Below.refl W.heap.size W).alloc (Nat.le_refl _) (.cells #[.int .u8 kn, .int .u8 an, .int .u8 bn, .int .u8 mn, .int .u8 sn] 5)
  have HC1 := Lib.hid (HPO.out r (W.alloc (.cells #[.int .u8 kn, .int .u8 an, .int .u8 bn, .int .u8 mn, .int .u8 sn] 5)) ((hal.block r (Array.getElem?_eq_some_iff.1 HS2.out).1).trans HS2.out) ((HLD.out.keep HB2.out).keep hal))
  have HP3 := Lib.hid ((hal.block (r + 1) (Array.getElem?_eq_some_iff.1 HP2.out).1).trans HP2.out)
  have HB3 := Lib.hid (HB2.out.trans (hal.mono HB2.out.size))
  have HC2 := Lib.hid (bcomp HB2.out hal)
  clear hal
  have p0 := row_of HP3.out 0 _ rfl
  have p1 := row_of HP3.out 1 _ rfl
  have p2 := row_of HP3.out 2 _ rfl
  have p3 := row_of HP3.out 3 _ rfl
  have p4 := row_of HP3.out 4 _ rfl
  go_upto_region 3 with (go_at_call 9; refine HC1.out.mono ?_; rintro e z ⟨a1, c1, a2, c2, g, o, c3, a4, c4, rfl, q0, q1, q2, q3, hz⟩; have HBZ := Lib.hid hz; have HQ0 := Lib.hid q0; have HQ1 := Lib.hid q1; have HQ2 := Lib.hid q2; have HQ3 := Lib.hid q3; clear hz q0 q1 q2 q3)
  clear p0 p1 p2 p3 p4 hcv HC1
  have HB4 := Lib.hid (bcomp HC2.out HBZ.out)
  have k3 := (Below.refl z.heap.size z).alloc (Nat.le_refl _) (.cells #[.slice a1 (j + 1) c1, .slice a2 on c2, .slice (some ⟨g, o, none⟩) 2 c3, .slice a4 0 c4, .bool sb, .int .i64 (1 + (sp : Int)), .int .i64 1, .int .i64 0, .int .i64 0] 48)
  have hn3 := heap_alloc_new z (.cells #[.slice a1 (j + 1) c1, .slice a2 on c2, .slice (some ⟨g, o, none⟩) 2 c3, .slice a4 0 c4, .bool sb, .int .i64 (1 + (sp : Int)), .int .i64 1, .int .i64 0, .int .i64 0] 48)
  have HZ0 := Lib.hid (cell_keep k3 HQ0.out)
  have HZ1 := Lib.hid (cell_keep k3 HQ1.out)
  have HZ2 := Lib.hid (cell_keep k3 HQ2.out)
  have HZ3 := Lib.hid (cell_keep k3 HQ3.out)
  have HB5 := Lib.hid (bcomp HB4.out k3)
  obtain ⟨qb, hqb⟩ : ∃ x, z.heap.size = x := ⟨_, rfl⟩
  rw [hqb] at hn3
  try rw [hqb]
  have HN3 := Lib.hid hn3
  clear k3 hn3 hqb HBZ HQ0 HQ1 HQ2 HQ3
  generalize z.alloc (.cells #[.slice a1 (j + 1) c1, .slice a2 on c2, .slice (some ⟨g, o, none⟩) 2 c3, .slice a4 0 c4, .bool sb, .int .i64 (1 + (sp : Int)), .int .i64 1, .int .i64 0, .int .i64 0] 48) = z1 at *
  go_upto_region 5 with fail
  have k4 := (Below.refl z1.heap.size z1).alloc (Nat.le_refl _) (.cells #[.int .i64 0, .int .i64 1, .int .i64 2, .int .i64 4] 54)
  have hn4 := heap_alloc_new z1 (.cells #[.int .i64 0, .int .i64 1, .int .i64 2, .int .i64 4] 54)
  have HY0 := Lib.hid (cell_keep k4 HZ0.out)
  have HY1 := Lib.hid (cell_keep k4 HZ1.out)
  have HY2 := Lib.hid (cell_keep k4 HZ2.out)
  have HY3 := Lib.hid (cell_keep k4 HZ3.out)
  have HN4 := Lib.hid ((k4.block qb (Array.getElem?_eq_some_iff.1 HN3.out).1).trans HN3.out)
  have HB6 := Lib.hid (bcomp HB5.out k4)
  obtain ⟨pb, hpb⟩ : ∃ x, z1.heap.size = x := ⟨_, rfl⟩
  rw [hpb] at hn4
  try rw [hpb]
  have e0 := ext_cell (row_of HN4.out 0 _ rfl)
  have e1 := ext_cell (row_of HN4.out 1 _ rfl)
  have e2 := ext_cell (row_of HN4.out 2 _ rfl)
  have e3 := ext_cell (row_of HN4.out 3 _ rfl)
  have ep := ext_cell (row_of hn4 j _ HPA.out)
  clear k4 hn4 hpb HZ0 HZ1 HZ2 HZ3
  generalize z1.alloc (.cells #[.int .i64 0, .int .i64 1, .int .i64 2, .int .i64 4] 54) = z2 at *
  (refine wp_region_calm (by kernel_rfl) (by kernel_rfl) ?_; (repeat (go_big_quiet_step (fail))); refine wpQuiet_nil ?_; intro wc hwc)
  clear e0 e1 e2 e3 ep
  have HBC := Lib.hid (bcomp HB6.out hwc)
  have HNC := Lib.hid ((hwc.block qb (Array.getElem?_eq_some_iff.1 HN4.out).1).trans HN4.out)
  have HX0 := Lib.hid (cell_keep hwc HY0.out)
  have HX1 := Lib.hid (cell_keep hwc HY1.out)
  have HX2 := Lib.hid (cell_keep hwc HY2.out)
  have HX3 := Lib.hid (cell_keep hwc HY3.out)
  clear hwc
  obtain ⟨wq, rfl⟩ : ∃ x : World, x = wc := ⟨_, rfl⟩
  go_upto_region 7 with fail
  have KN := Lib.hid (known_any wq.drew)
  have gg : g < wq.heap.size := block_lt_of_cell HX0.out
  have gq : qb < wq.heap.size := (Array.getElem?_eq_some_iff.1 HNC.out).1
  have q2 := keepS_cell (S := [qb, g]) (by simp) (row_of HNC.out 2 _ rfl)
  have q4 := keepS_cell (S := [qb, g]) (by simp) (row_of HNC.out 4 _ rfl)
  have q5 := keepS_cell (S := [qb, g]) (by simp) (row_of HNC.out 5 _ rfl)
  have q6 := keepS_cell (S := [qb, g]) (by simp) (row_of HNC.out 6 _ rfl)
  have s0 := keepS_cell (S := [qb, g]) (by simp) HX0.out
  have s1 := keepS_cell (S := [qb, g]) (by simp) HX1.out
  have s2 := keepS_cell (S := [qb, g]) (by simp) HX2.out
  have s3 := keepS_cell (S := [qb, g]) (by simp) HX3.out
  refine wp_region_mixS [qb, g] (.one [0, 1, 2, 3, 4, 5, 6, 7, 8, 9, 10, 11, 12, 13, 14, 15, 16, 17, 18, 19, 20, 21, 22, 23, 24, 25, 26, 27, 28, 29, 30, 31, 32, 33, 34, 35, 36, 37, 38, 39, 40, 41, 42, 43, 44, 45, 46] 47 (.fin [48, 49])) (fun j => decide (99 ≤ j)) (by kernel_rfl) (by kernel_rfl) rfl (by kernel_rfl) (fun _ d _ _ _ h => by cases d <;> exact h) ?_
  have HBd : Hid (Below wq.heap.size wq wq.drew) := (Below.refl _ _).drew
  generalize wq.drew = y0 at *
  have KEEP : Hid (∀ z : World, Below wq.heap.size wq z → ∀ b ∈ [qb, g], z.heap[b]? = wq.heap[b]?) := fun z hz b hb => by
    simp only [List.mem_cons, List.not_mem_nil, or_false] at hb
    rcases hb with rfl | rfl
    · exact hz.block _ gq
    · exact hz.block _ gg
  have HKn := Lib.hid (KEEP.out y0 HBd.out)
  refine mix_one (by simp only [opsOf, List.filterMap_cons, List.filterMap_nil, List.getElem?_toArray, List.getElem?_cons_succ, List.getElem?_cons_zero]; rfl) ⟨_, keepS_of HKn.out⟩ ?_
  change wpQuiet _ _ _ _ (_ :: _ :: _ :: _ :: _ :: _ :: _ :: _ :: _ :: _ :: _ :: _ :: _ :: _ :: _ :: _ :: _ :: _ :: _ :: _ :: _ :: _ :: _ :: _ :: _ :: _ :: _ :: _ :: _ :: _ :: _ :: _ :: _ :: _ :: _ :: _ :: _ :: _ :: _ :: _ :: _ :: _ :: _ :: _ :: _ :: _ :: _ :: []) _
  (repeat (go_big_quiet_step (fail)))
  refine wpQuiet_nil ?_
  clear q2 q4 q5 q6 s0 s1 s2 s3
  refine mix_step rfl ?_
  go_wp2_with (go_at_call 10; refine KN.out.mono ?_; rintro e y1 ⟨rfl, hb1⟩)
  have HB7 := Lib.hid (bcomp HBd.out hb1)
  have HK1 := Lib.hid (KEEP.out y1 HB7.out)
  (first | refine ⟨fun _ => ⟨_, keepS_of HK1.out⟩, ?_⟩ | refine ⟨⟨_, keepS_of HK1.out⟩, ?_⟩)
  refine mix_fin (by simp only [opsOf, List.filterMap_cons, List.filterMap_nil, List.getElem?_toArray, List.getElem?_cons_succ, List.getElem?_cons_zero]; rfl) ⟨_, keepS_of HK1.out⟩ ?_
  change wpQuiet _ _ _ _ [_, _] _
  (repeat (go_big_quiet_step (fail)))
  refine wpQuiet_nil ?_
  go_wp2_with fail
  go_ret
  exact ⟨rfl, bcomp HBC.out HB7.out⟩
end Go.Proofs.YtfdinncgncbmfaaDoor
