/- The walk of ScriptNames. Condition: the tables are as laid. -/
import Derived.Test.YtfdinncgncbmfaaDoorScS
import Derived.Test.YtfdinncgncbmfaaDoorScX
set_option linter.unusedVariables false
set_option linter.unusedSimpArgs false
set_option linter.unnecessarySimpa false
namespace Go.Proofs.YtfdinncgncbmfaaDoor
open Go.ChangeShapes Go.WideShapes Go.ChangeAt Go.RowKit
/-- What a row of new blocks holds. -/
theorem allocs_at : ∀ (l : List Obj) (w : World), Below w.heap.size w (l.foldl (fun z o => z.alloc o) w) ∧ ∀ i o, l[i]? = some o → (l.foldl (fun z o => z.alloc o) w).heap[w.heap.size + i]? = some o
  | [], w => ⟨Below.refl _ _, fun i o h => by simp at h⟩
  | a :: r, w => by
    obtain ⟨h1, h2⟩ := allocs_at r (w.alloc a)
    have h3 := (Below.refl w.heap.size w).alloc (Nat.le_refl _) a
    have hs : (w.alloc a).heap.size = w.heap.size + 1 := by simp
    refine ⟨bcomp h3 h1, fun i o h => ?_⟩
    cases i with
    | zero =>
      simp only [List.getElem?_cons_zero, Option.some.injEq] at h
      subst h
      rw [List.foldl_cons, Nat.add_zero]
      exact (h1.block w.heap.size (by omega)).trans (heap_alloc_new w a)
    | succ i =>
      have := h2 i o (by simpa using h)
      rw [hs] at this
      rw [List.foldl_cons, show w.heap.size + (i + 1) = w.heap.size + 1 + i by omega]
      exact this
theorem sz_le {s : ByteArray} (h : s.size ≤ 1000) : s.size ≤ maxLen := by unfold maxLen; omega
theorem rdStrs1 {w : World} {b : Nat} {s : ByteArray} (h : w.heap[b]? = some (.cells #[.string s] 9 (0, 0))) (hs : s.size ≤ 1000) : RdStrs none w (.slice (some ⟨b, 0, none⟩) 1 1) [s] :=
  ⟨some ⟨b, 0, none⟩, 1, rfl, ⟨by simp, by simp⟩, fun i x hi => by
    match i, hi with
    | 0, hi => simp only [List.getElem?_cons_zero, Option.some.injEq] at hi; subst hi; exact ⟨b, 0, rfl, Free.none _ _ _, row_of h 0 _ rfl, sz_le hs⟩
    | i + 1, hi => simp at hi⟩
theorem rdStrs2 {w : World} {b : Nat} {s t : ByteArray} (h : w.heap[b]? = some (.cells #[.string s, .string t] 9 (0, 0))) (hs : s.size ≤ 1000) (ht : t.size ≤ 1000) : RdStrs none w (.slice (some ⟨b, 0, none⟩) 2 2) [s, t] :=
  ⟨some ⟨b, 0, none⟩, 2, rfl, ⟨by simp, by simp⟩, fun i x hi => by
    match i, hi with
    | 0, hi => simp only [List.getElem?_cons_zero, Option.some.injEq] at hi; subst hi; exact ⟨b, 0, rfl, Free.none _ _ _, row_of h 0 _ rfl, sz_le hs⟩
    | 1, hi => simp only [List.getElem?_cons_zero, List.getElem?_cons_succ, Option.some.injEq] at hi; subst hi; exact ⟨b, 0, rfl, Free.none _ _ _, row_of h 1 _ rfl, sz_le ht⟩
    | i + 2, hi => simp at hi⟩
theorem rdStrs0 (w : World) : RdStrs none w (.slice none 0 0) [] := ⟨none, 0, rfl, ⟨by simp, by simp⟩, fun i s hi => by simp at hi⟩
theorem rdArrs0 (w : World) : RdArrs none w (.slice none 0 0) [] := ⟨none, 0, rfl, ⟨by simp, by simp⟩, fun i s hi => by simp at hi⟩
theorem rdFuncs0 (w : World) : RdFuncs none w (.slice none 0 0) [] := ⟨none, 0, rfl, ⟨by simp, by simp⟩, fun i s hi => by simp at hi⟩
theorem rdInstrs0 (w : World) : RdInstrs none w (.slice none 0 0) [] := ⟨none, 0, rfl, ⟨by simp, by simp⟩, fun i s hi => by simp at hi⟩
theorem rdArgs0 (w : World) : RdArgs none w (.slice none 0 0) [] := ⟨none, 0, rfl, ⟨by simp, by simp⟩, fun i s hi => by simp at hi⟩
theorem rdArgs1 {w : World} {b : Nat} {s : ByteArray} (h : w.heap[b]? = some (.cells #[.string s, .int .u64 0] 32 (0, 0))) (hs : s.size ≤ 1000) : RdArgs none w (.slice (some ⟨b, 0, none⟩) 1 1) [⟨s, 0⟩] :=
  ⟨some ⟨b, 0, none⟩, 1, rfl, ⟨by simp, by simp⟩, fun i x hi => by
    match i, hi with
    | 0, hi => simp only [List.getElem?_cons_zero, Option.some.injEq] at hi; subst hi; exact ⟨b, 0, rfl, Free.none _ _ _, row_of h 0 _ rfl, row_of h 1 _ rfl, by unfold InU64; simp, sz_le hs⟩
    | i + 1, hi => simp at hi⟩
theorem rdArrs1 {w : World} {b : Nat} {s : ByteArray} (h : w.heap[b]? = some (.cells #[.string s, .int .i64 4] 39 (0, 0))) (hs : s.size ≤ 1000) : RdArrs none w (.slice (some ⟨b, 0, none⟩) 1 1) [⟨s, 4⟩] :=
  ⟨some ⟨b, 0, none⟩, 1, rfl, ⟨by simp, by simp⟩, fun i x hi => by
    match i, hi with
    | 0, hi => simp only [List.getElem?_cons_zero, Option.some.injEq] at hi; subst hi; exact ⟨b, 0, rfl, Free.none _ _ _, row_of h 0 _ rfl, row_of h 1 _ rfl, by unfold InI64; simp, sz_le hs⟩
    | i + 1, hi => simp at hi⟩
theorem rdInstr_of {w : World} {k : Int} {d n : ByteArray} {l : List ArgD} {v : Value} (h : RdArgs none w v l) (hk : 0 ≤ k ∧ k ≤ 255) (hd : d.size ≤ 1000) (hn : n.size ≤ 1000) : RdInstr none w ⟨k, 0, d, n, l, 0, 0⟩ v :=
  ⟨h, by unfold InU8; simpa using hk, by unfold InU8; simp, by unfold InI64; simp, by unfold InI64; simp, sz_le hd, sz_le hn⟩
theorem rdInstrs1 {w : World} {b : Nat} {k : Int} {d n : ByteArray} {l : List ArgD} {v : Value} (h : w.heap[b]? = some (.cells #[.int .u8 k, .int .u8 0, .string d, .string n, v, .int .i64 0, .int .i64 0] 37 (0, 0))) (hi : RdInstr none w ⟨k, 0, d, n, l, 0, 0⟩ v) : RdInstrs none w (.slice (some ⟨b, 0, none⟩) 1 1) [⟨k, 0, d, n, l, 0, 0⟩] :=
  ⟨some ⟨b, 0, none⟩, 1, rfl, ⟨by simp, by simp⟩, fun i x hx => by
    match i, hx with
    | 0, hx =>
      simp only [List.getElem?_cons_zero, Option.some.injEq] at hx
      subst hx
      exact ⟨b, 0, v, rfl, Free.none _ _ _, row_of h 0 _ rfl, row_of h 1 _ rfl, row_of h 2 _ rfl, row_of h 3 _ rfl, row_of h 4 _ rfl, row_of h 5 _ rfl, row_of h 6 _ rfl, hi⟩
    | i + 1, hx => simp at hx⟩
theorem rdInstrs2 {w : World} {b : Nat} {k k' : Int} {d n d' n' : ByteArray} {l l' : List ArgD} {v v' : Value} (h : w.heap[b]? = some (.cells #[.int .u8 k, .int .u8 0, .string d, .string n, v, .int .i64 0, .int .i64 0, .int .u8 k', .int .u8 0, .string d', .string n', v', .int .i64 0, .int .i64 0] 37 (0, 0))) (hi : RdInstr none w ⟨k, 0, d, n, l, 0, 0⟩ v) (hi' : RdInstr none w ⟨k', 0, d', n', l', 0, 0⟩ v') : RdInstrs none w (.slice (some ⟨b, 0, none⟩) 2 2) [⟨k, 0, d, n, l, 0, 0⟩, ⟨k', 0, d', n', l', 0, 0⟩] :=
  ⟨some ⟨b, 0, none⟩, 2, rfl, ⟨by simp, by simp⟩, fun i x hx => by
    match i, hx with
    | 0, hx =>
      simp only [List.getElem?_cons_zero, Option.some.injEq] at hx
      subst hx
      exact ⟨b, 0, v, rfl, Free.none _ _ _, row_of h 0 _ rfl, row_of h 1 _ rfl, row_of h 2 _ rfl, row_of h 3 _ rfl, row_of h 4 _ rfl, row_of h 5 _ rfl, row_of h 6 _ rfl, hi⟩
    | 1, hx =>
      simp only [List.getElem?_cons_zero, List.getElem?_cons_succ, Option.some.injEq] at hx
      subst hx
      exact ⟨b, 0, v', rfl, Free.none _ _ _, row_of h 7 _ rfl, row_of h 8 _ rfl, row_of h 9 _ rfl, row_of h 10 _ rfl, row_of h 11 _ rfl, row_of h 12 _ rfl, row_of h 13 _ rfl, hi'⟩
    | i + 2, hx => simp at hx⟩
theorem rdFuncs1 {w : World} {b : Nat} {s : ByteArray} {ps : List ByteArray} {c : List InstrD} {pv cv : Value} (h : w.heap[b]? = some (.cells #[.string s, pv, cv, .int .i64 0, .int .i64 0] 41 (0, 0))) (hp : RdStrs none w pv ps) (hc : RdInstrs none w cv c) (hs : s.size ≤ 1000) : RdFuncs none w (.slice (some ⟨b, 0, none⟩) 1 1) [⟨s, ps, c, 0, 0⟩] :=
  ⟨some ⟨b, 0, none⟩, 1, rfl, ⟨by simp, by simp⟩, fun i x hx => by
    match i, hx with
    | 0, hx =>
      simp only [List.getElem?_cons_zero, Option.some.injEq] at hx
      subst hx
      exact ⟨b, 0, pv, cv, rfl, Free.none _ _ _, row_of h 0 _ rfl, row_of h 1 _ rfl, row_of h 2 _ rfl, row_of h 3 _ rfl, row_of h 4 _ rfl, hp, hc, by unfold InI64; simp, by unfold InI64; simp, sz_le hs⟩
    | i + 1, hx => simp at hx⟩
def exZ : ProgD := ⟨1, [⟨#[99, 48]⟩], [], [], []⟩
def exA : ProgD := ⟨1, [⟨#[99, 48]⟩], [], [], [⟨9, 0, ⟨#[]⟩, ⟨#[76, 49]⟩, [⟨⟨#[120, 48]⟩, 0⟩], 0, 0⟩, ⟨10, 0, ⟨#[]⟩, ⟨#[76, 49]⟩, [], 0, 0⟩]⟩
def exB : ProgD := ⟨1, [⟨#[99, 48]⟩], [⟨⟨#[97, 48]⟩, 4⟩], [], [⟨2, 0, ⟨#[120, 49]⟩, ⟨#[97, 48]⟩, [⟨⟨#[]⟩, 0⟩], 0, 0⟩]⟩
def exC : ProgD := ⟨1, [⟨#[99, 48]⟩], [], [⟨⟨#[102, 48]⟩, [⟨#[112, 48]⟩], [⟨12, 0, ⟨#[]⟩, ⟨#[]⟩, [⟨⟨#[112, 48]⟩, 0⟩], 0, 0⟩], 0, 0⟩], [⟨4, 0, ⟨#[120, 50]⟩, ⟨#[102, 48]⟩, [⟨⟨#[120, 48]⟩, 0⟩], 0, 0⟩]⟩
def exP : ProgD := ⟨1, [⟨#[99, 48]⟩, ⟨#[99, 49]⟩], [], [], []⟩
def ex0 : ProgD := ⟨0, [], [], [], []⟩
def exQ : PolZ := ⟨[⟨#[108, 48]⟩, ⟨#[108, 49]⟩], [(0, 1)], [⟨⟨#[99, 48]⟩, 0⟩, ⟨⟨#[99, 49]⟩, 1⟩], [], false, 1, 1, 0, 0⟩
theorem exZ_eq : eqProg (progS []) exZ = true := by decide +kernel
theorem exA_eq : eqProg (progS [0, 0, 0, 0, 13, 0, 2]) exA = true := by decide +kernel
theorem exB_eq : eqProg (progS [0, 0, 1, 3, 0, 5, 1, 0, 4, 0]) exB = true := by decide +kernel
theorem exC_eq : eqProg (progS [0, 0, 0, 1, 1, 1, 15, 7, 0, 7, 2, 0, 0]) exC = true := by decide +kernel
theorem exP_ok : checkF exP = none := by decide +kernel
theorem ex0_bad : (checkF ex0).isSome = true := by decide +kernel
theorem exQ_is : policyS [1, 0, 1] exP = exQ := by
  unfold policyS
  rw [exP_ok]
  show (polS exP.chans (sitesAll exP) [1, 0, 1]).1 = exQ
  kernel_rfl
theorem exQ0_is : policyS [1] ex0 = zeroPol := by
  unfold policyS
  obtain ⟨f, hf⟩ := Option.isSome_iff_exists.1 ex0_bad
  rw [hf]
set_option maxRecDepth 100000 in
set_option maxHeartbeats 6400000 in
theorem names_walk (w : World) (hL : Laid w) :
    Calls Tryd.prog 3 #[] w fun e w' => e = .returned (.bool true) ∧ Below w.heap.size w w' := by
  have KN : ∀ z, Hid (Calls Tryd.prog 10 #[] z fun e w' => e = .returned (.bool true) ∧ Below z.heap.size z w') := fun z => known_any z
  have HPZ : ∀ z, Hid (Calls Tryd.prog 7 #[.string ⟨#[]⟩] z fun e w' => ∃ cv av fv mv, e = .returned (progV (progS []) cv av fv mv) ∧ RdProg (some (upFrom z.heap.size)) w' (progS []) cv av fv mv ∧ Below z.heap.size z w') := fun z => prog_any [] z
  have HLD := Lib.hid hL
  clear hL
  go_enter Tryd.func3, Tryd.ntmps3
  go_upto_region 3 with (first | (go_at_call 7; refine (HPZ _).out.mono ?_; rintro e z1 ⟨cv, av, fv, mv, rfl, hr, hbz⟩; have HR1 := Lib.hid hr.forget; have HB1 := Lib.hid hbz; clear hr hbz) | (go_at_call 6; have hal := (Below.refl z1.heap.size z1).alloc (Nat.le_refl _) (.cells #[.string ⟨#[99, 48]⟩] 9); have HB2 := Lib.hid (bcomp HB1.out hal); have HEQ := equalProg (progS []) exZ cv av fv mv _ _ _ _ (z1.alloc (.cells #[.string ⟨#[99, 48]⟩] 9)) (HR1.out.keep hal) ⟨rdStrs1 (heap_alloc_new z1 (.cells #[.string ⟨#[99, 48]⟩] 9)) (by decide +kernel), rdArrs0 _, rdFuncs0 _, rdInstrs0 _, by unfold InI64 exZ; simp⟩; rw [exZ_eq] at HEQ; refine HEQ.mono ?_; rintro e z2 ⟨rfl, hb2⟩; have HB3 := Lib.hid (bcomp HB2.out hb2); clear hal HEQ hb2))
  clear HB1 HB2 HR1 HPZ
  obtain ⟨a, ha⟩ : ∃ x, z2.heap.size = x := ⟨_, rfl⟩
  have hA := allocs_at [.cells #[.string ⟨#[99, 48]⟩] 9, .cells #[.string ⟨#[120, 48]⟩, .int .u64 0] 32, .cells #[.int .u8 9, .int .u8 0, .string ⟨#[]⟩, .string ⟨#[76, 49]⟩, .slice (some ⟨a + 1, 0, none⟩) 1 1, .int .i64 0, .int .i64 0, .int .u8 10, .int .u8 0, .string ⟨#[]⟩, .string ⟨#[76, 49]⟩, .slice none 0 0, .int .i64 0, .int .i64 0] 37, .cells #[.int .i64 1, .slice (some ⟨a, 0, none⟩) 1 1, .slice none 0 0, .slice none 0 0, .slice (some ⟨a + 1 + 1, 0, none⟩) 2 2] 28] z2
  simp only [List.foldl_cons, List.foldl_nil] at hA
  have hA0 := hA.2 0 _ rfl
  have hA1 := hA.2 1 _ rfl
  have hA2 := hA.2 2 _ rfl
  have hA3 := hA.2 3 _ rfl
  rw [ha] at hA0 hA1 hA2 hA3
  have Ha0 := Lib.hid hA0
  have Ha1 := Lib.hid hA1
  have Ha2 := Lib.hid hA2
  have Ha3 := Lib.hid hA3
  have HB4 := Lib.hid (bcomp HB3.out hA.1)
  have HC4 := Lib.hid hA.1
  clear hA hA0 hA1 hA2 hA3
  go_upto_region 4 with fail
  try rw [ha]
  generalize (((z2.alloc (.cells #[.string ⟨#[99, 48]⟩] 9)).alloc (.cells #[.string ⟨#[120, 48]⟩, .int .u64 0] 32)).alloc (.cells #[.int .u8 9, .int .u8 0, .string ⟨#[]⟩, .string ⟨#[76, 49]⟩, .slice (some ⟨a + 1, 0, none⟩) 1 1, .int .i64 0, .int .i64 0, .int .u8 10, .int .u8 0, .string ⟨#[]⟩, .string ⟨#[76, 49]⟩, .slice none 0 0, .int .i64 0, .int .i64 0] 37)).alloc (.cells #[.int .i64 1, .slice (some ⟨a, 0, none⟩) 1 1, .slice none 0 0, .slice none 0 0, .slice (some ⟨a + 1 + 1, 0, none⟩) 2 2] 28) = w3 at *
  obtain ⟨b, hb⟩ : ∃ x, w3.heap.size = x := ⟨_, rfl⟩
  have hA := allocs_at [.cells #[.string ⟨#[99, 48]⟩] 9, .cells #[.string ⟨#[97, 48]⟩, .int .i64 4] 39, .cells #[.string ⟨#[]⟩, .int .u64 0] 32, .cells #[.int .u8 2, .int .u8 0, .string ⟨#[120, 49]⟩, .string ⟨#[97, 48]⟩, .slice (some ⟨b + 1 + 1, 0, none⟩) 1 1, .int .i64 0, .int .i64 0] 37, .cells #[.int .i64 1, .slice (some ⟨b, 0, none⟩) 1 1, .slice (some ⟨b + 1, 0, none⟩) 1 1, .slice none 0 0, .slice (some ⟨b + 1 + 1 + 1, 0, none⟩) 1 1] 28] w3
  simp only [List.foldl_cons, List.foldl_nil] at hA
  have hA0 := hA.2 0 _ rfl
  have hA1 := hA.2 1 _ rfl
  have hA2 := hA.2 2 _ rfl
  have hA3 := hA.2 3 _ rfl
  have hA4 := hA.2 4 _ rfl
  rw [hb] at hA0 hA1 hA2 hA3 hA4
  have Hb0 := Lib.hid hA0
  have Hb1 := Lib.hid hA1
  have Hb2 := Lib.hid hA2
  have Hb3 := Lib.hid hA3
  have Hb4 := Lib.hid hA4
  have HB5 := Lib.hid (bcomp HB4.out hA.1)
  have HC5 := Lib.hid hA.1
  clear hA hA0 hA1 hA2 hA3 hA4
  go_upto_region 5 with fail
  try rw [hb]
  generalize ((((w3.alloc (.cells #[.string ⟨#[99, 48]⟩] 9)).alloc (.cells #[.string ⟨#[97, 48]⟩, .int .i64 4] 39)).alloc (.cells #[.string ⟨#[]⟩, .int .u64 0] 32)).alloc (.cells #[.int .u8 2, .int .u8 0, .string ⟨#[120, 49]⟩, .string ⟨#[97, 48]⟩, .slice (some ⟨b + 1 + 1, 0, none⟩) 1 1, .int .i64 0, .int .i64 0] 37)).alloc (.cells #[.int .i64 1, .slice (some ⟨b, 0, none⟩) 1 1, .slice (some ⟨b + 1, 0, none⟩) 1 1, .slice none 0 0, .slice (some ⟨b + 1 + 1 + 1, 0, none⟩) 1 1] 28) = w4 at *
  obtain ⟨c, hc⟩ : ∃ x, w4.heap.size = x := ⟨_, rfl⟩
  have hA := allocs_at [.cells #[.string ⟨#[99, 48]⟩] 9, .cells #[.string ⟨#[112, 48]⟩] 9, .cells #[.string ⟨#[112, 48]⟩, .int .u64 0] 32, .cells #[.int .u8 12, .int .u8 0, .string ⟨#[]⟩, .string ⟨#[]⟩, .slice (some ⟨c + 1 + 1, 0, none⟩) 1 1, .int .i64 0, .int .i64 0] 37, .cells #[.string ⟨#[102, 48]⟩, .slice (some ⟨c + 1, 0, none⟩) 1 1, .slice (some ⟨c + 1 + 1 + 1, 0, none⟩) 1 1, .int .i64 0, .int .i64 0] 41, .cells #[.string ⟨#[120, 48]⟩, .int .u64 0] 32, .cells #[.int .u8 4, .int .u8 0, .string ⟨#[120, 50]⟩, .string ⟨#[102, 48]⟩, .slice (some ⟨c + 1 + 1 + 1 + 1 + 1, 0, none⟩) 1 1, .int .i64 0, .int .i64 0] 37, .cells #[.int .i64 1, .slice (some ⟨c, 0, none⟩) 1 1, .slice none 0 0, .slice (some ⟨c + 1 + 1 + 1 + 1, 0, none⟩) 1 1, .slice (some ⟨c + 1 + 1 + 1 + 1 + 1 + 1, 0, none⟩) 1 1] 28] w4
  simp only [List.foldl_cons, List.foldl_nil] at hA
  have hA0 := hA.2 0 _ rfl
  have hA1 := hA.2 1 _ rfl
  have hA2 := hA.2 2 _ rfl
  have hA3 := hA.2 3 _ rfl
  have hA4 := hA.2 4 _ rfl
  have hA5 := hA.2 5 _ rfl
  have hA6 := hA.2 6 _ rfl
  have hA7 := hA.2 7 _ rfl
  rw [hc] at hA0 hA1 hA2 hA3 hA4 hA5 hA6 hA7
  have Hc0 := Lib.hid hA0
  have Hc1 := Lib.hid hA1
  have Hc2 := Lib.hid hA2
  have Hc3 := Lib.hid hA3
  have Hc4 := Lib.hid hA4
  have Hc5 := Lib.hid hA5
  have Hc6 := Lib.hid hA6
  have Hc7 := Lib.hid hA7
  have HB6 := Lib.hid (bcomp HB5.out hA.1)
  have HC6 := Lib.hid hA.1
  clear hA hA0 hA1 hA2 hA3 hA4 hA5 hA6 hA7
  go_upto_region 6 with fail
  try rw [hc]
  generalize (((((((w4.alloc (.cells #[.string ⟨#[99, 48]⟩] 9)).alloc (.cells #[.string ⟨#[112, 48]⟩] 9)).alloc (.cells #[.string ⟨#[112, 48]⟩, .int .u64 0] 32)).alloc (.cells #[.int .u8 12, .int .u8 0, .string ⟨#[]⟩, .string ⟨#[]⟩, .slice (some ⟨c + 1 + 1, 0, none⟩) 1 1, .int .i64 0, .int .i64 0] 37)).alloc (.cells #[.string ⟨#[102, 48]⟩, .slice (some ⟨c + 1, 0, none⟩) 1 1, .slice (some ⟨c + 1 + 1 + 1, 0, none⟩) 1 1, .int .i64 0, .int .i64 0] 41)).alloc (.cells #[.string ⟨#[120, 48]⟩, .int .u64 0] 32)).alloc (.cells #[.int .u8 4, .int .u8 0, .string ⟨#[120, 50]⟩, .string ⟨#[102, 48]⟩, .slice (some ⟨c + 1 + 1 + 1 + 1 + 1, 0, none⟩) 1 1, .int .i64 0, .int .i64 0] 37)).alloc (.cells #[.int .i64 1, .slice (some ⟨c, 0, none⟩) 1 1, .slice none 0 0, .slice (some ⟨c + 1 + 1 + 1 + 1, 0, none⟩) 1 1, .slice (some ⟨c + 1 + 1 + 1 + 1 + 1 + 1, 0, none⟩) 1 1] 28) = w5 at *
  have RA : RdProg none w3 exA (.slice (some ⟨a, 0, none⟩) 1 1) (.slice none 0 0) (.slice none 0 0) (.slice (some ⟨a + 1 + 1, 0, none⟩) 2 2) := ⟨rdStrs1 Ha0.out (by decide +kernel), rdArrs0 _, rdFuncs0 _, rdInstrs2 Ha2.out (rdInstr_of (rdArgs1 Ha1.out (by decide +kernel)) (by omega) (by decide +kernel) (by decide +kernel)) (rdInstr_of (rdArgs0 _) (by omega) (by decide +kernel) (by decide +kernel)), by unfold InI64 exA; simp⟩
  have RB : RdProg none w4 exB (.slice (some ⟨b, 0, none⟩) 1 1) (.slice (some ⟨b + 1, 0, none⟩) 1 1) (.slice none 0 0) (.slice (some ⟨b + 1 + 1 + 1, 0, none⟩) 1 1) := ⟨rdStrs1 Hb0.out (by decide +kernel), rdArrs1 Hb1.out (by decide +kernel), rdFuncs0 _, rdInstrs1 Hb3.out (rdInstr_of (rdArgs1 Hb2.out (by decide +kernel)) (by omega) (by decide +kernel) (by decide +kernel)), by unfold InI64 exB; simp⟩
  have RC : RdProg none w5 exC (.slice (some ⟨c, 0, none⟩) 1 1) (.slice none 0 0) (.slice (some ⟨c + 1 + 1 + 1 + 1, 0, none⟩) 1 1) (.slice (some ⟨c + 1 + 1 + 1 + 1 + 1 + 1, 0, none⟩) 1 1) := ⟨rdStrs1 Hc0.out (by decide +kernel), rdArrs0 _, rdFuncs1 Hc4.out (rdStrs1 Hc1.out (by decide +kernel)) (rdInstrs1 Hc3.out (rdInstr_of (rdArgs1 Hc2.out (by decide +kernel)) (by omega) (by decide +kernel) (by decide +kernel))) (by decide +kernel), rdInstrs1 Hc6.out (rdInstr_of (rdArgs1 Hc5.out (by decide +kernel)) (by omega) (by decide +kernel) (by decide +kernel)), by unfold InI64 exC; simp⟩
  have HRA := Lib.hid ((RA.keep HC5.out).keep HC6.out)
  have HRB := Lib.hid (RB.keep HC6.out)
  have HRC := Lib.hid RC
  have hA5 := (HC6.out.block _ (by have h := (Array.getElem?_eq_some_iff.1 Ha3.out).1; have := HC5.out.size; omega)).trans ((HC5.out.block _ (Array.getElem?_eq_some_iff.1 Ha3.out).1).trans Ha3.out)
  have hB5 := (HC6.out.block _ (Array.getElem?_eq_some_iff.1 Hb4.out).1).trans Hb4.out
  have hC5 := Hc7.out
  obtain ⟨pa, hpa⟩ : ∃ x, a + 1 + 1 + 1 = x := ⟨_, rfl⟩
  obtain ⟨pb, hpb⟩ : ∃ x, b + 1 + 1 + 1 + 1 = x := ⟨_, rfl⟩
  obtain ⟨pc, hpc⟩ : ∃ x, c + 1 + 1 + 1 + 1 + 1 + 1 + 1 = x := ⟨_, rfl⟩
  rw [hpa] at hA5
  rw [hpb] at hB5
  rw [hpc] at hC5
  try rw [hpa]
  try rw [hpb]
  try rw [hpc]
  have gA := (Array.getElem?_eq_some_iff.1 hA5).1
  have gB := (Array.getElem?_eq_some_iff.1 hB5).1
  have gC := (Array.getElem?_eq_some_iff.1 hC5).1
  have KEEP : Hid (∀ z : World, Below w5.heap.size w5 z → ∀ x ∈ [pa, pb, pc], z.heap[x]? = w5.heap[x]?) := fun z hz x hx => by
    simp only [List.mem_cons, List.not_mem_nil, or_false] at hx
    rcases hx with rfl | rfl | rfl
    · exact hz.block _ gA
    · exact hz.block _ gB
    · exact hz.block _ gC
  have qa0 := keepS_cell (S := [pa, pb, pc]) (by simp) (row_of hA5 0 _ rfl)
  have qa1 := keepS_cell (S := [pa, pb, pc]) (by simp) (row_of hA5 1 _ rfl)
  have qa2 := keepS_cell (S := [pa, pb, pc]) (by simp) (row_of hA5 2 _ rfl)
  have qa3 := keepS_cell (S := [pa, pb, pc]) (by simp) (row_of hA5 3 _ rfl)
  have qa4 := keepS_cell (S := [pa, pb, pc]) (by simp) (row_of hA5 4 _ rfl)
  have qb0 := keepS_cell (S := [pa, pb, pc]) (by simp) (row_of hB5 0 _ rfl)
  have qb1 := keepS_cell (S := [pa, pb, pc]) (by simp) (row_of hB5 1 _ rfl)
  have qb2 := keepS_cell (S := [pa, pb, pc]) (by simp) (row_of hB5 2 _ rfl)
  have qb3 := keepS_cell (S := [pa, pb, pc]) (by simp) (row_of hB5 3 _ rfl)
  have qb4 := keepS_cell (S := [pa, pb, pc]) (by simp) (row_of hB5 4 _ rfl)
  have qc0 := keepS_cell (S := [pa, pb, pc]) (by simp) (row_of hC5 0 _ rfl)
  have qc1 := keepS_cell (S := [pa, pb, pc]) (by simp) (row_of hC5 1 _ rfl)
  have qc2 := keepS_cell (S := [pa, pb, pc]) (by simp) (row_of hC5 2 _ rfl)
  have qc3 := keepS_cell (S := [pa, pb, pc]) (by simp) (row_of hC5 3 _ rfl)
  have qc4 := keepS_cell (S := [pa, pb, pc]) (by simp) (row_of hC5 4 _ rfl)
  clear RA RB RC hA5 hB5 hC5 gA gB gC hpa hpb hpc ha hb hc HC4 HC5 HC6 Ha0 Ha1 Ha2 Ha3 Hb0 Hb1 Hb2 Hb3 Hb4 Hc0 Hc1 Hc2 Hc3 Hc4 Hc5 Hc6 Hc7
  refine wp_region_mixS [pa, pb, pc] (.one [1] 0 (.one [] 2 (.one [3, 4, 6] 5 (.one [] 7 (.one [8, 9, 10, 12] 11 (.one [] 13 (.fin [14, 15]))))))) (fun j => decide (99 ≤ j)) (by kernel_rfl) (by kernel_rfl) rfl (by kernel_rfl) (fun _ d _ _ _ h => by cases d <;> exact h) ?_
  have HBd : Hid (Below w5.heap.size w5 w5.drew) := (Below.refl _ _).drew
  generalize w5.drew = y0 at *
  have HK0 := Lib.hid (KEEP.out y0 HBd.out)
  refine mix_one (by simp only [opsOf, List.filterMap_cons, List.filterMap_nil, List.getElem?_toArray, List.getElem?_cons_succ, List.getElem?_cons_zero]; rfl) ⟨_, keepS_of HK0.out⟩ ?_
  change wpQuiet _ _ _ _ [_] _
  (repeat (go_big_quiet_step (fail)))
  refine wpQuiet_nil ?_
  have HPA := Lib.hid (prog_any [0, 0, 0, 0, 13, 0, 2] y0)
  refine mix_step rfl ?_
  go_wp2_with (go_at_call 7; refine HPA.out.mono ?_; rintro e u0 ⟨cv, av, fv, mv, rfl, hr, hb⟩)
  have HBu0 := Lib.hid (bcomp HBd.out hb)
  have HKu0 := Lib.hid (KEEP.out u0 HBu0.out)
  have hq := equalProg (progS [0, 0, 0, 0, 13, 0, 2]) exA cv av fv mv _ _ _ _ u0 hr.forget (HRA.out.keep HBu0.out)
  rw [exA_eq] at hq
  have HQA := Lib.hid hq
  clear hr hb hq HPA
  (first | refine ⟨fun _ => ⟨_, keepS_of HKu0.out⟩, ?_⟩ | refine ⟨⟨_, keepS_of HKu0.out⟩, ?_⟩)
  refine mix_now ?_
  refine mix_step rfl ?_
  go_wp2_with (go_at_call 6; refine HQA.out.mono ?_; rintro e v0 ⟨rfl, hb⟩)
  have HBv0 := Lib.hid (bcomp HBu0.out hb)
  have HKv0 := Lib.hid (KEEP.out v0 HBv0.out)
  clear hb HQA
  (first | refine ⟨fun _ => ⟨_, keepS_of HKv0.out⟩, ?_⟩ | refine ⟨⟨_, keepS_of HKv0.out⟩, ?_⟩)
  refine mix_one (by simp only [opsOf, List.filterMap_cons, List.filterMap_nil, List.getElem?_toArray, List.getElem?_cons_succ, List.getElem?_cons_zero]; rfl) ⟨_, keepS_of HKv0.out⟩ ?_
  change wpQuiet _ _ _ _ [_, _, _] _
  (repeat (go_big_quiet_step (fail)))
  refine wpQuiet_nil ?_
  have HPB := Lib.hid (prog_any [0, 0, 1, 3, 0, 5, 1, 0, 4, 0] v0)
  refine mix_step rfl ?_
  go_wp2_with (go_at_call 7; refine HPB.out.mono ?_; rintro e u1 ⟨cv, av, fv, mv, rfl, hr, hb⟩)
  have HBu1 := Lib.hid (bcomp HBv0.out hb)
  have HKu1 := Lib.hid (KEEP.out u1 HBu1.out)
  have hq := equalProg (progS [0, 0, 1, 3, 0, 5, 1, 0, 4, 0]) exB cv av fv mv _ _ _ _ u1 hr.forget (HRB.out.keep HBu1.out)
  rw [exB_eq] at hq
  have HQB := Lib.hid hq
  clear hr hb hq HPB
  (first | refine ⟨fun _ => ⟨_, keepS_of HKu1.out⟩, ?_⟩ | refine ⟨⟨_, keepS_of HKu1.out⟩, ?_⟩)
  refine mix_now ?_
  refine mix_step rfl ?_
  go_wp2_with (go_at_call 6; refine HQB.out.mono ?_; rintro e v1 ⟨rfl, hb⟩)
  have HBv1 := Lib.hid (bcomp HBu1.out hb)
  have HKv1 := Lib.hid (KEEP.out v1 HBv1.out)
  clear hb HQB
  (first | refine ⟨fun _ => ⟨_, keepS_of HKv1.out⟩, ?_⟩ | refine ⟨⟨_, keepS_of HKv1.out⟩, ?_⟩)
  refine mix_one (by simp only [opsOf, List.filterMap_cons, List.filterMap_nil, List.getElem?_toArray, List.getElem?_cons_succ, List.getElem?_cons_zero]; rfl) ⟨_, keepS_of HKv1.out⟩ ?_
  change wpQuiet _ _ _ _ [_, _, _, _] _
  (repeat (go_big_quiet_step (fail)))
  refine wpQuiet_nil ?_
  have HPC := Lib.hid (prog_any [0, 0, 0, 1, 1, 1, 15, 7, 0, 7, 2, 0, 0] v1)
  refine mix_step rfl ?_
  go_wp2_with (go_at_call 7; refine HPC.out.mono ?_; rintro e u2 ⟨cv, av, fv, mv, rfl, hr, hb⟩)
  have HBu2 := Lib.hid (bcomp HBv1.out hb)
  have HKu2 := Lib.hid (KEEP.out u2 HBu2.out)
  have hq := equalProg (progS [0, 0, 0, 1, 1, 1, 15, 7, 0, 7, 2, 0, 0]) exC cv av fv mv _ _ _ _ u2 hr.forget (HRC.out.keep HBu2.out)
  rw [exC_eq] at hq
  have HQC := Lib.hid hq
  clear hr hb hq HPC
  (first | refine ⟨fun _ => ⟨_, keepS_of HKu2.out⟩, ?_⟩ | refine ⟨⟨_, keepS_of HKu2.out⟩, ?_⟩)
  refine mix_now ?_
  refine mix_step rfl ?_
  go_wp2_with (go_at_call 6; refine HQC.out.mono ?_; rintro e v2 ⟨rfl, hb⟩)
  have HBv2 := Lib.hid (bcomp HBu2.out hb)
  have HKv2 := Lib.hid (KEEP.out v2 HBv2.out)
  clear hb HQC
  (first | refine ⟨fun _ => ⟨_, keepS_of HKv2.out⟩, ?_⟩ | refine ⟨⟨_, keepS_of HKv2.out⟩, ?_⟩)
  refine mix_fin (by simp only [opsOf, List.filterMap_cons, List.filterMap_nil, List.getElem?_toArray, List.getElem?_cons_succ, List.getElem?_cons_zero]; rfl) ⟨_, keepS_of HKv2.out⟩ ?_
  change wpQuiet _ _ _ _ [_, _] _
  (repeat (go_big_quiet_step (fail)))
  refine wpQuiet_nil ?_
  clear qa0 qa1 qa2 qa3 qa4 qb0 qb1 qb2 qb3 qb4 qc0 qc1 qc2 qc3 qc4
  have HB7 := Lib.hid (bcomp HB6.out HBv2.out)
  clear HRA HRB HRC KEEP HK0 HKu0 HKu1 HKu2 HKv0 HKv1 HKv2 HBu0 HBu1 HBu2 HBv0 HBv1 HBv2 HBd
  go_upto_region 8 with fail
  obtain ⟨d, hd⟩ : ∃ x, v2.heap.size = x := ⟨_, rfl⟩
  have hA := allocs_at [.cells #[.string ⟨#[99, 48]⟩, .string ⟨#[99, 49]⟩] 9, .cells #[.int .i64 1, .slice (some ⟨d, 0, none⟩) 2 2, .slice none 0 0, .slice none 0 0, .slice none 0 0] 28] v2
  simp only [List.foldl_cons, List.foldl_nil] at hA
  have hA0 := hA.2 0 _ rfl
  have hA1 := hA.2 1 _ rfl
  rw [hd] at hA0 hA1
  have Hd0 := Lib.hid hA0
  have Hd1 := Lib.hid hA1
  have HB8 := Lib.hid (bcomp HB7.out hA.1)
  have HC8 := Lib.hid hA.1
  clear hA hA0 hA1
  go_upto_region 9 with fail
  try rw [hd]
  generalize (v2.alloc (.cells #[.string ⟨#[99, 48]⟩, .string ⟨#[99, 49]⟩] 9)).alloc (.cells #[.int .i64 1, .slice (some ⟨d, 0, none⟩) 2 2, .slice none 0 0, .slice none 0 0, .slice none 0 0] 28) = w6 at *
  obtain ⟨e, he⟩ : ∃ x, w6.heap.size = x := ⟨_, rfl⟩
  have hA := allocs_at [.cells #[.string ⟨#[108, 48]⟩, .string ⟨#[108, 49]⟩] 9, .cells #[.int .i64 0, .int .i64 1] 42, .cells #[.string ⟨#[99, 48]⟩, .int .i64 0, .string ⟨#[99, 49]⟩, .int .i64 1] 45, .cells #[.slice (some ⟨e, 0, none⟩) 2 2, .slice (some ⟨e + 1, 0, none⟩) 1 1, .slice (some ⟨e + 1 + 1, 0, none⟩) 2 2, .slice none 0 0, .bool false, .int .i64 1, .int .i64 1, .int .i64 0, .int .i64 0] 48] w6
  simp only [List.foldl_cons, List.foldl_nil] at hA
  have hA0 := hA.2 0 _ rfl
  have hA1 := hA.2 1 _ rfl
  have hA2 := hA.2 2 _ rfl
  have hA3 := hA.2 3 _ rfl
  rw [he] at hA0 hA1 hA2 hA3
  have He0 := Lib.hid hA0
  have He1 := Lib.hid hA1
  have He2 := Lib.hid hA2
  have He3 := Lib.hid hA3
  have HB9 := Lib.hid (bcomp HB8.out hA.1)
  have HC9 := Lib.hid hA.1
  clear hA hA0 hA1 hA2 hA3
  go_upto_region 10 with fail
  try rw [he]
  generalize (((w6.alloc (.cells #[.string ⟨#[108, 48]⟩, .string ⟨#[108, 49]⟩] 9)).alloc (.cells #[.int .i64 0, .int .i64 1] 42)).alloc (.cells #[.string ⟨#[99, 48]⟩, .int .i64 0, .string ⟨#[99, 49]⟩, .int .i64 1] 45)).alloc (.cells #[.slice (some ⟨e, 0, none⟩) 2 2, .slice (some ⟨e + 1, 0, none⟩) 1 1, .slice (some ⟨e + 1 + 1, 0, none⟩) 2 2, .slice none 0 0, .bool false, .int .i64 1, .int .i64 1, .int .i64 0, .int .i64 0] 48) = w7 at *
  have RP : RdProg none w6 exP (.slice (some ⟨d, 0, none⟩) 2 2) (.slice none 0 0) (.slice none 0 0) (.slice none 0 0) := ⟨rdStrs2 Hd0.out (by decide +kernel) (by decide +kernel), rdArrs0 _, rdFuncs0 _, rdInstrs0 _, by unfold InI64 exP; simp⟩
  have RQ : RdPolZ w7 exQ (.slice (some ⟨e, 0, none⟩) 2 2) (.slice (some ⟨e + 1, 0, none⟩) 1 1) (.slice (some ⟨e + 1 + 1, 0, none⟩) 2 2) (.slice none 0 0) := ⟨rdStrs2 He0.out (by decide +kernel) (by decide +kernel), rdZ_row (f := pairZ) (fun _ => rfl) (l := [(0, 1)]) He1.out (by simp), rdZ_row (f := bindC) (fun _ => rfl) (l := [⟨⟨#[99, 48]⟩, 0⟩, ⟨⟨#[99, 49]⟩, 1⟩]) He2.out (by simp), ⟨none, 0, rfl, ⟨by simp [exQ], by simp [exQ]⟩, fun i s hi => by simp [exQ] at hi⟩⟩
  have HRP := Lib.hid (RP.keep HC9.out)
  have HRQ := Lib.hid RQ
  have HLZ := Lib.hid (HLD.out.keep HB9.out)
  have hD7 := (HC9.out.block _ (Array.getElem?_eq_some_iff.1 Hd1.out).1).trans Hd1.out
  have hE7 := He3.out
  obtain ⟨pd, hpd⟩ : ∃ x, d + 1 = x := ⟨_, rfl⟩
  obtain ⟨pe, hpe⟩ : ∃ x, e + 1 + 1 + 1 = x := ⟨_, rfl⟩
  rw [hpd] at hD7
  rw [hpe] at hE7
  try rw [hpd]
  try rw [hpe]
  have gD := (Array.getElem?_eq_some_iff.1 hD7).1
  have gE := (Array.getElem?_eq_some_iff.1 hE7).1
  have KEEP : Hid (∀ z : World, Below w7.heap.size w7 z → ∀ x ∈ [pd, pe], z.heap[x]? = w7.heap[x]?) := fun z hz x hx => by
    simp only [List.mem_cons, List.not_mem_nil, or_false] at hx
    rcases hx with rfl | rfl
    · exact hz.block _ gD
    · exact hz.block _ gE
  have qd0 := keepS_cell (S := [pd, pe]) (by simp) (row_of hD7 0 _ rfl)
  have qd1 := keepS_cell (S := [pd, pe]) (by simp) (row_of hD7 1 _ rfl)
  have qd2 := keepS_cell (S := [pd, pe]) (by simp) (row_of hD7 2 _ rfl)
  have qd3 := keepS_cell (S := [pd, pe]) (by simp) (row_of hD7 3 _ rfl)
  have qd4 := keepS_cell (S := [pd, pe]) (by simp) (row_of hD7 4 _ rfl)
  have qe0 := keepS_cell (S := [pd, pe]) (by simp) (row_of hE7 0 _ rfl)
  have qe1 := keepS_cell (S := [pd, pe]) (by simp) (row_of hE7 1 _ rfl)
  have qe2 := keepS_cell (S := [pd, pe]) (by simp) (row_of hE7 2 _ rfl)
  have qe3 := keepS_cell (S := [pd, pe]) (by simp) (row_of hE7 3 _ rfl)
  have qe4 := keepS_cell (S := [pd, pe]) (by simp) (row_of hE7 4 _ rfl)
  have qe5 := keepS_cell (S := [pd, pe]) (by simp) (row_of hE7 5 _ rfl)
  have qe6 := keepS_cell (S := [pd, pe]) (by simp) (row_of hE7 6 _ rfl)
  have qe7 := keepS_cell (S := [pd, pe]) (by simp) (row_of hE7 7 _ rfl)
  have qe8 := keepS_cell (S := [pd, pe]) (by simp) (row_of hE7 8 _ rfl)
  clear RP RQ hD7 hE7 gD gE hpd hpe hd he HC8 HC9 Hd0 Hd1 He0 He1 He2 He3
  refine wp_region_mixS [pd, pe] (.one [0, 2] 1 (.one [] 3 (.one [4, 5, 7] 6 (.one [] 8 (.one [9, 10] 11 (.fin [12, 13])))))) (fun j => decide (99 ≤ j)) (by kernel_rfl) (by kernel_rfl) rfl (by kernel_rfl) (fun _ d _ _ _ h => by cases d <;> exact h) ?_
  have HBd : Hid (Below w7.heap.size w7 w7.drew) := (Below.refl _ _).drew
  generalize w7.drew = y0 at *
  have HK0 := Lib.hid (KEEP.out y0 HBd.out)
  refine mix_one (by simp only [opsOf, List.filterMap_cons, List.filterMap_nil, List.getElem?_toArray, List.getElem?_cons_succ, List.getElem?_cons_zero]; rfl) ⟨_, keepS_of HK0.out⟩ ?_
  change wpQuiet _ _ _ _ [_, _] _
  (repeat (go_big_quiet_step (fail)))
  refine wpQuiet_nil ?_
  clear qd0 qd1 qd2 qd3 qd4 qe0 qe1 qe2 qe3 qe4 qe5 qe6 qe7 qe8
  have hp := policy_any [1, 0, 1] exP _ _ _ _ y0 (HRP.out.keep HBd.out) (HLZ.out.keep HBd.out)
  rw [exQ_is] at hp
  have HPO := Lib.hid hp
  clear hp
  refine mix_step rfl ?_
  go_wp2_with (go_at_call 9; refine HPO.out.mono ?_; rintro e y1 ⟨lv, ov, cu, su, rfl, hr, hb⟩)
  have HB1 := Lib.hid (bcomp HBd.out hb)
  have HK1 := Lib.hid (KEEP.out y1 HB1.out)
  have HSM := Lib.hid (policySame exQ lv ov cu su _ _ _ _ y1 hr (HRQ.out.keep HB1.out))
  clear hr hb HPO
  (first | refine ⟨fun _ => ⟨_, keepS_of HK1.out⟩, ?_⟩ | refine ⟨⟨_, keepS_of HK1.out⟩, ?_⟩)
  refine mix_now ?_
  refine mix_step rfl ?_
  go_wp2_with (go_at_call 8; refine HSM.out.mono ?_; rintro e y2 ⟨rfl, hb⟩)
  have HB2 := Lib.hid (bcomp HB1.out hb)
  have HK2 := Lib.hid (KEEP.out y2 HB2.out)
  clear hb HSM
  (first | refine ⟨fun _ => ⟨_, keepS_of HK2.out⟩, ?_⟩ | refine ⟨⟨_, keepS_of HK2.out⟩, ?_⟩)
  refine mix_one (by simp only [opsOf, List.filterMap_cons, List.filterMap_nil, List.getElem?_toArray, List.getElem?_cons_succ, List.getElem?_cons_zero]; rfl) ⟨_, keepS_of HK2.out⟩ ?_
  change wpQuiet _ _ _ _ [_, _, _] _
  (repeat (go_big_quiet_step (fail)))
  refine wpQuiet_nil ?_
  have hp := policy_any [1] ex0 (.slice none 0 0) (.slice none 0 0) (.slice none 0 0) (.slice none 0 0) y2 ⟨rdStrs0 _, rdArrs0 _, rdFuncs0 _, rdInstrs0 _, by unfold InI64 ex0; simp⟩ (HLZ.out.keep HB2.out)
  rw [exQ0_is] at hp
  have HPO := Lib.hid hp
  clear hp
  refine mix_step rfl ?_
  go_wp2_with (go_at_call 9; refine HPO.out.mono ?_; rintro e y3 ⟨lv, ov, cu, su, rfl, hr, hb⟩)
  have HB3' := Lib.hid (bcomp HB2.out hb)
  have HK3 := Lib.hid (KEEP.out y3 HB3'.out)
  have HSM := Lib.hid (policySame zeroPol lv ov cu su _ _ _ _ y3 hr (rdPolZ_zero y3))
  clear hr hb HPO
  (first | refine ⟨fun _ => ⟨_, keepS_of HK3.out⟩, ?_⟩ | refine ⟨⟨_, keepS_of HK3.out⟩, ?_⟩)
  refine mix_now ?_
  refine mix_step rfl ?_
  go_wp2_with (go_at_call 8; refine HSM.out.mono ?_; rintro e y4 ⟨rfl, hb⟩)
  have HB4' := Lib.hid (bcomp HB3'.out hb)
  have HK4 := Lib.hid (KEEP.out y4 HB4'.out)
  clear hb HSM
  (first | refine ⟨fun _ => ⟨_, keepS_of HK4.out⟩, ?_⟩ | refine ⟨⟨_, keepS_of HK4.out⟩, ?_⟩)
  refine mix_one (by simp only [opsOf, List.filterMap_cons, List.filterMap_nil, List.getElem?_toArray, List.getElem?_cons_succ, List.getElem?_cons_zero]; rfl) ⟨_, keepS_of HK4.out⟩ ?_
  change wpQuiet _ _ _ _ [_, _] _
  (repeat (go_big_quiet_step (fail)))
  refine wpQuiet_nil ?_
  refine mix_step rfl ?_
  go_wp2_with (go_at_call 10; refine (KN _).out.mono ?_; rintro e y5 ⟨rfl, hb⟩)
  have HB5' := Lib.hid (bcomp HB4'.out hb)
  have HK5 := Lib.hid (KEEP.out y5 HB5'.out)
  clear hb
  (first | refine ⟨fun _ => ⟨_, keepS_of HK5.out⟩, ?_⟩ | refine ⟨⟨_, keepS_of HK5.out⟩, ?_⟩)
  refine mix_fin (by simp only [opsOf, List.filterMap_cons, List.filterMap_nil, List.getElem?_toArray, List.getElem?_cons_succ, List.getElem?_cons_zero]; rfl) ⟨_, keepS_of HK5.out⟩ ?_
  change wpQuiet _ _ _ _ [_, _] _
  (repeat (go_big_quiet_step (fail)))
  refine wpQuiet_nil ?_
  go_wp2_with fail
  go_ret
  exact ⟨rfl, bcomp HB9.out HB5'.out⟩
end Go.Proofs.YtfdinncgncbmfaaDoor
