/- Contracts of the helpers of the statements about script.Prog: known, bare. Conditions: an argument reads as its list. -/
import Derived.Test.YtfdinncgncbmfaaGreatDoorScP
import Derived.Test.YtfdinncgncbmfaaGreatDoorKitI
set_option linter.unusedVariables false
set_option linter.unusedSimpArgs false
set_option linter.unnecessarySimpa false
namespace Go.Proofs.YtfdinncgncbmfaaGreatDoor
open Go.Maps (Keyed int_keyed)
open Go.WideShapes Go.ChangeMaps Go.MapKept Go.WideMaps Go.ChangeAt Go.RowKit Go.ChangeShapes
/-- The program of known. -/
def knownP : ProgD := ⟨2, [⟨#[99, 48]⟩, ⟨#[99, 49]⟩], [], [], [⟨5, 0, ⟨#[120, 50]⟩, ⟨#[99, 49]⟩, [], 0, 0⟩, ⟨6, 0, ⟨#[]⟩, ⟨#[99, 48]⟩, [⟨⟨#[120, 50]⟩, 0⟩], 0, 0⟩]⟩
def knownB : List UInt8 := [1, 1, 0, 0, 8, 2, 1, 10, 0, 2]
theorem known_eq : eqProg (progS knownB) knownP = true := by decide +kernel
theorem known_rd {w : World} {b0 b1 b2 : Nat} (h0 : w.heap[b0]? = some (.cells #[.string ⟨#[99, 48]⟩, .string ⟨#[99, 49]⟩] 9 (0, 0))) (h1 : w.heap[b1]? = some (.cells #[.string ⟨#[120, 50]⟩, .int .u64 0] 47 (0, 0))) (h2 : w.heap[b2]? = some (.cells #[.int .u8 5, .int .u8 0, .string ⟨#[120, 50]⟩, .string ⟨#[99, 49]⟩, .slice none 0 0, .int .i64 0, .int .i64 0, .int .u8 6, .int .u8 0, .string ⟨#[]⟩, .string ⟨#[99, 48]⟩, .slice (some ⟨b1, 0, none⟩) 1 1, .int .i64 0, .int .i64 0] 44 (0, 0))) :
    RdProg none w knownP (.slice (some ⟨b0, 0, none⟩) 2 2) (.slice none 0 0) (.slice none 0 0) (.slice (some ⟨b2, 0, none⟩) 2 2) := by
  have hsz : ∀ a b : UInt8, (⟨#[a, b]⟩ : ByteArray).size ≤ maxLen := fun a b => by show 2 ≤ maxLen; unfold maxLen; omega
  have hs0 : (⟨#[]⟩ : ByteArray).size ≤ maxLen := by show 0 ≤ maxLen; omega
  refine ⟨⟨some ⟨b0, 0, none⟩, 2, rfl, ⟨by simp [knownP], by simp [knownP]⟩, fun i s hi => ?_⟩, ⟨none, 0, rfl, ⟨by simp [knownP], by simp [knownP]⟩, fun i s hi => by simp [knownP] at hi⟩, ⟨none, 0, rfl, ⟨by simp [knownP], by simp [knownP]⟩, fun i s hi => by simp [knownP] at hi⟩, ⟨some ⟨b2, 0, none⟩, 2, rfl, ⟨by simp [knownP], by simp [knownP]⟩, fun i s hi => ?_⟩, by unfold InI64 knownP; simp⟩
  · match i, hi with
    | 0, hi => simp only [knownP, List.getElem?_cons_zero, Option.some.injEq] at hi; subst hi; exact ⟨b0, 0, rfl, Free.none _ _ _, row_of h0 0 _ rfl, hsz _ _⟩
    | 1, hi => simp only [knownP, List.getElem?_cons_zero, List.getElem?_cons_succ, Option.some.injEq] at hi; subst hi; exact ⟨b0, 0, rfl, Free.none _ _ _, row_of h0 1 _ rfl, hsz _ _⟩
    | i + 2, hi => simp [knownP] at hi
  · match i, hi with
    | 0, hi =>
      simp only [knownP, List.getElem?_cons_zero, Option.some.injEq] at hi
      subst hi
      exact ⟨b2, 0, .slice none 0 0, rfl, Free.none _ _ _, row_of h2 0 _ rfl, row_of h2 1 _ rfl, row_of h2 2 _ rfl, row_of h2 3 _ rfl, row_of h2 4 _ rfl, row_of h2 5 _ rfl, row_of h2 6 _ rfl, ⟨none, 0, rfl, ⟨by simp, by simp⟩, fun j s h => by simp at h⟩, by unfold InU8; simp, by unfold InU8; simp, by unfold InI64; simp, by unfold InI64; simp, hsz _ _, hsz _ _⟩
    | 1, hi =>
      simp only [knownP, List.getElem?_cons_zero, List.getElem?_cons_succ, Option.some.injEq] at hi
      subst hi
      exact ⟨b2, 0, .slice (some ⟨b1, 0, none⟩) 1 1, rfl, Free.none _ _ _, row_of h2 7 _ rfl, row_of h2 8 _ rfl, row_of h2 9 _ rfl, row_of h2 10 _ rfl, row_of h2 11 _ rfl, row_of h2 12 _ rfl, row_of h2 13 _ rfl, ⟨some ⟨b1, 0, none⟩, 1, rfl, ⟨by simp, by simp⟩, fun j s h => by
        match j, h with
        | 0, h => simp only [List.getElem?_cons_zero, Option.some.injEq] at h; subst h; exact ⟨b1, 0, rfl, Free.none _ _ _, row_of h1 0 _ rfl, row_of h1 1 _ rfl, by unfold InU64; simp, hsz _ _⟩
        | j + 1, h => simp at h⟩, by unfold InU8; simp, by unfold InU8; simp, by unfold InI64; simp, by unfold InI64; simp, hs0, hsz _ _⟩
    | i + 2, hi => simp [knownP] at hi
set_option maxRecDepth 100000 in
set_option maxHeartbeats 1600000 in
theorem known_any (w : World) : Calls Tryz.prog 5 #[] w fun e w' => e = .returned (.bool true) ∧ Below w.heap.size w w' := by
  obtain ⟨b, hb⟩ : ∃ b, w.heap.size = b := ⟨_, rfl⟩
  have k0 := (Below.refl w.heap.size w).alloc (Nat.le_refl _) (.cells #[.string ⟨#[99, 48]⟩, .string ⟨#[99, 49]⟩] 9)
  have e1 : (w.alloc (.cells #[.string ⟨#[99, 48]⟩, .string ⟨#[99, 49]⟩] 9)).heap.size = b + 1 := by simp [hb]
  have k1 := (Below.refl _ (w.alloc (.cells #[.string ⟨#[99, 48]⟩, .string ⟨#[99, 49]⟩] 9))).alloc (Nat.le_refl _) (.cells #[.string ⟨#[120, 50]⟩, .int .u64 0] 47)
  have e2 : ((w.alloc (.cells #[.string ⟨#[99, 48]⟩, .string ⟨#[99, 49]⟩] 9)).alloc (.cells #[.string ⟨#[120, 50]⟩, .int .u64 0] 47)).heap.size = b + 1 + 1 := by simp [hb]
  have k2 := (Below.refl _ ((w.alloc (.cells #[.string ⟨#[99, 48]⟩, .string ⟨#[99, 49]⟩] 9)).alloc (.cells #[.string ⟨#[120, 50]⟩, .int .u64 0] 47))).alloc (Nat.le_refl _) (.cells #[.int .u8 5, .int .u8 0, .string ⟨#[120, 50]⟩, .string ⟨#[99, 49]⟩, .slice none 0 0, .int .i64 0, .int .i64 0, .int .u8 6, .int .u8 0, .string ⟨#[]⟩, .string ⟨#[99, 48]⟩, .slice (some ⟨b + 1, 0, none⟩) 1 1, .int .i64 0, .int .i64 0] 44)
  have e3 : (((w.alloc (.cells #[.string ⟨#[99, 48]⟩, .string ⟨#[99, 49]⟩] 9)).alloc (.cells #[.string ⟨#[120, 50]⟩, .int .u64 0] 47)).alloc (.cells #[.int .u8 5, .int .u8 0, .string ⟨#[120, 50]⟩, .string ⟨#[99, 49]⟩, .slice none 0 0, .int .i64 0, .int .i64 0, .int .u8 6, .int .u8 0, .string ⟨#[]⟩, .string ⟨#[99, 48]⟩, .slice (some ⟨b + 1, 0, none⟩) 1 1, .int .i64 0, .int .i64 0] 44)).heap.size = b + 1 + 1 + 1 := by simp [hb]
  have k3 := (Below.refl _ (((w.alloc (.cells #[.string ⟨#[99, 48]⟩, .string ⟨#[99, 49]⟩] 9)).alloc (.cells #[.string ⟨#[120, 50]⟩, .int .u64 0] 47)).alloc (.cells #[.int .u8 5, .int .u8 0, .string ⟨#[120, 50]⟩, .string ⟨#[99, 49]⟩, .slice none 0 0, .int .i64 0, .int .i64 0, .int .u8 6, .int .u8 0, .string ⟨#[]⟩, .string ⟨#[99, 48]⟩, .slice (some ⟨b + 1, 0, none⟩) 1 1, .int .i64 0, .int .i64 0] 44))).alloc (Nat.le_refl _) (.cells #[.int .i64 2, .slice (some ⟨b, 0, none⟩) 2 2, .slice none 0 0, .slice none 0 0, .slice (some ⟨b + 1 + 1, 0, none⟩) 2 2] 28)
  have h0 := heap_alloc_new w (.cells #[.string ⟨#[99, 48]⟩, .string ⟨#[99, 49]⟩] 9)
  have h1 := heap_alloc_new (w.alloc (.cells #[.string ⟨#[99, 48]⟩, .string ⟨#[99, 49]⟩] 9)) (.cells #[.string ⟨#[120, 50]⟩, .int .u64 0] 47)
  have h2 := heap_alloc_new ((w.alloc (.cells #[.string ⟨#[99, 48]⟩, .string ⟨#[99, 49]⟩] 9)).alloc (.cells #[.string ⟨#[120, 50]⟩, .int .u64 0] 47)) (.cells #[.int .u8 5, .int .u8 0, .string ⟨#[120, 50]⟩, .string ⟨#[99, 49]⟩, .slice none 0 0, .int .i64 0, .int .i64 0, .int .u8 6, .int .u8 0, .string ⟨#[]⟩, .string ⟨#[99, 48]⟩, .slice (some ⟨b + 1, 0, none⟩) 1 1, .int .i64 0, .int .i64 0] 44)
  have h3 := heap_alloc_new (((w.alloc (.cells #[.string ⟨#[99, 48]⟩, .string ⟨#[99, 49]⟩] 9)).alloc (.cells #[.string ⟨#[120, 50]⟩, .int .u64 0] 47)).alloc (.cells #[.int .u8 5, .int .u8 0, .string ⟨#[120, 50]⟩, .string ⟨#[99, 49]⟩, .slice none 0 0, .int .i64 0, .int .i64 0, .int .u8 6, .int .u8 0, .string ⟨#[]⟩, .string ⟨#[99, 48]⟩, .slice (some ⟨b + 1, 0, none⟩) 1 1, .int .i64 0, .int .i64 0] 44)) (.cells #[.int .i64 2, .slice (some ⟨b, 0, none⟩) 2 2, .slice none 0 0, .slice none 0 0, .slice (some ⟨b + 1 + 1, 0, none⟩) 2 2] 28)
  have HB : Hid (Below w.heap.size w ((((w.alloc (.cells #[.string ⟨#[99, 48]⟩, .string ⟨#[99, 49]⟩] 9)).alloc (.cells #[.string ⟨#[120, 50]⟩, .int .u64 0] 47)).alloc (.cells #[.int .u8 5, .int .u8 0, .string ⟨#[120, 50]⟩, .string ⟨#[99, 49]⟩, .slice none 0 0, .int .i64 0, .int .i64 0, .int .u8 6, .int .u8 0, .string ⟨#[]⟩, .string ⟨#[99, 48]⟩, .slice (some ⟨b + 1, 0, none⟩) 1 1, .int .i64 0, .int .i64 0] 44)).alloc (.cells #[.int .i64 2, .slice (some ⟨b, 0, none⟩) 2 2, .slice none 0 0, .slice none 0 0, .slice (some ⟨b + 1 + 1, 0, none⟩) 2 2] 28))) := bcomp (bcomp (bcomp k0 k1) k2) k3
  rw [e1] at h1
  rw [e2] at h2
  rw [e3] at h3
  rw [hb] at h0
  have HK : Hid (RdProg none ((((w.alloc (.cells #[.string ⟨#[99, 48]⟩, .string ⟨#[99, 49]⟩] 9)).alloc (.cells #[.string ⟨#[120, 50]⟩, .int .u64 0] 47)).alloc (.cells #[.int .u8 5, .int .u8 0, .string ⟨#[120, 50]⟩, .string ⟨#[99, 49]⟩, .slice none 0 0, .int .i64 0, .int .i64 0, .int .u8 6, .int .u8 0, .string ⟨#[]⟩, .string ⟨#[99, 48]⟩, .slice (some ⟨b + 1, 0, none⟩) 1 1, .int .i64 0, .int .i64 0] 44)).alloc (.cells #[.int .i64 2, .slice (some ⟨b, 0, none⟩) 2 2, .slice none 0 0, .slice none 0 0, .slice (some ⟨b + 1 + 1, 0, none⟩) 2 2] 28)) knownP (.slice (some ⟨b, 0, none⟩) 2 2) (.slice none 0 0) (.slice none 0 0) (.slice (some ⟨b + 1 + 1, 0, none⟩) 2 2)) := by
    refine known_rd (b1 := b + 1) ?_ ?_ ?_
    · exact ((bcomp (bcomp k1 k2) k3).block b (by omega)).trans h0
    · exact ((bcomp k2 k3).block (b + 1) (by omega)).trans h1
    · exact (k3.block (b + 1 + 1) (by omega)).trans h2
  have HP := Lib.hid h3
  clear k0 k1 k2 k3 h0 h1 h2 h3 e1 e2 e3
  go_enter Tryz.func5, Tryz.ntmps5
  go_upto_region 2 with fail
  rw [hb] at HB
  generalize (((w.alloc (.cells #[.string ⟨#[99, 48]⟩, .string ⟨#[99, 49]⟩] 9)).alloc (.cells #[.string ⟨#[120, 50]⟩, .int .u64 0] 47)).alloc (.cells #[.int .u8 5, .int .u8 0, .string ⟨#[120, 50]⟩, .string ⟨#[99, 49]⟩, .slice none 0 0, .int .i64 0, .int .i64 0, .int .u8 6, .int .u8 0, .string ⟨#[]⟩, .string ⟨#[99, 48]⟩, .slice (some ⟨b + 1, 0, none⟩) 1 1, .int .i64 0, .int .i64 0] 44)).alloc (.cells #[.int .i64 2, .slice (some ⟨b, 0, none⟩) 2 2, .slice none 0 0, .slice none 0 0, .slice (some ⟨b + 1 + 1, 0, none⟩) 2 2] 28) = W at *
  have hpx := (Array.getElem?_eq_some_iff.1 HP.out).1
  have q0 := keepS_cell (S := [b + 1 + 1 + 1]) (by simp) (row_of HP.out 0 _ rfl)
  have q1 := keepS_cell (S := [b + 1 + 1 + 1]) (by simp) (row_of HP.out 1 _ rfl)
  have q2 := keepS_cell (S := [b + 1 + 1 + 1]) (by simp) (row_of HP.out 2 _ rfl)
  have q3 := keepS_cell (S := [b + 1 + 1 + 1]) (by simp) (row_of HP.out 3 _ rfl)
  have q4 := keepS_cell (S := [b + 1 + 1 + 1]) (by simp) (row_of HP.out 4 _ rfl)
  refine wp_region_mixS [b + 1 + 1 + 1] (.one [1] 0 (.one [] 2 (tailOf [3]))) (fun j => decide (3 ≤ j)) (by kernel_rfl) (by kernel_rfl) rfl (by kernel_rfl) (fun _ d _ _ _ h => by cases d <;> exact h) ?_
  have HBd : Hid (Below W.heap.size W W.drew) := (Below.refl _ _).drew
  generalize W.drew = y0 at *
  have ONE : Hid (∀ z : World, z.heap[b + 1 + 1 + 1]? = W.heap[b + 1 + 1 + 1]? → ∀ c ∈ [b + 1 + 1 + 1], z.heap[c]? = W.heap[c]?) := fun z hz c hc => by
    simp only [List.mem_cons, List.not_mem_nil, or_false] at hc
    subst hc
    exact hz
  have HKn := Lib.hid (ONE.out y0 (HBd.out.block _ hpx))
  refine mix_one (by simp only [opsOf, List.filterMap_cons, List.filterMap_nil, List.getElem?_toArray, List.getElem?_cons_succ, List.getElem?_cons_zero]; rfl) ⟨_, keepS_of HKn.out⟩ ?_
  change wpQuiet _ _ _ _ [_] _
  (repeat (go_big_quiet_step (fail)))
  refine wpQuiet_nil ?_
  clear q0 q1 q2 q3 q4
  have HPR := Lib.hid (prog_any knownB y0)
  refine mix_step rfl ?_
  go_wp2_with (go_at_call 12; refine HPR.out.mono ?_; rintro e y1 ⟨cv, av, fv, mv, rfl, hr1, hb1⟩)
  have HB1 := Lib.hid (bcomp HBd.out hb1)
  have HR1 := Lib.hid (hr1.forget)
  have HK1 := Lib.hid (ONE.out y1 (HB1.out.block _ hpx))
  (first | refine ⟨fun _ => ⟨_, keepS_of HK1.out⟩, ?_⟩ | refine ⟨⟨_, keepS_of HK1.out⟩, ?_⟩)
  have HEQ := equalProg (progS knownB) knownP cv av fv mv _ _ _ _ y1 HR1.out (HK.out.keep HB1.out)
  rw [known_eq] at HEQ
  have HEQ := Lib.hid HEQ
  refine mix_now ?_
  refine mix_step rfl ?_
  go_wp2_with (go_at_call 11; refine HEQ.out.mono ?_; rintro e y2 ⟨rfl, hb2⟩)
  have HB2 := Lib.hid (bcomp HB1.out hb2)
  have HK2 := Lib.hid (ONE.out y2 (HB2.out.block _ hpx))
  (first | refine ⟨fun _ => ⟨_, keepS_of HK2.out⟩, ?_⟩ | refine ⟨⟨_, keepS_of HK2.out⟩, ?_⟩)
  refine mix_tail [3] [_] _ _ rfl rfl ?_
  go_wp2_with fail
  go_ret
  exact ⟨rfl, by rw [hb]; exact HB.out.trans (HB2.out.mono (by have := HB.out.size; omega))⟩
theorem infoSl (e : TypeId) (h : (Tryz.prog.info? e).map (fun i => (i.zero, i.size, i.bytes)) = some (some (.slice none 0 0), 1, 24)) : ∃ i, Tryz.prog.info? e = some i ∧ i.size = 1 := by
  cases hi : Tryz.prog.info? e with
  | none => rw [hi] at h; simp at h
  | some i => rw [hi] at h; simp at h; exact ⟨i, rfl, h.2.1⟩
/-- The field of the instructions of a program's value. -/
theorem fieldMain (v0 v1 v2 v3 v4 : Value) (w : World) : (Instr.field 28 (.agg #[v0, v1, v2, v3, v4]) 4).run Tryz.prog w = .ok v4 w := by
  obtain ⟨i0, hi0, _, hs0, _⟩ := info_parts (P := Tryz.prog) (e := 3) (z := .int .i64 0) (size := 1) (bytes := 8) (by kernel_rfl)
  obtain ⟨i1, hi1, hs1⟩ := infoSl 23 (by kernel_rfl)
  obtain ⟨i2, hi2, hs2⟩ := infoSl 24 (by kernel_rfl)
  obtain ⟨i3, hi3, hs3⟩ := infoSl 25 (by kernel_rfl)
  obtain ⟨i4, hi4, hs4⟩ := infoSl 26 (by kernel_rfl)
  have hag : (isAgg 26).run Tryz.prog w = .ok false w := by
    unfold isAgg
    rw [Sem.run_bind, run_underlying Tryz.underlying26 w]
    simp
  simp [Instr.field, asAgg, Sem.run_bind, run_underlying Tryz.underlying28, part, hag, sizeOf, typeInfo, hi0, hs0, hi1, hs1, hi2, hs2, hi3, hs3, hi4, hs4]
theorem RdInstrs.at' {lo : Option (Nat → Prop)} {w : World} {v : Value} {l : List InstrD} (h : RdInstrs lo w v l) {i : Nat} {s : InstrD} (hi : l[i]? = some s) : ∃ b o c av, v = .slice (some ⟨b, o, none⟩) l.length c ∧ w.cell? ⟨b, o + i * 7, none⟩ = some (.int .u8 s.kind) ∧ w.cell? ⟨b, o + i * 7 + 1, none⟩ = some (.int .u8 s.op) ∧ w.cell? ⟨b, o + i * 7 + 2, none⟩ = some (.string s.dst) ∧ w.cell? ⟨b, o + i * 7 + 3, none⟩ = some (.string s.name) ∧ w.cell? ⟨b, o + i * 7 + 4, none⟩ = some av ∧ w.cell? ⟨b, o + i * 7 + 5, none⟩ = some (.int .i64 s.line) ∧ w.cell? ⟨b, o + i * 7 + 6, none⟩ = some (.int .i64 s.col) ∧ RdInstr lo w s av := by
  obtain ⟨a, c, rfl, -, hr⟩ := h
  obtain ⟨b, o, av, rfl, -, h0, h1, h2, h3, h4, h5, h6, h7⟩ := hr i s hi
  exact ⟨b, o, c, av, rfl, h0, h1, h2, h3, h4, h5, h6, h7⟩
theorem own_instrsN {w : World} {base : Nat} {v : Value} {l : List InstrD} {P : List (InstrD × Value)} (hP : P.map Prod.fst = l) (h : w.ownsRow base 44 7 v l.length (P.flatMap insCells)) (hl : l.length * 80 ≤ 140737488351232) (hs : ∀ p ∈ P, RdInstr none w p.1 p.2) : RdInstrs none w v l := by
  have hlen : P.length = l.length := by rw [← hP, List.length_map]
  obtain ⟨a, c, rfl, _⟩ := own_read h
  refine ⟨a, c, rfl, ⟨hl, own_cap h⟩, fun i s hi => ?_⟩
  have hi' : i < P.length := by rw [hlen]; exact (List.getElem?_eq_some_iff.1 hi).1
  obtain ⟨p, hp⟩ : ∃ p, P[i]? = some p := ⟨_, List.getElem?_eq_getElem hi'⟩
  have hps : p.1 = s := by
    have : (P.map Prod.fst)[i]? = some p.1 := by rw [List.getElem?_map, hp]; rfl
    rw [hP, hi] at this; exact (Option.some.inj this).symm
  obtain ⟨g, c', e', hf, hc⟩ := own_at h (by rw [flat_length insCells 7 (fun _ => rfl)]; omega)
  simp only [Value.slice.injEq] at e'
  obtain ⟨rfl, _, _⟩ := e'
  have hg : ∀ j, j < 7 → (P.flatMap insCells)[i * 7 + j]? = (insCells p)[j]? := fun j hj => flat_get insCells 7 (fun _ => rfl) P i j p hp hj
  subst hps
  exact ⟨g, 0, p.2, rfl, Free.none _ _ _, hc _ _ (hg 0 (by omega)), hc _ _ (hg 1 (by omega)), hc _ _ (hg 2 (by omega)), hc _ _ (hg 3 (by omega)), hc _ _ (hg 4 (by omega)), hc _ _ (hg 5 (by omega)), hc _ _ (hg 6 (by omega)), hs p (List.mem_of_getElem? hp)⟩
theorem bare_step {l : List InstrD} {i : Nat} {x : InstrD} (h : l[i]? = some x) : bareS (l.take (i + 1)) = bareS (l.take i) ++ (if x.kind = 10 then [] else [x]) := by
  unfold bareS
  rw [List.take_add_one, h, List.filter_append]
  by_cases hk : x.kind = 10 <;> simp [hk]
end Go.Proofs.YtfdinncgncbmfaaGreatDoor
