/- Contracts of the program's element, load and store of a run. Conditions: the run lies at the pointer, and the instruction is one that may be done. -/
import Derived.Test.YtkjkpddajjmloaaDoorMMd
set_option linter.unusedVariables false
set_option linter.unusedSimpArgs false
namespace Go.Proofs.YtkjkpddajjmloaaDoor
open Go.ChangeShapes Go.WideShapes Go.ChangeAt Go.RowKit
theorem Mem.av_is {G I : Nat → Prop} {w : World} {f : FlatD} {ins : List (List Int)} {m : MachD} {kv iv av ov rv bv : Value} {gb db : Nat} {bs : List Nat} (h : Mem G I w f ins m kv iv av ov rv bv gb db bs) : ∃ a c, av = .slice a m.arrs.length c := by
  obtain ⟨a, c, e⟩ := h.arrs.is
  exact ⟨a, c, by rw [e, List.length_zip, List.length_map, h.blen, Nat.min_self]⟩
/-- What one finds at an array. -/
theorem Mem.arr_at {G I : Nat → Prop} {w : World} {f : FlatD} {ins : List (List Int)} {m : MachD} {kv iv ov rv bv : Value} {a : Option Addr} {c : Nat} {gb db : Nat} {bs : List Nat} (h : Mem G I w f ins m kv iv (.slice a m.arrs.length c) ov rv bv gb db bs) {n : Nat} {l : List Int} (hl : m.arrs[n]? = some l) :
    ∃ ob oo b, a = some ⟨ob, oo, none⟩ ∧ bs[n]? = some b ∧ w.cell? ⟨ob, oo + n, none⟩ = some (.slice (some ⟨b, 0, none⟩) l.length l.length) ∧ w.heap[b]? = some (.cells (u64s l) 55 (0, 0)) := by
  have hn : n < bs.length := by rw [h.blen]; exact (List.getElem?_eq_some_iff.1 hl).1
  obtain ⟨b, hb⟩ : ∃ b, bs[n]? = some b := ⟨_, List.getElem?_eq_getElem hn⟩
  obtain ⟨ob, oo, e, _, hc, _⟩ := RdRow.at h.arrs (i := n) (x := (b, l.length)) (by rw [List.getElem?_zip_eq_some]; exact ⟨hb, by rw [List.getElem?_map, hl]; rfl⟩)
  have := hc 0 _ rfl
  rw [Nat.mul_one, Nat.add_zero] at this
  exact ⟨ob, oo, b, e, hb, this, h.rows n b l hb hl⟩
/-- What element returns. -/
def ElemSaid (G : Nat → Prop) (w w' : World) (bm : Nat) (f : FlatD) (ins : List (List Int)) (m : MachD) (c : CodeD) (bs : List Nat) (e : Ending) : Prop :=
  (∃ x b, elemM m c = some x ∧ bs[c.n.toNat]? = some b ∧ e = .returned (.pointer (some ⟨b, (valM m c.a).toNat, none⟩)) ∧ Below w.heap.size w w') ∨
    (elemM m c = none ∧ e = .returned (.pointer none) ∧ Post G w w' bm f ins (endM m 1))
set_option maxRecDepth 100000 in
set_option maxHeartbeats 1600000 in
theorem machElement {G I : Nat → Prop} {w : World} {bm : Nat} {f : FlatD} {ins : List (List Int)} {m : MachD} {c8 c9 c10 kv iv av ov rv bv : Value} {gb db : Nat} {bs : List Nat} (h : MachAt G I w bm f ins m c8 c9 c10 kv iv av ov rv bv gb db bs) (c : CodeD) (hl : m.regs.length ≤ 2097152) (ha : RefIn m c.a) (hv : ∀ x ∈ m.regs, InU64 x) (hp : 0 ≤ m.pc) (hp1 : m.pc ≤ 4096) (hn0 : 0 ≤ c.n) (hn1 : c.n < m.arrs.length) (hla : ∀ l ∈ m.arrs, l.length ≤ 64) :
    Calls Tryd.prog 155 #[.pointer (some ⟨bm, 0, none⟩), codeV c] w fun e w' => ElemSaid G w w' bm f ins m c bs e := by
  obtain ⟨ck, co, cd, cn, cra, crb⟩ := c
  obtain ⟨n, rfl⟩ : ∃ n : Nat, cn = n := ⟨cn.toNat, by simp only at hn0; omega⟩
  simp only at ha hn0 hn1
  obtain ⟨l, hll⟩ : ∃ l, m.arrs[n]? = some l := ⟨_, List.getElem?_eq_getElem (by omega)⟩
  have hlen := hla l (List.mem_of_getElem? hll)
  obtain ⟨aa, ac, rfl⟩ := h.mem.av_is
  have hia := valM_in ha hv
  obtain ⟨va, hva⟩ : ∃ va : Nat, valM m cra = va := ⟨(valM m cra).toNat, by have := hia.1; omega⟩
  have hel : elemM m ⟨ck, co, cd, n, cra, crb⟩ = l[va]? := by show ((m.arrs[(n : Int).toNat]?).bind fun l => l[(valM m cra).toNat]?) = _; rw [Int.toNat_natCast, hll, hva]; rfl
  have hb : Below w.heap.size w (w.alloc (.cells #[.int .u8 ck, .int .u8 co, .int .i64 cd, .int .i64 n, .int .i64 cra.reg, .int .u64 cra.num, .int .i64 crb.reg, .int .u64 crb.num] 103)) := (Below.refl _ _).alloc (Nat.le_refl _) _
  have hgb := heap_alloc_new w (.cells #[.int .u8 ck, .int .u8 co, .int .i64 cd, .int .i64 n, .int .i64 cra.reg, .int .u64 cra.num, .int .i64 crb.reg, .int .u64 crb.num] 103)
  have h1 := h.keep hb
  have hlt : bm < w.heap.size := (Array.getElem?_eq_some_iff.1 h.box).1
  have hu : (va : Int) < 18446744073709551616 := by have := hia.2; omega
  go_enter Tryd.func155, Tryd.ntmps155
  go_upto_region 1 with fail
  generalize w.alloc (.cells #[.int .u8 ck, .int .u8 co, .int .i64 cd, .int .i64 n, .int .i64 cra.reg, .int .u64 cra.num, .int .i64 crb.reg, .int .u64 crb.num] 103) = W at *
  have HB := Lib.hid hb
  have HG := Lib.hid hgb
  have k4 := row_of hgb 4 (.int .i64 cra.reg) rfl
  have k5 := row_of hgb 5 (.int .u64 cra.num) rfl
  have HV := Lib.hid (machValue h1 cra ha hl)
  rw [hva] at HV
  have H1 := Lib.hid h1
  have HVA := Lib.hid hva
  clear h hb hgb h1 ha hva hia
  go_upto_region 2 with (go_at_call 153; refine HV.out.mono ?_; rintro e w2 ⟨rfl, hb2⟩)
  have H2 := Lib.hid (H1.out.keep hb2)
  have HG2 := Lib.hid ((hb2.block _ (Array.getElem?_eq_some_iff.1 HG.out).1).trans HG.out)
  have HB2 := Lib.hid (bcomp HB.out hb2)
  obtain ⟨ob, oo, b, rfl, hbn, cA, hrow⟩ := H2.out.mem.arr_at hll
  have l14 := row_of H2.out.box 14 _ rfl
  have k3 := row_of HG2.out 3 (.int .i64 n) rfl
  have hi : (n : Int) < (m.arrs.length : Int) := hn1
  have HBN := Lib.hid hbn
  have HEL := Lib.hid hel
  have HLL := Lib.hid hll
  clear hb2 k4 k5 hbn hel hll hrow
  by_cases hge : (l.length : Int) ≤ (va : Int)
  · have HN : Hid (elemM m ⟨ck, co, cd, n, cra, crb⟩ = none) := by show _ = _; rw [HEL.out, List.getElem?_eq_none (by omega)]
    have HE := Lib.hid (fun q => machEnd (H2.out.keep (below_drewN (Below.refl w2.heap.size w2) q)) 1 rfl hp hp1)
    go_quiet (fail)
    go_wp2_with (go_at_call 157; refine (HE.out _).mono ?_; rintro e w3 ⟨rfl, hp3⟩)
    go_ret
    exact .inr ⟨HN.out, rfl, hp3.under (below_drewN HB2.out _)⟩
  · have hlt2 : (va : Int) < (l.length : Int) := by omega
    obtain ⟨x, hx⟩ : ∃ x, l[va]? = some x := ⟨_, List.getElem?_eq_getElem (by omega)⟩
    have HN : Hid (elemM m ⟨ck, co, cd, n, cra, crb⟩ = some x) := by show _ = _; rw [HEL.out, hx]
    clear hx
    go_quiet (fail)
    go_upto_region 5 with fail
    go_quiet (fail)
    go_wp2
    go_ret
    exact .inl ⟨x, b, HN.out, HBN.out, by rw [HVA.out]; rfl, below_drewN HB2.out _⟩
set_option maxRecDepth 100000 in
set_option maxHeartbeats 1600000 in
theorem machLoad {G I : Nat → Prop} {w : World} {bm : Nat} {f : FlatD} {ins : List (List Int)} {m : MachD} {c8 c9 c10 kv iv av ov rv bv : Value} {gb db : Nat} {bs : List Nat} (h : MachAt G I w bm f ins m c8 c9 c10 kv iv av ov rv bv gb db bs) (c : CodeD) (hl : m.regs.length ≤ 2097152) (ha : RefIn m c.a) (hv : ∀ x ∈ m.regs, InU64 x) (hp : 0 ≤ m.pc) (hp1 : m.pc ≤ 4096) (hn0 : 0 ≤ c.n) (hn1 : c.n < m.arrs.length) (hla : ∀ l ∈ m.arrs, l.length ≤ 64) (hd0 : 0 ≤ c.dst) (hd1 : c.dst < m.regs.length) :
    Calls Tryd.prog 145 #[.pointer (some ⟨bm, 0, none⟩), codeV c] w fun e w' => e = .returned (.tuple #[]) ∧ Post G w w' bm f ins (doM f ins c m 2) := by
  obtain ⟨ck, co, cd, cn, cra, crb⟩ := c
  obtain ⟨d, rfl⟩ : ∃ d : Nat, cd = d := ⟨cd.toNat, by simp only at hd0; omega⟩
  simp only at hd0 hd1
  obtain ⟨y, hy⟩ : ∃ y, m.regs[d]? = some y := ⟨_, List.getElem?_eq_getElem (by omega)⟩
  have hb : Below w.heap.size w (w.alloc (.cells #[.int .u8 ck, .int .u8 co, .int .i64 d, .int .i64 cn, .int .i64 cra.reg, .int .u64 cra.num, .int .i64 crb.reg, .int .u64 crb.num] 103)) := (Below.refl _ _).alloc (Nat.le_refl _) _
  have hgb := heap_alloc_new w (.cells #[.int .u8 ck, .int .u8 co, .int .i64 d, .int .i64 cn, .int .i64 cra.reg, .int .u64 cra.num, .int .i64 crb.reg, .int .u64 crb.num] 103)
  have h1 := h.keep hb
  have hlt : bm < w.heap.size := (Array.getElem?_eq_some_iff.1 h.box).1
  have HE := Lib.hid (machElement h1 ⟨ck, co, d, cn, cra, crb⟩ hl ha hv hp hp1 hn0 hn1 hla)
  have hia := valM_in ha hv
  have hres : Hid (doM f ins ⟨ck, co, d, cn, cra, crb⟩ m 2 = match elemM m ⟨ck, co, d, cn, cra, crb⟩ with | some x => setR m d x | none => endM m 1) := rfl
  go_enter Tryd.func145, Tryd.ntmps145
  go_upto_region 1 with fail
  generalize w.alloc (.cells #[.int .u8 ck, .int .u8 co, .int .i64 d, .int .i64 cn, .int .i64 cra.reg, .int .u64 cra.num, .int .i64 crb.reg, .int .u64 crb.num] 103) = W at *
  have HB := Lib.hid hb
  have HG := Lib.hid hgb
  have k0 := row_of hgb 0 (.int .u8 ck) rfl
  have k1 := row_of hgb 1 (.int .u8 co) rfl
  have k2 := row_of hgb 2 (.int .i64 d) rfl
  have k3 := row_of hgb 3 (.int .i64 cn) rfl
  have k4 := row_of hgb 4 (.int .i64 cra.reg) rfl
  have k5 := row_of hgb 5 (.int .u64 cra.num) rfl
  have k6 := row_of hgb 6 (.int .i64 crb.reg) rfl
  have k7 := row_of hgb 7 (.int .u64 crb.num) rfl
  have H1 := Lib.hid h1
  have HX := Lib.hid hy
  clear h hb hgb h1 ha hy
  go_upto_region 2 with (go_at_call 155; refine HE.out.mono ?_; intro e w2 hsaid; rcases hsaid with ⟨x, b, hx, hbb, rfl, hb2⟩ | ⟨hx, rfl, hp2⟩)
  · have H2 := Lib.hid (H1.out.keep hb2)
    have HG2 := Lib.hid ((hb2.block _ (Array.getElem?_eq_some_iff.1 HG.out).1).trans HG.out)
    have HB2 := Lib.hid (bcomp HB.out hb2)
    have hres2 : Hid (doM f ins ⟨ck, co, d, cn, cra, crb⟩ m 2 = setR m d x) := by show _ = _; rw [hres.out, hx]
    have hxl : Hid (∃ l, m.arrs[cn.toNat]? = some l ∧ l[(valM m cra).toNat]? = some x) := by
      show ∃ l, _
      have : ((m.arrs[cn.toNat]?).bind fun l => l[(valM m cra).toNat]?) = some x := hx
      cases hl2 : m.arrs[cn.toNat]? with
      | none => rw [hl2] at this; cases this
      | some l => rw [hl2] at this; exact ⟨l, rfl, this⟩
    obtain ⟨l, hl2, hl3⟩ := hxl.out
    have hrow := H2.out.mem.rows _ b l hbb hl2
    have cE := ext_cell (row_of hrow _ _ (u64s_get _ _ _ hl3))
    have l13 := ext_cell (row_of H2.out.box 13 _ rfl)
    have k2 := ext_cell (row_of HG2.out 2 (.int .i64 d) rfl)
    have hi : (d : Int) < (m.regs.length : Int) := hd1
    clear hb2 hx hbb hl2 hl3 hrow hxl k0 k1 k3 k4 k5 k6 k7
    go_upto_region 3 with fail
    (refine wp_region_calm_tail 9 (by kernel_rfl) (by kernel_rfl) ?_; simp only [List.take_succ_cons, List.take_zero, List.drop_succ_cons, List.drop_zero]; (repeat (go_big_quiet_step (fail))); refine wpQuiet_nil ?_; intro wc hwc)
    have H3 := H2.out.keep hwc
    have cg := row_of H3.mem.regs d _ (u64s_get _ _ _ HX.out)
    have fg := frozen_of_row wc gb d _ _ H3.mem.regs
    have HP := Lib.hid (H3.setReg d x)
    have hT : Hid (Turn G w (wc.setCell ⟨gb, (d : Int).toNat, none⟩ (.int .u64 x))) := ((Turn.of_below HB2.out).trans (Turn.of_below hwc)).setCell H3.mem.sep.1 _
    clear H3 hwc cE l13 k2
    go_wp2
    go_end0
    exact ⟨rfl, by rw [hres2.out]; exact post_of HP.out hT.out⟩
  · have hres2 : Hid (doM f ins ⟨ck, co, d, cn, cra, crb⟩ m 2 = endM m 1) := by show _ = _; rw [hres.out, hx]
    clear hx
    go_wp2
    go_end0
    exact ⟨rfl, by rw [hres2.out]; exact hp2.under HB.out⟩
end Go.Proofs.YtkjkpddajjmloaaDoor
