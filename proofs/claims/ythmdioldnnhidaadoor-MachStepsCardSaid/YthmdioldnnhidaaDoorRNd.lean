/- Contract of the reference's Run. Conditions: what comes in reads as the flat program and the inputs. -/
import Derived.Test.YthmdioldnnhidaaDoorRNc
set_option linter.unnecessarySimpa false
set_option linter.unusedVariables false
set_option linter.unusedSimpArgs false
namespace Go.Proofs.YthmdioldnnhidaaDoor
open Go.ChangeShapes Go.WideShapes Go.ChangeAt Go.RowKit
theorem RefIn0.mono {G G' : Nat → Prop} {w : World} {bm : Nat} {f : FlatD} {ins : List (List Int)} {m : MachD} (h : RefIn0 G w bm f ins m) (k : ∀ b, G b → G' b) : RefIn0 G' w bm f ins m := by
  obtain ⟨I, c2, c3, c4, kv, iv, av, ov, rv, bv, gb, db, bs, h⟩ := h
  exact ⟨I, c2, c3, c4, kv, iv, av, ov, rv, bv, gb, db, bs, h.mono k⟩
theorem RefIn0.same {G : Nat → Prop} {w w' : World} {bm : Nat} {f : FlatD} {ins : List (List Int)} {m : MachD} (h : RefIn0 G w bm f ins m) (k : ∀ b, G b → b < w.heap.size → w'.heap[b]? = w.heap[b]?) : RefIn0 G w' bm f ins m := by
  obtain ⟨I, c2, c3, c4, kv, iv, av, ov, rv, bv, gb, db, bs, h⟩ := h
  exact ⟨I, c2, c3, c4, kv, iv, av, ov, rv, bv, gb, db, bs, h.same k⟩
/-- A run of the reference's that lies in memory from n0 on. -/
def RefNw (n0 : Nat) (w : World) (bm : Nat) (f : FlatD) (ins : List (List Int)) (m : MachD) : Prop := RefIn0 (fun b => n0 ≤ b ∧ b < w.heap.size) w bm f ins m
theorem RefNw.keep {n0 : Nat} {w w' : World} {bm : Nat} {f : FlatD} {ins : List (List Int)} {m : MachD} (h : RefNw n0 w bm f ins m) (k : Below w.heap.size w w') : RefNw n0 w' bm f ins m :=
  (RefIn0.same h fun b _ hl => k.block b hl).mono fun b hb => ⟨hb.1, Nat.lt_of_lt_of_le hb.2 k.size⟩
/-- A step of a run of the reference's that lies in memory from n0 on. -/
theorem stepRef {a w : World} {bm : Nat} {f : FlatD} {ins : List (List Int)} {m : MachD} (h : RefNw a.heap.size w bm f ins m) (hb : Below a.heap.size a w) (hh : HeadP f) {k : Nat} (g : Going f m k) (hk : k < 1000000) (hins : ins.length ≤ 1000) :
    Calls Tryd.prog 24 #[.pointer (some ⟨bm, 0, none⟩)] w fun e w' => e = .returned (.bool (m.t.status == 2)) ∧ RefNw a.heap.size w' bm f ins (stepM f ins m) ∧ Below a.heap.size a w' := by
  obtain ⟨I, c2, c3, c4, kv, iv, av, ov, rv, bv, gb, db, bs, h⟩ := h
  refine (refStep h hh g.good hins (fun b hb => hb.2) (by have := g.steps; omega) g.pc0 g.pc1).mono fun e w' ⟨he, hp⟩ => ⟨he, ?_, hp.2.below hb fun _ h => h.1⟩
  exact hp.1.mono fun b hb' => hb'.elim (fun h => ⟨h.1, Nat.lt_of_lt_of_le h.2 hp.2.size⟩) (fun h => ⟨by have := hb.size; omega, h.2⟩)
theorem ints_in {W : World} {g : Nat} {l : List Int} {G : Nat → Prop} (hG : G g) (hg : W.heap[g]? = some (.cells (i64s l) 3 (0, 0))) (hz : l.length ≤ 1000) (hv : ∀ x ∈ l, InI64 x) : RdRow kInt (some G) W (.slice (some ⟨g, 0, none⟩) l.length l.length) l := by
  refine ⟨_, l.length, rfl, ⟨by show l.length * 8 ≤ _; omega, Nat.le_refl _⟩, fun i x hx => ⟨g, 0, rfl, Free.of hG hg, fun j u hj => ?_, hv x (List.mem_of_getElem? hx)⟩⟩
  have : j = 0 ∧ u = .int .i64 x := by
    cases j with
    | zero => simp [cellsInt] at hj; exact ⟨rfl, hj.symm⟩
    | succ j => simp [cellsInt] at hj
  obtain ⟨rfl, rfl⟩ := this
  have := row_of hg i _ (i64s_get l i x hx)
  simpa using this
/-- The trace of a run of the reference's, where it lies. -/
theorem RefAt.trace {G I : Nat → Prop} {w : World} {bm : Nat} {f : FlatD} {ins : List (List Int)} {m : MachD} {c2 c3 c4 kv iv av ov rv bv : Value} {gb db : Nat} {bs : List Nat} (h : RefAt G I w bm f ins m c2 c3 c4 kv iv av ov rv bv gb db bs) (hh : HeadP f) (g : Good f m) (hfew : m.t.steps ≤ 1000000) {n0 : Nat} (hG : ∀ b, G b → n0 ≤ b) :
    RdTrace (some (upFrom n0)) w m.t ov rv bv (.slice (some ⟨db, 0, none⟩) m.t.reads.length m.t.reads.length) := by
  have ho := (own_block (K := kEv) h.mem.outs (by show m.t.outs.length * 16 ≤ _; have := g.outs; omega) g.ov)
  have hr := (own_block (K := kEv) h.mem.rels (by show m.t.rels.length * 16 ≤ _; have := g.rels; omega) g.lv)
  have hb := (own_block (K := kBool) h.mem.brs (by show m.t.brs.length * 1 ≤ _; have := g.brs; omega) (fun _ _ => trivial))
  have hd := ints_in (G := G) h.mem.sep.2.2.1 h.mem.reads (by have := g.reads; have := hh.chans; omega) (fun x hx => by have := g.rd x hx; exact ⟨by omega, by omega⟩)
  have hst : InU8 m.t.status ∧ InI64 m.t.steps := ⟨by rcases g.st with e | e | e <;> rw [e] <;> exact ⟨by decide, by decide⟩, by have := g.steps; exact ⟨by omega, by omega⟩⟩
  exact ⟨ho.same (fun _ _ _ => rfl) (fun b _ e => hG b (h.mem.osep.1 b e).1), hr.same (fun _ _ _ => rfl) (fun b _ e => hG b (h.mem.osep.2.1 b e).1), hb.same (fun _ _ _ => rfl) (fun b _ e => hG b (h.mem.osep.2.2 b e).1), hd.same (fun _ _ _ => rfl) (fun b _ e => hG b e), hst⟩
theorem range_of {w : World} {b : Nat} {cs : Array Value} {T : TypeId} (h : w.heap[b]? = some (.cells cs T (0, 0))) (o : Nat) (l : List Value) (hl : (cs.toList.drop o).take l.length = l) : w.rangeAt b o l := fun j v hj => by
  refine row_of h (o + j) v ?_
  have hlt := (List.getElem?_eq_some_iff.1 hj).1
  rw [← hl, List.getElem?_take, if_pos hlt, List.getElem?_drop] at hj
  rw [← Array.getElem?_toList]; exact hj
/-- The trace of a run of the reference's that lies from n0 on: its cells in the box. -/
theorem RefNw.cells {n0 : Nat} {w : World} {bm : Nat} {f : FlatD} {ins : List (List Int)} {m : MachD} (h : RefNw n0 w bm f ins m) (hh : HeadP f) {k : Nat} (g : Going f m k) (hk : k ≤ 1000000) :
    ∃ xa1 xc1 xa2 xc2 xa3 xc3 db, w.rangeAt bm 10 [.int .u8 m.t.status, .int .i64 m.t.steps, .slice xa1 m.t.outs.length xc1, .slice xa2 m.t.rels.length xc2, .slice xa3 m.t.brs.length xc3, .slice (some ⟨db, 0, none⟩) m.t.reads.length m.t.reads.length] ∧ bm < w.heap.size ∧ RdTrace (some (upFrom n0)) w m.t (.slice xa1 m.t.outs.length xc1) (.slice xa2 m.t.rels.length xc2) (.slice xa3 m.t.brs.length xc3) (.slice (some ⟨db, 0, none⟩) m.t.reads.length m.t.reads.length) := by
  obtain ⟨I, c2, c3, c4, kv, iv, av, ov, rv, bv, gb, db, bs, h⟩ := h
  have ht := h.trace hh g.good (by have := g.steps; omega) (n0 := n0) (fun b hb => hb.1)
  obtain ⟨xa1, xc1, rfl⟩ := ht.1.is
  obtain ⟨xa2, xc2, rfl⟩ := ht.2.1.is
  obtain ⟨xa3, xc3, rfl⟩ := ht.2.2.1.is
  exact ⟨xa1, xc1, xa2, xc2, xa3, xc3, db, range_of h.box 10 _ rfl, (Array.getElem?_eq_some_iff.1 h.box).1, ht⟩
set_option maxRecDepth 100000 in
set_option maxHeartbeats 800000 in
theorem refRun (f : FlatD) (cv sv av kv iv : Value) (L : List (List Int)) (steps : Int) (w : World) (hF : RdFlat none w f cv sv av kv) (hI : RdLists none w iv L) (hst : InI64 steps) (hn : L.length ≤ 1000000) :
    Calls Tryd.prog 26 #[flatV f cv sv av kv, .int .i64 steps, iv] w (RunSaid (runT f L steps) (errRun f L.length steps) w) := by
  obtain ⟨er, her⟩ : ∃ er, errRun f L.length steps = er := ⟨_, rfl⟩
  obtain ⟨RT, hRT⟩ : ∃ RT, runT f L steps = RT := ⟨_, rfl⟩
  rw [her, hRT]
  rw [runT, her] at hRT
  obtain ⟨ca, cc, rfl⟩ := hF.1.is
  obtain ⟨sa, sc, rfl⟩ := hF.2.1.is
  obtain ⟨aa, ac, rfl⟩ := hF.2.2.1.is
  obtain ⟨ka, kc, rfl⟩ := hF.2.2.2.1.is
  obtain ⟨ia, ic, rfl⟩ := hI.is
  have hal := ((Below.refl w.heap.size w).alloc (Nat.le_refl _) (.cells #[.int .i64 f.width, .int .i64 f.regs, .slice ca f.chans.length cc, .slice sa f.sites.length sc, .slice aa f.arrays.length ac, .slice ka f.code.length kc] 26)).alloc (by simp) (.cells #[.int .u8 0, .int .i64 0, .slice none 0 0, .slice none 0 0, .slice none 0 0, .slice none 0 0] 49)
  have hbb := heap2_of (w := w) (A := (.cells #[.int .i64 f.width, .int .i64 f.regs, .slice ca f.chans.length cc, .slice sa f.sites.length sc, .slice aa f.arrays.length ac, .slice ka f.code.length kc] 26)) (B := (.cells #[.int .u8 0, .int .i64 0, .slice none 0 0, .slice none 0 0, .slice none 0 0, .slice none 0 0] 49)) (Below.refl _ _)
  have HF := Lib.hid (hF.keep hal)
  have HI := Lib.hid (hI.keep hal)
  have HG := Lib.hid hbb.1
  have HT := Lib.hid hbb.2.1
  have HB := Lib.hid hal
  clear hF hI hal hbb hst
  go_enter Tryd.func26, Tryd.ntmps26
  go_upto_region 1 with fail
  generalize ((w.alloc (.cells #[.int .i64 f.width, .int .i64 f.regs, .slice ca f.chans.length cc, .slice sa f.sites.length sc, .slice aa f.arrays.length ac, .slice ka f.code.length kc] 26)).alloc (.cells #[.int .u8 0, .int .i64 0, .slice none 0 0, .slice none 0 0, .slice none 0 0, .slice none 0 0] 49)) = W at *
  have hs1 : w.heap.size + 1 < W.heap.size := (Array.getElem?_eq_some_iff.1 HT.out).1
  have HZ := Lib.hid (fun w' => zeroT_rd (some (upFrom w.heap.size)) w')
  by_cases hr : steps < 1 ∨ 65536 < steps
  · have he : er = 3 := by rw [← her, errRun, if_pos hr]
    obtain rfl : RT = zeroT := by rw [← hRT, if_neg (by omega)]
    obtain rfl : er = 3 := he
    clear her hRT
    rcases hr with hr | hr
    · go_wp2_with (refine wpList_store_row rfl 49 (.tmp 6) (.tmp 17) rfl (w.heap.size + 1) #[.int .u8 0, .int .i64 0, .slice none 0 0, .slice none 0 0, .slice none 0 0, .slice none 0 0] rfl rfl 49 #[.int .u8 0, .int .i64 0, .slice none 0 0, .slice none 0 0, .slice none 0 0, .slice none 0 0] ?h1 (by as_aux_lemma => kernel_rfl) (by as_aux_lemma => kernel_rfl) (by as_aux_lemma => kernel_rfl) ?_; exact HT.out)
      refine bodyPost_ret (v := .tuple #[.agg #[.int .u8 0, .int .i64 0, .slice none 0 0, .slice none 0 0, .slice none 0 0, .slice none 0 0], .int .i64 3]) ?_ rfl ⟨_, _, _, _, rfl, HZ.out _, below_row HB.out (by omega) _⟩
      exact results_cell_tmp (P := Tryd.prog) (fn := Tryd.f26) rfl _ _ (w.heap.size + 1) 49 #[.int .u8 0, .int .i64 0, .slice none 0 0, .slice none 0 0, .slice none 0 0, .slice none 0 0] (0, 0) _ rfl (setRow_heap _ _ _ _ _ _ HT.out) Tryd.underlying49 rfl (by as_aux_lemma => kernel_rfl)
    · have hr0 : ¬ steps < 1 := by omega
      go_wp2_with (refine wpList_store_row rfl 49 (.tmp 6) (.tmp 17) rfl (w.heap.size + 1) #[.int .u8 0, .int .i64 0, .slice none 0 0, .slice none 0 0, .slice none 0 0, .slice none 0 0] rfl rfl 49 #[.int .u8 0, .int .i64 0, .slice none 0 0, .slice none 0 0, .slice none 0 0, .slice none 0 0] ?h2 (by as_aux_lemma => kernel_rfl) (by as_aux_lemma => kernel_rfl) (by as_aux_lemma => kernel_rfl) ?_; exact HT.out)
      refine bodyPost_ret (v := .tuple #[.agg #[.int .u8 0, .int .i64 0, .slice none 0 0, .slice none 0 0, .slice none 0 0, .slice none 0 0], .int .i64 3]) ?_ rfl ⟨_, _, _, _, rfl, HZ.out _, below_row HB.out (by omega) _⟩
      exact results_cell_tmp (P := Tryd.prog) (fn := Tryd.f26) rfl _ _ (w.heap.size + 1) 49 #[.int .u8 0, .int .i64 0, .slice none 0 0, .slice none 0 0, .slice none 0 0, .slice none 0 0] (0, 0) _ rfl (setRow_heap _ _ _ _ _ _ HT.out) Tryd.underlying49 rfl (by as_aux_lemma => kernel_rfl)
  · have hr1 : ¬ steps < 1 := by omega
    have hr2 : ¬ 65536 < steps := by omega
    have hee : errNew f L.length = er := by rw [← her, errRun, if_neg hr]
    clear her hr
    have g0 := row_of HG.out 0 (.int .i64 f.width) rfl
    have g1 := row_of HG.out 1 (.int .i64 f.regs) rfl
    have g2 := row_of HG.out 2 (.slice ca f.chans.length cc) rfl
    have g3 := row_of HG.out 3 (.slice sa f.sites.length sc) rfl
    have g4 := row_of HG.out 4 (.slice aa f.arrays.length ac) rfl
    have g5 := row_of HG.out 5 (.slice ka f.code.length kc) rfl
    by_cases hb : flatOk f = false ∨ f.chans.length < L.length
    · have hne : er ≠ 0 := by
        rw [← hee, errNew]
        rcases hb with h | h
        · rw [h]; simp
        · split <;> first | decide | (rw [if_pos h]; decide)
      obtain rfl : RT = zeroT := by rw [← hRT, if_neg hne]
      have he : (if flatOk f then (5 : Int) else 2) = er := by
        rw [← hee, errNew]
        rcases hb with h | h
        · rw [h]; rfl
        · rw [if_pos h]
      have HC := Lib.hid (refNewBad f _ _ _ _ ia L.length ic W HF.out hn hb)
      rw [he] at HC
      have hne1 : (er != 0) = true := by simpa using hne
      clear hRT he hee hb hne
      go_upto_region 5 with (go_at_call 14; refine HC.out.mono ?_; rintro e w2 ⟨rfl, hb2⟩)
      have HT2 := Lib.hid ((hb2.block _ (Array.getElem?_eq_some_iff.1 HT.out).1).trans HT.out)
      have HB2 := Lib.hid (bcomp HB.out hb2)
      clear hb2 g0 g1 g2 g3 g4 g5
      go_wp2_with (refine wpList_store_row rfl 49 (.tmp 6) (.tmp 26) rfl (w.heap.size + 1) #[.int .u8 0, .int .i64 0, .slice none 0 0, .slice none 0 0, .slice none 0 0, .slice none 0 0] rfl rfl 49 #[.int .u8 0, .int .i64 0, .slice none 0 0, .slice none 0 0, .slice none 0 0, .slice none 0 0] ?h3 (by as_aux_lemma => kernel_rfl) (by as_aux_lemma => kernel_rfl) (by as_aux_lemma => kernel_rfl) ?_; exact HT2.out)
      refine bodyPost_ret (v := .tuple #[.agg #[.int .u8 0, .int .i64 0, .slice none 0 0, .slice none 0 0, .slice none 0 0, .slice none 0 0], .int .i64 er]) ?_ rfl ⟨_, _, _, _, rfl, HZ.out _, below_row HB2.out (by omega) _⟩
      exact results_cell_tmp (P := Tryd.prog) (fn := Tryd.f26) rfl _ _ (w.heap.size + 1) 49 #[.int .u8 0, .int .i64 0, .slice none 0 0, .slice none 0 0, .slice none 0 0, .slice none 0 0] (0, 0) _ rfl (setRow_heap _ _ _ _ _ _ HT2.out) Tryd.underlying49 rfl (by as_aux_lemma => kernel_rfl)
    · have hok : flatOk f = true := by
        cases h : flatOk f
        · exact absurd (.inl h) hb
        · rfl
      have hle : L.length ≤ f.chans.length := by omega
      obtain rfl : er = 0 := by rw [← hee, errNew, if_pos hok, if_neg (by omega)]
      rw [if_pos rfl] at hRT
      have hh := headP hok
      have hci : ∀ c ∈ f.code, CodeIn c := HF.out.2.2.2.1.ok
      obtain ⟨n, rfl⟩ : ∃ n : Nat, steps = n := ⟨steps.toNat, by omega⟩
      rw [Int.toNat_natCast, runM, ← iterM_pad] at hRT
      have hins : L.length ≤ 1000 := by have := hh.chans; omega
      have HC := Lib.hid (refNew f _ _ _ _ _ L W HF.out HI.out hok hle)
      have HG' := Lib.hid (fun (k : Nat) => going_run (ins := L) hh hci k)
      have HH := Lib.hid hh
      have HIN := Lib.hid hins
      have HRT0 := Lib.hid hRT
      clear hok hh hci hins hRT hee hb
      go_upto_region 6 with (go_at_call 14; refine HC.out.mono ?_; rintro e w2 ⟨bm, rfl, hm2, hb2⟩)
      have HM2 : Hid (RefNw W.heap.size w2 bm f L (iterM f L 0 (newM f))) := hm2
      have HB2 := Lib.hid hb2
      clear hm2 hb2 g0 g1 g2 g3 g4 g5
      go_wp2_with fail
      go_loopw [10] (fun i wr => ∃ k : Nat, k ≤ n ∧ i = .int .i64 k ∧ RefNw W.heap.size wr bm f L (iterM f L k (newM f)) ∧ Below W.heap.size W wr) (fun i _ => n - (intOf i).toNat)
      case atStart => exact ⟨0, Nat.zero_le _, rfl, HM2.out, HB2.out⟩
      case round =>
        obtain ⟨k, hk, rfl, hmr, hbr⟩ := hrel
        have HTr := Lib.hid ((hbr.block _ hs1).trans HT.out)
        have HBR := Lib.hid (bcomp HB.out hbr)
        by_cases hlt : k < n
        · have hk1 : (k : Int) < (n : Int) := by omega
          have HS := Lib.hid (stepRef hmr hbr HH.out (HG'.out k) (by omega) HIN.out)
          rw [← iterM_succ] at HS
          by_cases hs : (iterM f L k (newM f)).t.status = 2
          · rw [hs] at HS
            have hs2 : ((2 : Int) == 2) = true := rfl
            clear hmr hbr
            go_wp2_with (go_at_call 24; refine HS.out.mono ?_; rintro e w3 ⟨rfl, hm3, hb3⟩)
            go_roundw
            case rel => exact ⟨k + 1, by omega, by go_num, hm3, hb3⟩
            case measure => simp [intOf]; omega
          · have hs2 : ((iterM f L k (newM f)).t.status == 2) = false := by simpa using hs
            have hst := step_end (f := f) (ins := L) hs
            rw [iterM_succ, hst] at HS
            have hall : (iterM f L n (newM f)) = iterM f L k (newM f) := by
              rw [show n = k + (n - k) by omega, iterM_add, iter_end hs]
            obtain rfl : RT = (iterM f L k (newM f)).t := by rw [← HRT0.out, hall]
            clear hall hst hs HRT0 hmr hbr HTr HBR
            have HGo := Lib.hid (HG'.out k)
            generalize iterM f L k (newM f) = m at *
            go_upto_region 9 with (go_at_call 24; refine HS.out.mono ?_; rintro e w3 ⟨rfl, hm3, hb3⟩)
            have HTr := Lib.hid ((hb3.block _ hs1).trans HT.out)
            have HBR := Lib.hid (bcomp HB.out hb3)
            obtain ⟨xa1, xc1, xa2, xc2, xa3, xc3, db, hra, hbl, hrt⟩ := hm3.cells HH.out HGo.out (by omega)
            have HRA := Lib.hid hra
            have HRT := Lib.hid hrt
            clear hm3 hb3 hra hrt
            go_wp2_with (first | (refine wpList_load_mid rfl 49 (.tmp 39) rfl bm 10 rfl [.int .u8 m.t.status, .int .i64 m.t.steps, .slice xa1 m.t.outs.length xc1, .slice xa2 m.t.rels.length xc2, .slice xa3 m.t.brs.length xc3, .slice (some ⟨db, 0, none⟩) m.t.reads.length m.t.reads.length] _ ?hm1 Tryd.underlying49 rfl (by as_aux_lemma => kernel_rfl) ?_; exact HRA.out) | (refine wpList_store_row rfl 49 (.tmp 6) (.tmp 40) rfl (w.heap.size + 1) #[.int .u8 m.t.status, .int .i64 m.t.steps, .slice xa1 m.t.outs.length xc1, .slice xa2 m.t.rels.length xc2, .slice xa3 m.t.brs.length xc3, .slice (some ⟨db, 0, none⟩) m.t.reads.length m.t.reads.length] rfl rfl 49 #[.int .u8 0, .int .i64 0, .slice none 0 0, .slice none 0 0, .slice none 0 0, .slice none 0 0] ?hm2 (by as_aux_lemma => kernel_rfl) (by as_aux_lemma => kernel_rfl) (by as_aux_lemma => kernel_rfl) ?_; exact HTr.out))
            refine bodyPost_ret (v := .tuple #[.agg #[.int .u8 m.t.status, .int .i64 m.t.steps, .slice xa1 m.t.outs.length xc1, .slice xa2 m.t.rels.length xc2, .slice xa3 m.t.brs.length xc3, .slice (some ⟨db, 0, none⟩) m.t.reads.length m.t.reads.length], .int .i64 0]) ?_ rfl ⟨_, _, _, _, rfl, HRT.out.setRow (by omega) (by omega) _, below_row HBR.out (by omega) _⟩
            exact results_cell_tmp (P := Tryd.prog) (fn := Tryd.f26) rfl _ _ (w.heap.size + 1) 49 #[.int .u8 m.t.status, .int .i64 m.t.steps, .slice xa1 m.t.outs.length xc1, .slice xa2 m.t.rels.length xc2, .slice xa3 m.t.brs.length xc3, .slice (some ⟨db, 0, none⟩) m.t.reads.length m.t.reads.length] (0, 0) _ rfl (setRow_heap _ _ _ _ _ _ HTr.out) Tryd.underlying49 rfl (by as_aux_lemma => kernel_rfl)
        · obtain rfl : k = n := by omega
          obtain rfl : RT = (iterM f L k (newM f)).t := HRT0.out.symm
          have hk1 : ¬ (k : Int) < (k : Int) := by omega
          obtain ⟨xa1, xc1, xa2, xc2, xa3, xc3, db, hra, hbl, hrt⟩ := hmr.cells HH.out (HG'.out k) (by omega)
          have HRA := Lib.hid hra
          have HRT := Lib.hid hrt
          clear hmr hbr HRT0 hra hrt
          generalize iterM f L k (newM f) = m at *
          go_upto_region 9 with fail
          go_wp2_with (first | (refine wpList_load_mid rfl 49 (.tmp 39) rfl bm 10 rfl [.int .u8 m.t.status, .int .i64 m.t.steps, .slice xa1 m.t.outs.length xc1, .slice xa2 m.t.rels.length xc2, .slice xa3 m.t.brs.length xc3, .slice (some ⟨db, 0, none⟩) m.t.reads.length m.t.reads.length] _ ?hm3 Tryd.underlying49 rfl (by as_aux_lemma => kernel_rfl) ?_; exact HRA.out) | (refine wpList_store_row rfl 49 (.tmp 6) (.tmp 40) rfl (w.heap.size + 1) #[.int .u8 m.t.status, .int .i64 m.t.steps, .slice xa1 m.t.outs.length xc1, .slice xa2 m.t.rels.length xc2, .slice xa3 m.t.brs.length xc3, .slice (some ⟨db, 0, none⟩) m.t.reads.length m.t.reads.length] rfl rfl 49 #[.int .u8 0, .int .i64 0, .slice none 0 0, .slice none 0 0, .slice none 0 0, .slice none 0 0] ?hm4 (by as_aux_lemma => kernel_rfl) (by as_aux_lemma => kernel_rfl) (by as_aux_lemma => kernel_rfl) ?_; exact HTr.out))
          refine bodyPost_ret (v := .tuple #[.agg #[.int .u8 m.t.status, .int .i64 m.t.steps, .slice xa1 m.t.outs.length xc1, .slice xa2 m.t.rels.length xc2, .slice xa3 m.t.brs.length xc3, .slice (some ⟨db, 0, none⟩) m.t.reads.length m.t.reads.length], .int .i64 0]) ?_ rfl ⟨_, _, _, _, rfl, HRT.out.setRow (by omega) (by omega) _, below_row HBR.out (by omega) _⟩
          exact results_cell_tmp (P := Tryd.prog) (fn := Tryd.f26) rfl _ _ (w.heap.size + 1) 49 #[.int .u8 m.t.status, .int .i64 m.t.steps, .slice xa1 m.t.outs.length xc1, .slice xa2 m.t.rels.length xc2, .slice xa3 m.t.brs.length xc3, .slice (some ⟨db, 0, none⟩) m.t.reads.length m.t.reads.length] (0, 0) _ rfl (setRow_heap _ _ _ _ _ _ HTr.out) Tryd.underlying49 rfl (by as_aux_lemma => kernel_rfl)
end Go.Proofs.YthmdioldnnhidaaDoor
