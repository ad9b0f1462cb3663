/- The contract of the maker's call: the copies of the operands, the zeros, and the callee's own instructions. Condition: the callee's body does what is said of it. -/
import Derived.Test.YtgcfdbhpophnjaaDoorFlB
set_option linter.unusedVariables false
set_option linter.unusedSimpArgs false
set_option linter.unnecessarySimpa false
namespace Go.Proofs.YtgcfdbhpophnjaaDoor
open Go.Maps (Keyed string_keyed int_keyed)
open Go.WideShapes Go.ChangeMaps Go.MapKept Go.WideMaps Go.ChangeAt Go.RowKit Go.ChangeShapes
theorem MkS.At.box_keep {m : MkS} {kv kv' : Value} {C : List CodeD} {w w' : World} {b : Nat} {cs : Array Value} {T : TypeId} (h : m.At kv C w) (hb : w.heap[b]? = some (.cells cs T (0, 0))) (h1 : T ≠ 77) (h2 : T ≠ 48) (g : m.Grew kv kv' w w') : w'.heap[b]? = some (.cells cs T (0, 0)) := by
  refine (g.1.block b (Array.getElem?_eq_some_iff.1 hb).1 ?_).trans hb
  rintro (e | e)
  · rw [e, h.hm] at hb; simp at hb; exact h1 hb.2.symm
  · exact own_ne_cells h.own hb h2 e
/-- What the body of g, at most n calls deep, does. -/
def BodyC (m : MkS) (n : Nat) (g : Int) : Prop := ∀ (dst : Int) (kv : Value) (C : List CodeD) (w : World), InI64 dst → m.At kv C w → C.length ≤ 40000 →
  Calls Tryd.prog 35 #[.pointer (some ⟨m.M, 0, none⟩), .int .i64 g, .int .i64 dst] w fun e w' => e = .returned (.tuple #[]) ∧ ∃ kv', m.At kv' (m.E.body n g dst C) w' ∧ m.Grew kv kv' w w'
theorem regN_i64 (m : MkS) (H : m.Ok) (f : Int) (s : ByteArray) : InI64 (m.E.reg f s) := by
  have := regN_lt m.E.R f s
  have := H.rlen
  unfold EnvF.reg InI64
  omega
theorem i64_0 : InI64 0 := ⟨by decide, by decide⟩
theorem i64_m1 : InI64 (-1) := ⟨by decide, by decide⟩
theorem u64_0 : InU64 0 := ⟨by decide, by decide⟩
theorem u8_0 : InU8 0 := ⟨by decide, by decide⟩
theorem trim_ok (m : MkS) (H : m.Ok) (v : Int) (ha : InU64 v) : InU64 (trimW m.E.p.width v) := by
  unfold trimW
  split
  · exact ha
  · have h1 := H.wd.1
    have h2 := H.wd.2
    obtain ⟨a1, a2, a3⟩ := mod_in m.E.p.width.toNat (by omega) v
    exact ⟨a1, by omega⟩
theorem ref_ok (m : MkS) (H : m.Ok) (f : Int) (a : ArgD) (ha : InU64 a.num) : InI64 (m.E.ref f a).reg ∧ InU64 (m.E.ref f a).num := by
  unfold EnvF.ref refF
  split
  · exact ⟨i64_m1, trim_ok m H _ ha⟩
  · exact ⟨regN_i64 m H f a.name, u64_0⟩
theorem copy_ok (m : MkS) (H : m.Ok) (d : Int) (r : RefD) (hd : InI64 d) (hr : InI64 r.reg ∧ InU64 r.num) : okC (EnvF.copy d r) :=
  ⟨u8_0, u8_0, hd, i64_0, hr.1, hr.2, i64_0, u64_0⟩
theorem bodyF_fn {p : ProgD} {g : Nat} {x : FuncD} (h : p.funcs[g]? = some x) : bodyF p (g : Int) = (x.params, x.code) := by
  unfold bodyF
  rw [if_neg (by omega)]
  simp [h]
theorem locals_fn {p : ProgD} {g : Nat} {x : FuncD} (hc : checkF p = none) (h : p.funcs[g]? = some x) : localsF p (g : Int) = (localsL x.params x.code [], 0) := by
  unfold localsF
  rw [hc]
  have := (List.getElem?_eq_some_iff.1 h).1
  simp only
  rw [if_neg (by omega), bodyF_fn h]
theorem zeros_snoc (E : EnvF) (g : Int) (l : List ByteArray) (s : ByteArray) : E.zeros g (l ++ [s]) = E.zeros g l ++ [EnvF.copy (E.reg g s) ⟨-1, 0⟩] := by unfold EnvF.zeros; rw [List.map_append]; rfl
theorem parms_take (E : EnvF) (f g : Int) (args : List ArgD) (l : List ByteArray) (j : Nat) (s : ByteArray) (h : l[j]? = some s) : E.parms f g args 0 (l.take (j + 1)) = E.parms f g args 0 (l.take j) ++ [EnvF.copy (E.reg g s) (E.arg f args j)] := by
  have hj := (List.getElem?_eq_some_iff.1 h).1
  rw [List.take_add_one, h]
  show E.parms f g args 0 (l.take j ++ [s]) = _
  rw [EnvF.parms_snoc, List.length_take, Nat.min_eq_left (by omega), Nat.zero_add]
theorem rdStrs_at {lo : Option (Nat → Prop)} {w : World} {a : Option Addr} {n c : Nat} {l : List ByteArray} (h : RdStrs lo w (.slice a n c) l) {i : Nat} {s : ByteArray} (hs : l[i]? = some s) : ∃ b o, a = some ⟨b, o, none⟩ ∧ w.cell? ⟨b, o + i, none⟩ = some (.string s) ∧ s.size ≤ maxLen := by
  obtain ⟨a', c', e, _, hr⟩ := h
  simp only [Value.slice.injEq] at e
  obtain ⟨rfl, _, _⟩ := e
  obtain ⟨b, o, e2, _, h1, h2⟩ := hr i s hs
  exact ⟨b, o, e2, h1, h2⟩
theorem rdStrs_grew {m : MkS} {kv kv' : Value} {C : List CodeD} {w w' : World} {G : Nat → Prop} {v : Value} {l : List ByteArray} (h : m.At kv C w) (hr : RdStrs (some G) w v l) (g : m.Grew kv kv' w w') : RdStrs (some G) w' v l := by
  refine RdStrs.map (S := fun T => T = 9) (fun T b hT hb hf => ?_) (fun T b o u hT hf hc => ?_) rfl hr
  · obtain ⟨h1, cs, h2⟩ := hf G rfl
    subst hT
    exact Free.of h1 (h.box_keep h2 (by decide) (by decide) g)
  · obtain ⟨h1, cs, h2⟩ := hf G rfl
    subst hT
    rw [World.cell?_of_block (w := w) ((h.box_keep h2 (by decide) (by decide) g).trans h2.symm)]
    exact hc
set_option maxRecDepth 100000 in
set_option maxHeartbeats 6400000 in
theorem call_any (m : MkS) (H : m.Ok) (hs : EnvF.Small m.E.p) (n g : Nat) (f dst : Int) (x : InstrD) (aa : Option Addr) (ca mb fb : Nat) (kv : Value) (C : List CodeD) (w : World) (h : m.At kv C w) (hmb : w.heap[mb]? = some (.cells #[.pointer (some ⟨m.M, 0, none⟩)] 74 (0, 0)))
    (hfb : w.heap[fb]? = some (.cells #[.int .i64 f] 3 (0, 0))) (hf : InI64 f) (hd : InI64 dst) (hx : RdArgs none m.w0 (.slice aa x.args.length ca) x.args)
    (hg : idxS x.name (fNames m.E.p.funcs) 0 = g) (hgl : g < m.E.p.funcs.length) (har : x.args.length = (bodyF m.E.p g).1.length) (hB : BodyC m n g) (hl : C.length ≤ 4096) :
    Calls Tryd.prog 67 #[.pointer (some ⟨m.M, 0, none⟩), instrV x (.slice aa x.args.length ca), .int .i64 dst, .func (.func 62) #[] #[.pointer (some ⟨mb, 0, none⟩), .pointer (some ⟨fb, 0, none⟩)], .func (.func 64) #[] #[.pointer (some ⟨mb, 0, none⟩)]] w
      fun e w' => e = .returned (.tuple #[]) ∧ ∃ kv', m.At kv' (m.E.body n g dst (C ++ m.E.ahead f x)) w' ∧ m.Grew kv kv' w w' := by
  obtain ⟨fd, hfd⟩ : ∃ fd, m.E.p.funcs[g]? = some fd := ⟨_, List.getElem?_eq_getElem hgl⟩
  have hfn : m.E.fnOf x.name = (g : Int) := hg
  have hbf := bodyF_fn hfd
  have HAH : Hid (m.E.ahead f x = m.E.parms f g x.args 0 fd.params ++ m.E.zeros g (localsL fd.params fd.code [])) := by
    show _ = _
    unfold EnvF.ahead
    rw [hfn, hbf]
  rw [hbf] at har
  have hpl : fd.params.length ≤ 32 := by have := (hs (g : Int)).1; rw [hbf] at this; exact this
  have hll : (localsL fd.params fd.code []).length ≤ 33792 := by
    obtain ⟨_, h2, h3⟩ := hs (g : Int)
    rw [hbf] at h2 h3
    have := localsL_len fd.params fd.code [] h3
    simp only [List.length_nil] at this
    simp only at h2
    omega
  have hgi : InI64 (g : Int) := by have := H.prog.2.2.1; obtain ⟨a, c, e, ⟨q, _⟩, _⟩ := this; unfold InI64; omega
  have HLC := Lib.hid (locals_fn H.chk hfd)
  have hb0 := (Below.refl w.heap.size w).alloc (Nat.le_refl _) (.cells #[.int .u8 x.kind, .int .u8 x.op, .string x.dst, .string x.name, .slice aa x.args.length ca, .int .i64 x.line, .int .i64 x.col] 60)
  have hg0 := heap_alloc_new w (.cells #[.int .u8 x.kind, .int .u8 x.op, .string x.dst, .string x.name, .slice aa x.args.length ca, .int .i64 x.line, .int .i64 x.col] 60)
  have HA := Lib.hid (h.keep hb0)
  have HMB := Lib.hid ((hb0.block mb (Array.getElem?_eq_some_iff.1 hmb).1).trans hmb)
  have HFB := Lib.hid ((hb0.block fb (Array.getElem?_eq_some_iff.1 hfb).1).trans hfb)
  have HB0 := Lib.hid hb0
  have HX0 := Lib.hid hg0
  obtain ⟨xa', xc', xe', _, hxr⟩ := id hx
  have HXR := Lib.hid hxr
  simp only [Value.slice.injEq] at xe'
  obtain ⟨rfl, _, rfl⟩ := xe'
  have HF := Lib.hid hf
  have HD := Lib.hid hd
  have HBC := Lib.hid hB
  have HFD := Lib.hid hfd
  have HAR := Lib.hid har
  have HPL := Lib.hid hpl
  have HLL := Lib.hid hll
  have hmf : ∀ (fn : Fn) (first cap : Array Value) (w : World), (Instr.makeFunc fn first cap).run Tryd.prog w = .ok (.func fn first cap) w := fun _ _ _ _ => rfl
  have HG : Hid (∀ z ib, m.At kv C z → z.cell? ⟨ib, 3, none⟩ = some (.string x.name) → Calls Tryd.prog 95 #[.slice m.af m.E.p.funcs.length m.kf, .func (.func 96) #[] #[.pointer (some ⟨ib, 0, none⟩)]] z fun e w' => e = .returned (.int .i64 (g : Nat)) ∧ Below z.heap.size z w') := fun z ib hz hc => by
    have := fnIndex _ m.E.p.funcs ib x.name z (hz.prog H).2.2.1 hc
    rw [hg] at this
    exact this
  clear h hmb hfb hf hd hx hg har hB hb0 hg0 hbf hpl hll hfd hxr
  go_enter Tryd.func67, Tryd.ntmps67
  go_upto_region 1 with fail
  generalize w.alloc (.cells #[.int .u8 x.kind, .int .u8 x.op, .string x.dst, .string x.name, .slice aa x.args.length ca, .int .i64 x.line, .int .i64 x.col] 60) = W at *
  obtain ⟨ib, hib⟩ : ∃ ib, w.heap.size = ib := ⟨_, rfl⟩
  rw [hib] at HX0
  rw [hib]
  have HIB := Lib.hid hib
  clear hib
  have c3 := HA.out.c3
  have i3 := row_of HX0.out 3 (.string x.name) rfl
  go_upto_region 2 with (go_at_call 95; refine (HG.out _ _ HA.out i3).mono ?_; rintro e w1 ⟨rfl, hz⟩; have B1 := Lib.hid hz; clear hz)
  clear c3 i3 HG hmf
  have HA1 := Lib.hid (HA.out.keep B1.out)
  have HMB1 := Lib.hid ((B1.out.block mb (Array.getElem?_eq_some_iff.1 HMB.out).1).trans HMB.out)
  have HFB1 := Lib.hid ((B1.out.block fb (Array.getElem?_eq_some_iff.1 HFB.out).1).trans HFB.out)
  have HX1 := Lib.hid ((B1.out.block ib (Array.getElem?_eq_some_iff.1 HX0.out).1).trans HX0.out)
  have HGR1 := Lib.hid (MkS.Grew.of_below (m := m) (a := kv) (bcomp HB0.out B1.out))
  clear HA HMB HFB HX0
  have c3 := HA1.out.c3
  obtain ⟨a', c', e', hl', hr'⟩ := H.prog.2.2.1
  simp only [Value.slice.injEq] at e'
  obtain ⟨q, o, pv, cv, e'', _, f0, f1, f2, f3, f4, hri⟩ := hr' g fd HFD.out
  obtain ⟨ap, kp, rfl, ⟨hpz, _⟩, hpr⟩ := id hri.1
  have HPR := Lib.hid hpr
  rw [e'.1, e''] at c3
  have f5 := cell_keep HA1.out.below f1
  have hgl2 : (g : Int) < (m.E.p.funcs.length : Int) := by omega
  clear hri hr' hpr e' f0 f1 f2 f3 f4
  go_wp2_with fail
  go_loopw [11, 12, 34] (fun _ _ i wr => ∃ (j : Nat) (kv1 : Value), j ≤ fd.params.length ∧ i = .int .i64 j ∧ m.At kv1 (C ++ m.E.parms f g x.args 0 (fd.params.take j)) wr ∧ m.Grew kv kv1 w wr ∧ wr.heap[mb]? = some (.cells #[.pointer (some ⟨m.M, 0, none⟩)] 74 (0, 0)) ∧ wr.heap[fb]? = some (.cells #[.int .i64 f] 3 (0, 0)) ∧ wr.heap[ib]? = some (.cells #[.int .u8 x.kind, .int .u8 x.op, .string x.dst, .string x.name, .slice aa x.args.length ca, .int .i64 x.line, .int .i64 x.col] 60 (0, 0))) (fun _ _ i _ => fd.params.length - (intOf i).toNat)
  case atStart => exact ⟨0, kv, Nat.zero_le _, rfl, by simpa [EnvF.parms] using HA1.out, HGR1.out, HMB1.out, HFB1.out, HX1.out⟩
  case round =>
    obtain ⟨wo, rfl⟩ : ∃ x : World, x = wr := ⟨_, rfl⟩
    obtain ⟨j, kv1, hj, rfl, hat, hgr, hm1, hf1, hx1⟩ := hrel
    have HAT := Lib.hid hat
    have HGR := Lib.hid hgr
    have HM1 := Lib.hid hm1
    have HF1 := Lib.hid hf1
    have HX1' := Lib.hid hx1
    clear hat hgr hm1 hf1 hx1
    by_cases hlt : j < fd.params.length
    rotate_left
    · obtain rfl : j = fd.params.length := by omega
      have hlt2 : ¬ (fd.params.length : Int) < (fd.params.length : Int) := by omega
      have h9 := HAT.out
      rw [List.take_length] at h9
      have HAP := Lib.hid h9
      have c0 := h9.c0; have c1 := h9.c1; have c2 := h9.c2; have c3' := h9.c3; have c4 := h9.c4
      have hloc := locals_any m.E.p _ _ _ _ (g : Int) wo (h9.prog H) (h9.laid H) hgi
      rw [HLC.out] at hloc
      have HLOC := Lib.hid hloc
      obtain ⟨locs, hlocs⟩ : ∃ l, localsL fd.params fd.code [] = l := ⟨_, rfl⟩
      rw [hlocs] at HLOC HLL HAH
      clear hloc h9 hlocs HLC HAT HX1' HF1 f5 c3
      go_upto_region 8 with (go_at_call 31; refine HLOC.out.mono ?_; rintro e w2 ⟨v, rfl, hrd, hz⟩; obtain ⟨al, kl, rfl, _⟩ := id hrd; have HRD := Lib.hid hrd; have BZ := Lib.hid hz; clear hrd hz)
      clear c0 c1 c2 c3' c4
      have hz9 : locs.length ≤ 33792 := HLL.out
      go_wp2_with fail
      go_loopw [16, 69] (fun _ i wr => ∃ (j : Nat) (kv2 : Value), j ≤ locs.length ∧ i = .int .i64 j ∧ m.At kv2 (C ++ m.E.parms f g x.args 0 fd.params ++ m.E.zeros g (locs.take j)) wr ∧ m.Grew kv kv2 w wr ∧ wr.heap[mb]? = some (.cells #[.pointer (some ⟨m.M, 0, none⟩)] 74 (0, 0)) ∧ RdStrs (some (upFrom wo.heap.size)) wr (.slice al locs.length kl) locs) (fun _ i _ => locs.length - (intOf i).toNat)
      case atStart => exact ⟨0, kv1, Nat.zero_le _, rfl, by simpa [EnvF.zeros] using HAP.out.keep BZ.out, HGR.out.trans (MkS.Grew.of_below BZ.out), (BZ.out.block mb (Array.getElem?_eq_some_iff.1 HM1.out).1).trans HM1.out, HRD.out⟩
      case round =>
        obtain ⟨wi, rfl⟩ : ∃ x : World, x = wr := ⟨_, rfl⟩
        obtain ⟨j, kv2, hj, rfl, hat, hgr, hm1, hr1⟩ := hrel
        have HAT := Lib.hid hat
        have HGR2 := Lib.hid hgr
        have HM2 := Lib.hid hm1
        have HR2 := Lib.hid hr1
        have hlen : (C ++ m.E.parms f g x.args 0 fd.params ++ m.E.zeros g (locs.take j)).length ≤ 40000 := by
          rw [List.length_append, List.length_append, EnvF.parms_length]
          unfold EnvF.zeros
          rw [List.length_map, List.length_take]
          have := HPL.out
          omega
        have HLEN := Lib.hid hlen
        clear hat hgr hm1 hlen
        by_cases hlt : j < locs.length
        rotate_left
        · obtain rfl : j = locs.length := by omega
          have hlt2 : ¬ (locs.length : Int) < (locs.length : Int) := by omega
          clear hr1
          go_wp2_with (go_at_call 35; refine (HBC.out dst kv2 _ wi HD.out HAT.out HLEN.out).mono ?_; rintro e w9 ⟨rfl, kv9, hat9, hgr9⟩)
          go_end0
          refine ⟨rfl, kv9, ?_, HGR2.out.trans hgr9⟩
          rw [HAH.out, ← List.append_assoc]
          rw [List.take_length] at hat9
          exact hat9
        obtain ⟨s, hsj⟩ : ∃ s, locs[j]? = some s := ⟨_, List.getElem?_eq_getElem hlt⟩
        obtain ⟨bl, ol, rfl, n0, hsz⟩ := rdStrs_at hr1 hsj
        have HSJ := Lib.hid hsj
        have hjlt : (j : Int) < (locs.length : Int) := by omega
        obtain ⟨d, hd⟩ : ∃ d : Int, m.E.reg g s = d := ⟨_, rfl⟩
        have hdi : InI64 d := by rw [← hd]; exact regN_i64 m H g s
        have hlook := RegsIs.look HAT.out.regs H.nodup (g : Int) s hgi hsz
        rw [show ((regN m.E.R (g : Int) s : Nat) : Int) = d from hd] at hlook
        have HDD := Lib.hid hd
        have HOK := Lib.hid (copy_ok m H d ⟨-1, 0⟩ hdi ⟨i64_m1, u64_0⟩)
        have c11 := HAT.out.c11
        clear hr1 hsj hd hdi hsz
        go_wp2_with (go_at_call 64; refine (put_any m mb (EnvF.copy d ⟨-1, 0⟩) kv2 _ wi HAT.out HM2.out HOK.out (Nat.le_trans HLEN.out (by decide))).mono ?_; rintro e w8 ⟨rfl, kv3, hat3, hgr3⟩)
        go_roundw
        case rel =>
          refine ⟨j + 1, kv3, by omega, by go_num, ?_, HGR2.out.trans hgr3, HAT.out.box_keep HM2.out (by decide) (by decide) hgr3, rdStrs_grew HAT.out HR2.out hgr3⟩
          rw [List.take_add_one, HSJ.out]
          show m.At kv3 (C ++ m.E.parms f g x.args 0 fd.params ++ m.E.zeros g (locs.take j ++ [s])) w8
          rw [zeros_snoc, HDD.out, ← List.append_assoc]
          exact hat3
        case measure => simp [intOf]; omega
    obtain ⟨s, hsj⟩ : ∃ s, fd.params[j]? = some s := ⟨_, List.getElem?_eq_getElem hlt⟩
    have har2 : x.args.length = fd.params.length := HAR.out
    obtain ⟨y, hy⟩ : ∃ y, x.args[j]? = some y := ⟨_, List.getElem?_eq_getElem (by omega)⟩
    obtain ⟨bp, op, rfl, _, n0, hsz⟩ := HPR.out j s hsj
    obtain ⟨ba, oa, hxa, _, y0, y1, hyn, hys⟩ := HXR.out j y hy
    have n1 := cell_keep HAT.out.below n0
    have y2 := cell_keep HAT.out.below y0
    have y3 := cell_keep HAT.out.below y1
    have HSJ := Lib.hid hsj
    have HY := Lib.hid hy
    have hjlt : (j : Int) < (fd.params.length : Int) := by omega
    have hjlt2 : (j : Int) < (x.args.length : Int) := by omega
    have i4 := row_of HX1'.out 4 (.slice aa x.args.length ca) rfl
    rw [hxa] at i4
    have c11 := HAT.out.c11
    have HREF : Hid (∀ z, m.At kv1 (C ++ m.E.parms f g x.args 0 (fd.params.take j)) z → Below wo.heap.size wo z → Calls Tryd.prog 62 #[.agg #[.string y.name, .int .u64 y.num], .pointer (some ⟨mb, 0, none⟩), .pointer (some ⟨fb, 0, none⟩)] z fun e w' => e = .returned (refA (m.E.ref f y)) ∧ Below z.heap.size z w') := fun z hz hb =>
      ref_any m H kv1 _ f y mb fb z hz ((hb.block mb (Array.getElem?_eq_some_iff.1 HM1.out).1).trans HM1.out) ((hb.block fb (Array.getElem?_eq_some_iff.1 HF1.out).1).trans HF1.out) HF.out ⟨hyn, hys⟩
    have hrok := ref_ok m H f y hyn
    have harg : m.E.arg f x.args j = m.E.ref f y := by unfold EnvF.arg argF; rw [HY.out]; rfl
    have HARG := Lib.hid harg
    obtain ⟨r, hr⟩ : ∃ r, m.E.ref f y = r := ⟨_, rfl⟩
    rw [hr] at HREF hrok HARG
    obtain ⟨d, hd⟩ : ∃ d : Int, m.E.reg g s = d := ⟨_, rfl⟩
    have hdi : InI64 d := by rw [← hd]; exact regN_i64 m H g s
    have hlook := ext_look HAT.out.regs H.nodup (g : Int) s hgi hsz d hd
    have HDD := Lib.hid hd
    have HOK := Lib.hid (copy_ok m H d r hdi hrok)
    clear n0 y0 y1 hsj hy harg hr hd hrok hdi hyn hys har2 hxa
    go_upto_region 5 with fail
    have e0 := ext_cell i4
    have e1 := ext_cell y2
    have e2 := ext_cell y3
    have e3 := ext_cell c11
    clear i4 y2 y3 c11 n1
    (refine wp_region_calm_tail 17 (by kernel_rfl) (by kernel_rfl) ?_; simp only [List.take_succ_cons, List.take_zero, List.drop_succ_cons, List.drop_zero]; (repeat (go_big_quiet_step ((go_at_call 62; exact calls_calm (HREF.out _ (HAT.out.keep (ext_below _ _)) (ext_below _ _)))))); refine wpQuiet_nil ?_; intro wc hwc)
    clear e0 e1 e2 e3 hlook
    have HATc := Lib.hid (HAT.out.keep hwc)
    have HMc := Lib.hid ((hwc.block mb (Array.getElem?_eq_some_iff.1 HM1.out).1).trans HM1.out)
    have hlen : (C ++ m.E.parms f g x.args 0 (fd.params.take j)).length ≤ 2000000 := by
      rw [List.length_append, EnvF.parms_length, List.length_take]
      have := HPL.out
      omega
    go_wp2_with (go_at_call 64; refine (put_any m mb (EnvF.copy d r) kv1 _ wc HATc.out HMc.out HOK.out hlen).mono ?_; rintro e w8 ⟨rfl, kv2, hat2, hgr2⟩)
    go_roundw
    case rel =>
      have hg9 := (MkS.Grew.of_below (m := m) (a := kv1) hwc).trans hgr2
      refine ⟨j + 1, kv2, by omega, by go_num, ?_, HGR.out.trans hg9, HAT.out.box_keep HM1.out (by decide) (by decide) hg9, HAT.out.box_keep HF1.out (by decide) (by decide) hg9, HAT.out.box_keep HX1'.out (by decide) (by decide) hg9⟩
      rw [parms_take m.E f g x.args fd.params j s HSJ.out, HARG.out, HDD.out, ← List.append_assoc]
      exact hat2
    case measure => simp [intOf]; omega
end Go.Proofs.YtgcfdbhpophnjaaDoor
