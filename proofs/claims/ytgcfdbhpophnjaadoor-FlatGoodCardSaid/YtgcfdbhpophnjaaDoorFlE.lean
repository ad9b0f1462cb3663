/- Package flat's maker while registers, sites and arrays are laid: its block in memory, and the contracts of register and site. Conditions: the maker's block, the registers and the rows lie in memory as is said. -/
import Derived.Test.YtgcfdbhpophnjaaDoorFlA
set_option linter.unusedVariables false
set_option linter.unusedSimpArgs false
set_option linter.unnecessarySimpa false
namespace Go.Proofs.YtgcfdbhpophnjaaDoor
open Go.Maps (Keyed string_keyed int_keyed)
open Go.WideShapes Go.ChangeMaps Go.MapKept Go.WideMaps Go.ChangeAt Go.RowKit Go.ChangeShapes
/-- What stays while the maker is filled. -/
structure Pre where
  w0 : World
  c1 : Nat
  M : Nat
  rb : Nat
  p : ProgD
  ac : Option Addr
  kc : Nat
  aa : Option Addr
  ka : Nat
  af : Option Addr
  kf : Nat
  am : Option Addr
  km : Nat
  fc : Option Addr
  fk : Nat
namespace Pre
abbrev cells (q : Pre) (rg : Int) (sv av : Value) : Array Value := #[.int .i64 q.p.width, .slice q.ac q.p.chans.length q.kc, .slice q.aa q.p.arrays.length q.ka, .slice q.af q.p.funcs.length q.kf, .slice q.am q.p.main.length q.km, .int .i64 q.p.width, .int .i64 rg, .slice q.fc q.p.chans.length q.fk, sv, av, .slice none 0 0, .map (some q.rb)]
/-- Which blocks hold the copy of the channels. -/
def lo (q : Pre) : Nat → Prop := fun k => q.w0.heap.size ≤ k ∧ k < q.c1
structure At (q : Pre) (rg : Int) (sv av : Value) (R : List (Int × ByteArray)) (S : List ByteArray) (A : List Int) (w : World) : Prop where
  below : Below q.w0.heap.size q.w0 w
  hm : w.heap[q.M]? = some (.cells (q.cells rg sv av) 77 (0, 0))
  regs : RegsIs w q.rb R
  chs : RdStrs (some q.lo) w (.slice q.fc q.p.chans.length q.fk) q.p.chans
  sites : w.ownsRow q.c1 9 1 sv S.length (S.flatMap strCells)
  arrs : w.ownsRow q.c1 3 1 av A.length (A.flatMap cellsInt)
  c1 : q.w0.heap.size ≤ q.c1 ∧ q.c1 ≤ w.heap.size
  lm : q.w0.heap.size ≤ q.M
  lr : q.w0.heap.size ≤ q.rb
  sok : ∀ s ∈ S, s.size ≤ maxLen
theorem strs_turn {g : Nat → Prop} {T : Nat → Prop} {w w' : World} {v : Value} {l : List ByteArray} (h : RdStrs (some g) w v l) (k : Turned T w w') (hd : ∀ b cs, g b → w.heap[b]? = some (.cells cs 9 (0, 0)) → ¬ T b) : RdStrs (some g) w' v l := by
  refine RdStrs.map (S := fun T => T = 9) (fun T b hT hb hf => ?_) (fun T b o u hT hf hc => ?_) rfl h
  · obtain ⟨h1, cs, h2⟩ := hf g rfl
    subst hT
    exact Free.of h1 ((k.block b hb (hd b cs h1 h2)).trans h2)
  · obtain ⟨h1, cs, h2⟩ := hf g rfl
    subst hT
    exact k.cell hc (hd b cs h1 h2)
/-- Where the maker's block has stayed. -/
theorem At.turn {q : Pre} {rg : Int} {sv av : Value} {R : List (Int × ByteArray)} {S : List ByteArray} {A : List Int} {x y : World} {T : Nat → Prop} (h : q.At rg sv av R S A x) (k : Turned T x y) (h0 : ∀ i, T i → q.w0.heap.size ≤ i) (h1 : ¬ T q.M) (h2 : ¬ T q.rb)
    (h3 : ∀ b cs, q.lo b → x.heap[b]? = some (.cells cs 9 (0, 0)) → ¬ T b) (h4 : ∀ i, sv.ownBlock = some i → ¬ T i) (h5 : ∀ i, av.ownBlock = some i → ¬ T i) : q.At rg sv av R S A y :=
  ⟨below_then h.below k h.below.size h0, (k.block _ (Array.getElem?_eq_some_iff.1 h.hm).1 h1).trans h.hm, h.regs.at (k.block _ (MapG.lt h.regs) h2), strs_turn h.chs k h3, own_turn h.sites k h4, own_turn h.arrs k h5, ⟨h.c1.1, Nat.le_trans h.c1.2 k.size⟩, h.lm, h.lr, h.sok⟩
theorem At.keep {q : Pre} {rg : Int} {sv av : Value} {R : List (Int × ByteArray)} {S : List ByteArray} {A : List Int} {x y : World} (h : q.At rg sv av R S A x) (k : Below x.heap.size x y) : q.At rg sv av R S A y :=
  h.turn (T := fun _ => False) (Turned.of_below k) (fun _ h => h.elim) id id (fun _ _ _ _ => id) (fun _ _ => id) (fun _ _ => id)
theorem At.mlt {q : Pre} {rg : Int} {sv av : Value} {R : List (Int × ByteArray)} {S : List ByteArray} {A : List Int} {w : World} (h : q.At rg sv av R S A w) : q.M < w.heap.size := (Array.getElem?_eq_some_iff.1 h.hm).1
/-- Where a map has grown, all cells are as they were. -/
theorem kept_regs {w w' : World} {b : Nat} {R : List (Int × ByteArray)} (h : RegsIs w b R) (g : w.grownBy w' (some b)) : Kept w w' := by
  intro x o v hc
  have hx : x ≠ b := fun e => by
    subst e
    obtain ⟨es, clock, hb, _⟩ := h
    simp [World.cell?, hb] at hc
  rw [World.cell?_of_block (w := w) (g.block x (block_lt_of_cell hc) (by simpa using hx))]; exact hc
/-- Behind 'regs[place] = n'. -/
theorem At.registered {q : Pre} {rg : Int} {sv av : Value} {R R' : List (Int × ByteArray)} {S : List ByteArray} {A : List Int} {x y : World} (h : q.At rg sv av R S A x) (hr : RegsIs y q.rb R') (g : x.grownBy y (some q.rb)) : q.At rg sv av R' S A y := by
  have k : Turned (fun i => i = q.rb) x y := Turned.of_grown g (fun b e => by simpa using e.symm)
  have hne : ∀ {cs T}, x.heap[q.rb]? ≠ some (.cells cs T (0, 0)) := fun {cs T} e => by
    obtain ⟨es, cl, h', _⟩ := h.regs
    rw [e] at h'; cases h'
  exact ⟨below_then h.below k h.below.size (fun i e => by rw [e]; exact h.lr), (k.block _ h.mlt (fun e => hne (e ▸ h.hm))).trans h.hm, hr, strs_turn h.chs k (fun b cs _ hb e => hne (e ▸ hb)),
    own_turn h.sites k (fun i hi e => MkS.own_ne_regs h.sites h.regs (by rw [hi, e])), own_turn h.arrs k (fun i hi e => MkS.own_ne_regs h.arrs h.regs (by rw [hi, e])), ⟨h.c1.1, Nat.le_trans h.c1.2 k.size⟩, h.lm, h.lr, h.sok⟩
theorem ext_len {W : World} {b : Nat} {R : List (Int × ByteArray)} (h : RegsIs W b R) (n : Int) (hn : ((R.length : Nat) : Int) = n) (x : World) :
    (Builtin.len_ #[75] 3 #[.map (some b)]).run Tryd.prog (ext W x) = .ok (.int .i64 n) (ext W x) := by
  have h1 := MapG.len (MapG.keep h (ext_below W x)) Tryd.underlying75 3
  rw [regFrom_length, hn] at h1
  exact h1
set_option maxRecDepth 100000 in
set_option maxHeartbeats 3200000 in
/-- **register** lays the next registers. -/
theorem register_any (q : Pre) (rg : Int) (sv av : Value) (R : List (Int × ByteArray)) (S : List ByteArray) (A : List Int) (f : Int) (v : Value) (l : List ByteArray) (w : World) (h : q.At rg sv av R S A w) (hr : RdStrs none w v l) (hf : InI64 f) (hd : (R ++ placesOf f l).Nodup) (hl : R.length + l.length ≤ 3000000) :
    Calls Tryd.prog 33 #[.pointer (some ⟨q.M, 0, none⟩), .int .i64 f, v] w fun e w' => e = .returned (.tuple #[]) ∧ q.At rg sv av (R ++ placesOf f l) S A w' ∧ Kept w w' ∧ Turned (fun i => i = q.rb) w w' := by
  obtain ⟨a, c, rfl, -, -⟩ := id hr
  have H := Lib.hid h
  have HR := Lib.hid hr
  have HF := Lib.hid hf
  have HD := Lib.hid hd
  clear h hr hf hd
  go_enter Tryd.func33, Tryd.ntmps33
  go_wp2_with fail
  go_loopw [10] (fun i wr => ∃ k : Nat, k ≤ l.length ∧ i = .int .i64 k ∧ q.At rg sv av (R ++ placesOf f (l.take k)) S A wr ∧ Kept w wr ∧ Turned (fun i => i = q.rb) w wr) (fun i _ => l.length - (intOf i).toNat)
  case atStart => exact ⟨0, Nat.zero_le _, rfl, by simpa [placesOf] using H.out, Kept.refl _, Turned.refl _ _⟩
  case round =>
    obtain ⟨wo, rfl⟩ : ∃ x : World, x = wr := ⟨_, rfl⟩
    obtain ⟨k, hk, rfl, hat, hke, htu⟩ := hrel
    by_cases hlt : k < l.length
    rotate_left
    · obtain rfl : k = l.length := by omega
      have hlt1 : ¬ (l.length : Int) < (l.length : Int) := by omega
      rw [List.take_length] at hat
      have HAT := Lib.hid hat
      have HKE := Lib.hid hke
      have HTU := Lib.hid htu
      clear hat hke htu
      go_wp2_with fail
      go_end0
      exact ⟨rfl, HAT.out, HKE.out, HTU.out⟩
    obtain ⟨s, hs⟩ : ∃ s, l[k]? = some s := ⟨_, List.getElem?_eq_getElem hlt⟩
    have hr2 := HR.out.kept hke
    obtain ⟨a', c', e', _, hrr⟩ := hr2
    simp only [Value.slice.injEq] at e'
    obtain ⟨rfl, _, rfl⟩ := e'
    obtain ⟨bl, ol, rfl, _, n0, hsz⟩ := hrr k s hs
    have hnx : placesOf f (l.take (k + 1)) = placesOf f (l.take k) ++ [(f, s)] := by
      unfold placesOf
      rw [List.take_add_one, hs, List.map_append]; rfl
    have HNX := Lib.hid hnx
    obtain ⟨R1, hR1⟩ : ∃ R1, R ++ placesOf f (l.take k) = R1 := ⟨_, rfl⟩
    have hR1l : R1.length ≤ 3000000 := by rw [← hR1, List.length_append]; unfold placesOf; rw [List.length_map, List.length_take]; omega
    have hni : (f, s) ∉ R1 := by
      have h1 : R ++ placesOf f l = R1 ++ (f, s) :: placesOf f (l.drop (k + 1)) := by
        rw [← hR1, List.append_assoc]
        congr 1
        unfold placesOf
        have : l = l.take k ++ s :: l.drop (k + 1) := by
          have hq := List.getElem?_eq_some_iff.1 hs
          rw [← hq.2, List.getElem_cons_drop, List.take_append_drop]
        conv => lhs; rw [this]
        rw [List.map_append]; rfl
      have h2 := HD.out
      rw [h1] at h2
      have h3 := (List.nodup_append.1 h2).2.2
      intro hm
      exact h3 _ hm _ (List.mem_cons_self ..) rfl
    rw [hR1] at hat
    have HR1 := Lib.hid hR1
    obtain ⟨n, hn⟩ : ∃ n : Int, ((R1.length : Nat) : Int) = n := ⟨_, rfl⟩
    have HN := Lib.hid hn
    have HAT := Lib.hid hat
    have HKE := Lib.hid hke
    have HTU := Lib.hid htu
    have HNI := Lib.hid hni
    have HSZ := Lib.hid hsz
    have hklt : (k : Int) < (l.length : Int) := by omega
    have hm11 : wo.cell? ⟨q.M, 11, none⟩ = some (.map (some q.rb)) := row_of hat.hm 11 _ rfl
    clear hat hke htu hrr hs hnx hR1 hn hni hsz
    go_upto_region 3 with fail
    have hlen := ext_len HAT.out.regs n HN.out
    have e11 := ext_cell hm11
    clear hm11 n0
    (refine wp_region_calm_tail 12 (by kernel_rfl) (by kernel_rfl) ?_; simp only [List.take_succ_cons, List.take_zero, List.drop_succ_cons, List.drop_zero]; (repeat (go_big_quiet_step (fail))); refine wpQuiet_nil ?_; intro wc hwc)
    clear e11 hlen
    have HBC := Lib.hid hwc
    clear hwc
    obtain ⟨lk, hlk⟩ := plc_key f s HF.out HSZ.out
    have HRG := Lib.hid (HAT.out.keep HBC.out).regs
    go_wp2_with (refine wpList_mapG_store rfl (.tmp 17) (.tmp 20) (.tmp 25) 75 rfl 117 3 placeKeyed Tryd.underlying75 q.rb (regFrom 0 R1) rfl (plcV f s) rfl (.int .i64 n) rfl hlk HRG.out ?hno ?_)
    case hno =>
      intro p hp e
      obtain ⟨t, ht, he⟩ := regFrom_mem hp
      have := plcV_inj (e.symm.trans he)
      exact HNI.out (by rw [this]; exact ht)
    intro w4 hmap hgr hsz4
    have HRG4 : Hid (RegsIs w4 q.rb (R1 ++ [(f, s)])) := by
      show MapG _ _ _ _ _
      rw [regFrom_snoc, Nat.zero_add, HN.out]
      exact hmap
    have HGR := Lib.hid hgr
    clear hmap hgr hsz4 hlk
    go_wp2_with fail
    go_roundw
    case rel =>
      refine ⟨k + 1, by omega, by go_num, ?_, ?_, ?_⟩
      · rw [HNX.out, ← List.append_assoc, HR1.out]
        exact (HAT.out.keep HBC.out).registered HRG4.out HGR.out
      · exact (HKE.out.trans (Kept.of_below HBC.out)).trans (kept_regs HRG.out HGR.out)
      · exact (HTU.out.trans (Turned.of_below HBC.out)).trans (Turned.of_grown HGR.out (fun b e => by simpa using e.symm))
    case measure => simp [intOf]; omega
theorem ba_inj {s t : ByteArray} (h : s.toList = t.toList) : s = t := by
  rw [ByteArray.toList_eq, ByteArray.toList_eq] at h
  cases s; cases t; simp at h; rw [h]
theorem hasS_inL (s : ByteArray) (l : List ByteArray) : hasS s l = inL s l := by
  unfold hasS inL
  congr 1
  funext t
  rw [Bool.eq_iff_iff]
  simp only [beq_iff_eq, decide_eq_true_eq]
  exact ⟨ba_inj, fun e => by rw [e]⟩
theorem infoStrE : (Tryd.prog.info? 9).map (fun i => (i.zero, i.size, i.bytes)) = some (some (.string ⟨#[]⟩), 1, 16) := by kernel_rfl
theorem infoIntE : (Tryd.prog.info? 3).map (fun i => (i.zero, i.size, i.bytes)) = some (some (.int .i64 0), 1, 8) := by kernel_rfl
theorem two_keepS {W w' : World} {a b : Nat} (ha : w'.heap[a]? = W.heap[a]?) (hb : w'.heap[b]? = W.heap[b]?) : ∀ x ∈ [a, b], w'.heap[x]? = W.heap[x]? := by
  intro x hx; simp only [List.mem_cons, List.not_mem_nil, or_false] at hx; rcases hx with rfl | rfl; exact ha; exact hb
theorem sites_stepE {s : List ByteArray} {l : List InstrD} {i : Nat} {x : InstrD} (h : l[i]? = some x) : sitesOf s (l.take (i + 1)) = if x.kind == 7 then putL x.name (sitesOf s (l.take i)) else sitesOf s (l.take i) := by
  rw [List.take_add_one, h]
  exact sitesOf_snoc s _ x
theorem sites_lenE (s : List ByteArray) (l : List InstrD) : (sitesOf s l).length ≤ s.length + l.length := by
  induction l generalizing s with
  | nil => simp [sitesOf]
  | cons x r ih =>
    have := ih (if x.kind == 7 then putL x.name s else s)
    have h2 : (if x.kind == 7 then putL x.name s else s).length ≤ s.length + 1 := by
      split
      · unfold putL; split <;> simp
      · omega
    show (sitesOf (if x.kind == 7 then putL x.name s else s) r).length ≤ _
    simp only [List.length_cons]
    omega
/-- Behind 'list = append(list, s)' at the maker's eighth cell, the sites: first the row has grown, then the cell is written. -/
theorem At.sited {q : Pre} {rg : Int} {k0 : Option Addr} {kc0 : Nat} {av : Value} {R : List (Int × ByteArray)} {S : List ByteArray} {A : List Int} {x y : World} {xa : Option Addr} {xc : Nat} (s : ByteArray) (hs : s.size ≤ maxLen) (h : q.At rg (.slice k0 S.length kc0) av R S A x)
    (hT : Turned (fun k => (Value.slice k0 S.length kc0).ownBlock = some k) x y) (hown : y.ownsRow q.c1 9 1 (.slice xa (S.length + 1) xc) (S.length + 1) (S.flatMap strCells ++ strCells s)) :
    q.At rg (.slice xa (S.length + 1) xc) av R (S ++ [s]) A (y.setCell ⟨q.M, 8, none⟩ (.slice xa (S.length + 1) xc)) := by
  have hsc := setCell_turned y ⟨q.M, 8, none⟩ (.slice xa (S.length + 1) xc)
  have hnM : (Value.slice k0 S.length kc0).ownBlock ≠ some q.M := own_ne_cells h.sites h.hm (by decide)
  have hm1 : y.heap[q.M]? = some (.cells (q.cells rg (.slice k0 S.length kc0) av) 77 (0, 0)) := (hT.block _ h.mlt hnM).trans h.hm
  have hnM' : (Value.slice xa (S.length + 1) xc).ownBlock ≠ some q.M := own_ne_cells hown hm1 (by decide)
  have hnr : (Value.slice k0 S.length kc0).ownBlock ≠ some q.rb := MkS.own_ne_regs h.sites h.regs
  have hrg1 : RegsIs y q.rb R := h.regs.at (hT.block _ (MapG.lt h.regs) hnr)
  have hch1 : RdStrs (some q.lo) y (.slice q.fc q.p.chans.length q.fk) q.p.chans := strs_turn h.chs hT (fun b cs hb _ e => by have := (own_is h.sites e).1; have := hb.2; omega)
  have har1 := own_turn h.arrs hT (fun k hk => MkS.own_ne_own h.arrs h.sites (by decide) hk)
  have hb1 := below_then h.below hT h.below.size (fun i e => Nat.le_trans h.c1.1 (own_is h.sites e).1)
  refine ⟨below_then hb1 hsc hb1.size (fun i e => by rw [e]; exact h.lm), ?_, hrg1.at (hsc.block _ (MapG.lt hrg1) (fun e => MkS.regs_ne hrg1 hm1 e)), strs_turn hch1 hsc (fun b cs _ hb e => ?_), ?_, own_turn har1 hsc (fun k hk e => own_ne_cells har1 hm1 (by decide) (by rw [hk, e])), ⟨h.c1.1, Nat.le_trans h.c1.2 (Nat.le_trans hT.size hsc.size)⟩, h.lm, h.lr, ?_⟩
  · rw [heap_setCell_same _ _ _ _ _ _ hm1]
    rfl
  · have e' : b = q.M := e
    subst e'
    rw [hm1] at hb
    simp at hb
  · have h1 := own_turn hown hsc (fun k hk e => hnM' (by rw [hk, e]))
    rw [List.flatMap_append, List.length_append, List.length_singleton]
    simpa using h1
  · intro t ht
    rcases List.mem_append.1 ht with ht | ht
    · exact h.sok t ht
    · rw [List.mem_singleton] at ht; subst ht; exact hs
set_option maxRecDepth 100000 in
set_option maxHeartbeats 6400000 in
/-- **site** adds the sites of instructions. -/
theorem site_any (q : Pre) (rg : Int) (sv av : Value) (R : List (Int × ByteArray)) (S : List ByteArray) (A : List Int) (v : Value) (l : List InstrD) (w : World) (h : q.At rg sv av R S A w) (hr : RdInstrs none q.w0 v l) (hl : S.length + l.length ≤ 1000000) :
    Calls Tryd.prog 34 #[.pointer (some ⟨q.M, 0, none⟩), v] w fun e w' => e = .returned (.tuple #[]) ∧ ∃ sv', q.At rg sv' av R (sitesOf S l) A w' := by
  obtain ⟨a, c, rfl, -, -⟩ := id hr
  obtain ⟨iS, hiS, hzS0, hzS1, hzS2⟩ := info_parts infoStrE
  have H := Lib.hid h
  have HR := Lib.hid hr
  clear h hr
  go_enter Tryd.func34, Tryd.ntmps34
  go_wp2_with fail
  go_loopw [5, 8] (fun _ i wr => ∃ (k : Nat) (sv1 : Value), k ≤ l.length ∧ i = .int .i64 k ∧ q.At rg sv1 av R (sitesOf S (l.take k)) A wr) (fun _ i _ => l.length - (intOf i).toNat)
  case atStart => exact ⟨0, sv, Nat.zero_le _, rfl, H.out⟩
  case round =>
    obtain ⟨wo, rfl⟩ : ∃ x : World, x = wr := ⟨_, rfl⟩
    obtain ⟨k, sv1, hk, rfl, hat⟩ := hrel
    by_cases hlt : k < l.length
    rotate_left
    · obtain rfl : k = l.length := by omega
      have hlt1 : ¬ (l.length : Int) < (l.length : Int) := by omega
      rw [List.take_length] at hat
      have HAT := Lib.hid hat
      clear hat
      go_wp2_with fail
      go_end0
      exact ⟨rfl, sv1, HAT.out⟩
    obtain ⟨x, hx⟩ : ∃ x, l[k]? = some x := ⟨_, List.getElem?_eq_getElem hlt⟩
    have hnx := sites_stepE (s := S) hx
    have hSl := sites_lenE S (l.take k)
    rw [List.length_take] at hSl
    obtain ⟨S1, hS1⟩ : ∃ S1, sitesOf S (l.take k) = S1 := ⟨_, rfl⟩
    rw [hS1] at hat hnx hSl
    have hS1l : S1.length ≤ 1000000 := by omega
    obtain ⟨a', c', e', _, hrr⟩ := HR.out.keep hat.below
    simp only [Value.slice.injEq] at e'
    obtain ⟨rfl, _, rfl⟩ := e'
    obtain ⟨bx, ox, xv, rfl, _, i0, i1, i2, i3, i4, i5, i6, hri⟩ := hrr k x hx
    obtain ⟨aa2, ca2, rfl, _⟩ := id hri.1
    have hnz : x.name.size ≤ maxLen := hri.2.2.2.2.2.2
    have HNX := Lib.hid hnx
    have HNZ := Lib.hid hnz
    have hklt : (k : Int) < (l.length : Int) := by omega
    have hal := (Below.refl wo.heap.size wo).alloc (Nat.le_refl _) (.cells #[.int .u8 x.kind, .int .u8 x.op, .string x.dst, .string x.name, .slice aa2 x.args.length ca2, .int .i64 x.line, .int .i64 x.col] 60)
    have HX := Lib.hid (heap_alloc_new wo (.cells #[.int .u8 x.kind, .int .u8 x.op, .string x.dst, .string x.name, .slice aa2 x.args.length ca2, .int .i64 x.line, .int .i64 x.col] 60))
    obtain ⟨k0, kc0, rfl, _⟩ := own_read hat.sites
    have HAT := Lib.hid (hat.keep hal)
    clear hat hrr hx hnx hSl hS1 hri hal hnz
    go_upto_region 3 with fail
    generalize wo.alloc (.cells #[.int .u8 x.kind, .int .u8 x.op, .string x.dst, .string x.name, .slice aa2 x.args.length ca2, .int .i64 x.line, .int .i64 x.col] 60) = W at *
    obtain ⟨xb, hxb⟩ : ∃ xb, wo.heap.size = xb := ⟨_, rfl⟩
    rw [hxb] at HX
    rw [hxb]
    clear hxb i0 i1 i2 i3 i4 i5 i6
    have p0 := row_of HX.out 0 (.int .u8 x.kind) rfl
    have p3 := row_of HX.out 3 (.string x.name) rfl
    have m8 := row_of HAT.out.hm 8 (.slice k0 S1.length kc0) rfl
    by_cases hk7 : x.kind = 7
    rotate_left
    · have hk1 : (x.kind == 7) = false := by simp [hk7]
      have HNX2 : Hid (sitesOf S (l.take (k + 1)) = S1) := by show _ = _; rw [HNX.out, if_neg (by simp [hk7])]
      clear hk7 HNX
      have e0 := ext_cell p0
      have e3 := ext_cell p3
      have e8 := ext_cell m8
      clear p0 p3 m8
      (refine wp_region_calm (by kernel_rfl) (by kernel_rfl) ?_; (repeat (go_big_quiet_step (fail))); refine wpQuiet_nil ?_; intro wc hwc)
      clear e0 e3 e8
      have HBC := Lib.hid hwc
      clear hwc
      go_wp2_with fail
      go_roundw
      case rel => exact ⟨k + 1, _, by omega, by go_num, by rw [HNX2.out]; exact HAT.out.keep HBC.out⟩
      case measure => simp [intOf]; omega
    have hk1 : (x.kind == 7) = true := by simp [hk7]
    have hsl : RdStrs none W (.slice k0 S1.length kc0) S1 := (own_strs HAT.out.sites (by omega) HAT.out.sok).forget
    have HSL := Lib.hid hsl
    have HCT : Hid (∀ z, Calls Tryd.prog 61 #[.slice k0 S1.length kc0, .string x.name] (ext W z) fun e w' => e = .returned (.bool (inL x.name S1)) ∧ ext W z = w') := fun z => by
      have h1 := slicesContains (.slice k0 S1.length kc0) S1 x.name (ext W z) (HSL.out.keep (ext_below W z))
      rw [hasS_inL] at h1
      exact h1
    have hnx7 := HNX.out
    rw [if_pos hk1] at hnx7
    clear hsl hk7 HNX
    cases hin : inL x.name S1
    rotate_left
    · rw [hin] at HCT
      have HNX2 : Hid (sitesOf S (l.take (k + 1)) = S1) := by show _ = _; rw [hnx7]; unfold putL; rw [hin, if_pos rfl]
      clear hin hnx7
      have e0 := ext_cell p0
      have e3 := ext_cell p3
      have e8 := ext_cell m8
      clear p0 p3 m8
      (refine wp_region_calm (by kernel_rfl) (by kernel_rfl) ?_; (repeat (go_big_quiet_step ((go_at_call 61; exact calls_calm_same (HCT.out _))))); refine wpQuiet_nil ?_; intro wc hwc)
      clear e0 e3 e8
      have HBC := Lib.hid hwc
      clear hwc
      go_wp2_with fail
      go_roundw
      case rel => exact ⟨k + 1, _, by omega, by go_num, by rw [HNX2.out]; exact HAT.out.keep HBC.out⟩
      case measure => simp [intOf]; omega
    rw [hin] at HCT
    have HNX2 : Hid (sitesOf S (l.take (k + 1)) = S1 ++ [x.name]) := by show _ = _; rw [hnx7]; unfold putL; rw [hin, if_neg (by simp)]
    clear hin hnx7
    have e0 := ext_cell p0
    have e3 := ext_cell p3
    have e8 := ext_cell m8
    clear p0 p3 m8
    (refine wp_region_calm (by kernel_rfl) (by kernel_rfl) ?_; (repeat (go_big_quiet_step ((go_at_call 61; exact calls_calm_same (HCT.out _))))); refine wpQuiet_nil ?_; intro wc hwc)
    clear e0 e3 e8 HCT
    go_upto_region 4 with fail
    have HAT1 := Lib.hid (HAT.out.keep hwc)
    have HX1 := Lib.hid ((hwc.block xb (Array.getElem?_eq_some_iff.1 HX.out).1).trans HX.out)
    clear hwc HAT HX HSL
    have l8 := keepS_cell (S := [q.M, xb]) (by simp) (row_of HAT1.out.hm 8 (.slice k0 S1.length kc0) rfl)
    have l3 := keepS_cell (S := [q.M, xb]) (by simp) (row_of HX1.out 3 (.string x.name) rfl)
    have hmw : q.M < wc.heap.size := HAT1.out.mlt
    have hxw : xb < wc.heap.size := (Array.getElem?_eq_some_iff.1 HX1.out).1
    refine wp_region_mixS [q.M, xb] (.one [0, 1, 2, 3, 4, 5, 6, 7] 8 (.one [] 9 (tailOf [10, 11, 12, 13]))) (fun j => decide (10 ≤ j)) (by kernel_rfl) (by kernel_rfl) rfl (by kernel_rfl) (fun _ d _ _ _ h => by cases d <;> exact h) ?_
    have HBd : Hid (Below wc.heap.size wc wc.drew) := (Below.refl _ _).drew
    generalize wc.drew = wn at *
    have HKn := Lib.hid (two_keepS (HBd.out.block q.M hmw) (HBd.out.block xb hxw))
    refine mix_one (by simp only [opsOf, List.filterMap_cons, List.filterMap_nil, List.getElem?_toArray, List.getElem?_cons_succ, List.getElem?_cons_zero]; rfl) ⟨_, keepS_of HKn.out⟩ ?_
    change wpQuiet _ _ _ _ [_, _, _, _, _, _, _, _] _
    (repeat (go_big_quiet_step (fail)))
    clear l8 l3
    refine wpQuiet_nil ?_
    refine mix_step rfl ?_
    go_wp2_with fail
    have HN := Lib.hid (heap_alloc_new wn (.cells #[.string x.name] 9))
    have hal2 : Below wn.heap.size wn (wn.alloc (.cells #[.string x.name] 9)) := (Below.refl _ _).alloc (Nat.le_refl _) _
    have HBn := Lib.hid (bcomp HBd.out hal2)
    have hs1 := HBd.out.size
    have HKa := Lib.hid (two_keepS (hal2.block q.M (by omega)) (hal2.block xb (by omega)))
    clear hal2
    obtain ⟨gb, hgb⟩ : ∃ gb, wn.heap.size = gb := ⟨_, rfl⟩
    rw [hgb] at HN
    try rw [hgb]
    generalize wn.alloc (.cells #[.string x.name] 9) = wa at *
    have HKw := Lib.hid (fun b hb => (HKa.out b hb).trans (HKn.out b hb) : ∀ b ∈ [q.M, xb], wa.heap[b]? = wc.heap[b]?)
    have HAa := Lib.hid (HAT1.out.keep HBn.out)
    clear hgb
    (first | refine ⟨fun _ => ⟨_, keepS_of HKw.out⟩, ?_⟩ | refine ⟨⟨_, keepS_of HKw.out⟩, ?_⟩)
    refine mix_now ?_
    refine mix_step rfl ?_
    try (simp only [Act.put, List.setIfInBounds_toArray, List.set_cons_succ, List.set_cons_zero, List.getElem_toArray, List.getElem_cons_succ, List.getElem_cons_zero])
    have hc1 := HAa.out.c1.2
    refine wpList_append_own_at _ rfl (.tmp 31) (.tmp 34) 22 rfl q.c1 9 iS (.string ⟨#[]⟩) 1 16 Tryd.underlying22 hiS hzS0 hzS1 hzS2 rfl (by decide) _ _ _ rfl HAa.out.sites ⟨gb, 0, none⟩ 1 1 (strCells x.name) rfl rfl ?hnw ?hone ?h63 ?hby hc1 ?_
    case hnw =>
      intro j u hu
      have e : (⟨gb, 0, none⟩ : Addr).add j = ⟨gb, j, none⟩ := by simp [Addr.add]; omega
      rw [e]
      exact row_of HN.out j u (by rw [← List.getElem?_toArray] at hu; exact hu)
    case hone => intro u hu; simp only [strCells, List.mem_cons, List.not_mem_nil, or_false] at hu; rcases hu with rfl; rfl
    case h63 => unfold maxLen; omega
    case hby => omega
    intro v' w4 hown' hgrow _ hblk
    have hT4 : Turned (fun k => (Value.slice k0 S1.length kc0).ownBlock = some k) wa w4 := Turned.of_grown hgrow (fun b e => e)
    have hkM : (Value.slice k0 S1.length kc0).ownBlock ≠ some q.M := own_ne_cells HAa.out.sites HAa.out.hm (by decide)
    have hkx : (Value.slice k0 S1.length kc0).ownBlock ≠ some xb := own_ne_cells HAa.out.sites ((HKw.out xb (by simp)).trans HX1.out) (by decide)
    have hm4 := (hT4.block q.M HAa.out.mlt hkM).trans HAa.out.hm
    have hsz := HBn.out.size
    have HKf := Lib.hid (two_keepS ((hT4.block q.M HAa.out.mlt hkM).trans (HKw.out q.M (by simp))) ((hT4.block xb (by omega) hkx).trans (HKw.out xb (by simp))))
    obtain ⟨xa, xc, rfl, _⟩ := own_read hown'
    have HT4 := Lib.hid hT4
    have HO4 := Lib.hid hown'
    have HM4 := Lib.hid hm4
    clear hown' hgrow hblk hT4 hkM hkx
    try (simp only [Act.put, List.setIfInBounds_toArray, List.set_cons_succ, List.set_cons_zero, List.getElem_toArray, List.getElem_cons_succ, List.getElem_cons_zero])
    (first | refine ⟨fun _ => ⟨_, keepS_of HKf.out⟩, ?_⟩ | refine ⟨⟨_, keepS_of HKf.out⟩, ?_⟩)
    have c8 := row_of hm4 8 (.slice k0 S1.length kc0) rfl
    have f8 := frozen_of_row w4 q.M 8 _ _ hm4
    clear hm4
    refine mix_tail [10, 11, 12, 13] [_, _, _, _] _ _ rfl rfl ?_
    simp only [Act.put, List.setIfInBounds_toArray, List.set_cons_succ, List.set_cons_zero, List.getElem_toArray, List.getElem_cons_succ, List.getElem_cons_zero]
    go_wp2_with fail
    go_roundw
    case rel => exact ⟨k + 1, _, by omega, by go_num, by rw [HNX2.out]; exact At.sited x.name HNZ.out HAa.out HT4.out HO4.out⟩
    case measure => simp [intOf]; omega
end Pre
end Go.Proofs.YtgcfdbhpophnjaaDoor
