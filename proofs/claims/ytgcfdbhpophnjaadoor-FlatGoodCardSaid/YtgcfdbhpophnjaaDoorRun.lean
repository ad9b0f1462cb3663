/- What holds of memory while a check runs: the checker's block, its maps, its list of labels; and the check as a chain of parts. Plain lemmas. No condition. Contract of (*checker).run: it returns, or panics with the first fault of the program. Conditions: the program reads; the checker's block and its maps are new and apart. -/
import Derived.Test.YtgcfdbhpophnjaaDoorIns
import Derived.Test.YtgcfdbhpophnjaaDoorLop

set_option linter.unusedVariables false
set_option linter.unusedSimpArgs false
namespace Go.Proofs.YtgcfdbhpophnjaaDoor
open Go.ChangeShapes Go.WideShapes Go.ChangeAt Go.RowKit
section
variable (p : ProgD)
noncomputable def r10 : Option FaultD := loopsF p.funcs
noncomputable def r9 : Option FaultD := (targetsF (paramsOf p.funcs) (labelsOf p.main) p.main).or (r10 p)
noncomputable def r8 : Option FaultD := (targsF p.funcs).or (r9 p)
noncomputable def r7 : Option FaultD := (instrsF p.chans (aNames p.arrays) true (sitesOf [] (codesOf p.funcs)) p.main 0 0).or (r8 p)
noncomputable def r6 : Option FaultD := (funcsF p.chans (aNames p.arrays) p.funcs).or (r7 p)
noncomputable def r5 : Option FaultD := (needF (decide (p.funcs.length ≤ 32)) 0 0 5).or (r6 p)
noncomputable def r4 : Option FaultD := (arrsF p.arrays).or (r5 p)
noncomputable def r3 : Option FaultD := (needF (decide (p.arrays.length ≤ 32)) 0 0 5).or (r4 p)
noncomputable def r2 : Option FaultD := (declsF p.chans 0 0).or (r3 p)
noncomputable def r1 : Option FaultD := (needF (decide (p.chans.length ≤ 32)) 0 0 5).or (r2 p)
theorem check_r : checkF p = (needF (decide (1 ≤ p.width) && decide (p.width ≤ 64)) 0 0 3).or (r1 p) := rfl
end
theorem or_some {a b c : Option FaultD} {F : FaultD} (h : a = b.or c) (hb : b = some F) : a = some F := by rw [h, hb]; rfl
theorem or_none {a b c : Option FaultD} (h : a = b.or c) (hb : b = none) : a = c := by rw [h, hb]; rfl
/-- The checker's block, its maps, the list of labels, and the two boxes of run. -/
structure RunAt (w0 : World) (p : ProgD) (cv av fv mv : Value) (cb bc ba bs bp q : Nat) (ch ar si : List ByteArray) (pa : List (ByteArray × Int)) (lv : Value) (labs : List (Nat × List ByteArray)) (w : World) : Prop where
  below : Below w0.heap.size w0 w
  rd0 : RdProg none w0 p cv av fv mv
  laid0 : Laid w0
  ck : w.heap[cb]? = some (.cells #[.int .i64 p.width, cv, av, fv, mv, .map (some bc), .map (some ba), .map (some bs), .map (some bp), lv] 112 (0,0))
  hc : SetIs w bc ch
  ha : SetIs w ba ar
  hs : SetIs w bs si
  hp : IntsIs w bp pa
  own : w.ownsRow w0.heap.size 108 1 lv labs.length (labs.map fun x => .map (some x.1))
  hl : ∀ x ∈ labs, SetIs w x.1 x.2 ∧ x.1 ≠ bs ∧ x.1 ≠ bp
  b2 : w.heap[q]? = some (.cells #[.int .i64 0, .int .i64 0] 50 (0,0))
  b3 : w.heap[q + 1]? = some (.cells #[.int .i64 p.width, cv, av, fv, mv] 27 (0,0))
/-- The blocks are apart, and all of them are new. -/
structure RunB (w0 : World) (cb bc ba bs bp q : Nat) : Prop where
  gcb : w0.heap.size ≤ cb
  gbc : w0.heap.size ≤ bc
  gba : w0.heap.size ≤ ba
  gbs : w0.heap.size ≤ bs
  gbp : w0.heap.size ≤ bp
  nca : bc ≠ ba
  ncs : bc ≠ bs
  ncp : bc ≠ bp
  nas : ba ≠ bs
  nap : ba ≠ bp
  nsp : bs ≠ bp
theorem inL_false_paramsOf {l : List FuncD} {s : ByteArray} (h : inL s (fNames l) = false) : ∀ x ∈ paramsOf l, x.1 ≠ s := by
  intro x hx e
  obtain ⟨f, hf, rfl⟩ := List.mem_map.1 hx
  exact inL_not.1 h (List.mem_map.2 ⟨f, hf, e⟩)
theorem declF_none {acc : List ByteArray} {s : ByteArray} {l c : Int} (h : declF acc s l c = none) : named s = true ∧ inL s acc = false := by
  unfold declF at h
  rw [Option.or_eq_none_iff] at h
  obtain ⟨h1, h2⟩ := h
  unfold needF at h1 h2
  constructor
  · cases hn : named s
    · rw [hn] at h1; cases h1
    · rfl
  · cases hn : inL s acc
    · rfl
    · rw [hn] at h2; cases h2
theorem apart_of_prefix : ∀ (l : List FuncD), (∀ (p : List FuncD) x r, l = p ++ x :: r → x.name ∉ fNames p) → (paramsOf l).Pairwise (fun a b => a.1 ≠ b.1)
  | [], _ => List.Pairwise.nil
  | a :: t, h => by
    refine List.pairwise_cons.2 ⟨fun b hb e => ?_, apart_of_prefix t (fun p x r e hm => ?_)⟩
    · obtain ⟨f, hf, rfl⟩ := List.mem_map.1 hb
      obtain ⟨p, r, rfl⟩ := List.append_of_mem hf
      exact h (a :: p) f r rfl (by simp only [fNames, List.map_cons, List.mem_cons]; left; exact e.symm)
    · exact h (a :: p) x r (by rw [e]; rfl) (by simp only [fNames, List.map_cons, List.mem_cons]; right; exact hm)
theorem funcs_apart {chans arrays : List ByteArray} {l : List FuncD} (h : funcsF chans arrays l = none) : (paramsOf l).Pairwise (fun a b => a.1 ≠ b.1) := by
  refine apart_of_prefix l (fun p x r e hm => ?_)
  have := (firstF_none _ l []).1 h p x r e
  unfold funcF at this
  rw [Option.or_eq_none_iff] at this
  exact inL_not.1 (declF_none this.1).2 hm
theorem targs_there {fs : List FuncD} (h : targsF fs = none) : ∀ f ∈ fs, ∀ g ∈ callsOf f.code, g ∈ fNames fs := by
  intro f hf g hg
  obtain ⟨p, r, e⟩ := List.append_of_mem hf
  have h1 := (firstF_none _ fs []).1 h p f r e
  obtain ⟨x, hx, rfl⟩ := List.mem_map.1 hg
  obtain ⟨hx1, hx2⟩ := List.mem_filter.1 hx
  obtain ⟨p', r', e'⟩ := List.append_of_mem hx1
  have h2 := (firstF_none _ f.code []).1 h1 p' x r' e'
  rw [targetF_call _ _ x hx2, Option.or_eq_none_iff] at h2
  have h3 := h2.1
  cases ha : atL x.name (paramsOf fs) with
  | none => rw [ha] at h3; cases h3
  | some n =>
    unfold atL at ha
    rw [Option.map_eq_some_iff] at ha
    obtain ⟨y, hy, _⟩ := ha
    have hm := List.mem_of_find?_eq_some hy
    have he := List.find?_some hy
    obtain ⟨f', hf', rfl⟩ := List.mem_map.1 hm
    exact List.mem_map.2 ⟨f', hf', by simpa using he⟩
section
variable {w0 : World} {p : ProgD} {cv av fv mv : Value} {cb bc ba bs bp q : Nat} {ch ar si : List ByteArray} {pa : List (ByteArray × Int)} {lv : Value} {labs : List (Nat × List ByteArray)} {w w' : World}
theorem RunAt.rd (h : RunAt w0 p cv av fv mv cb bc ba bs bp q ch ar si pa lv labs w) : RdProg none w p cv av fv mv := h.rd0.keep h.below
theorem RunAt.laid (h : RunAt w0 p cv av fv mv cb bc ba bs bp q ch ar si pa lv labs w) : Laid w := h.laid0.keep h.below
theorem RunAt.keep (h : RunAt w0 p cv av fv mv cb bc ba bs bp q ch ar si pa lv labs w) (b : Below w.heap.size w w') : RunAt w0 p cv av fv mv cb bc ba bs bp q ch ar si pa lv labs w' :=
  ⟨h.below.trans (b.mono h.below.size), h.rd0, h.laid0, (b.block _ (Array.getElem?_eq_some_iff.1 h.ck).1).trans h.ck, h.hc.keep b, h.ha.keep b, h.hs.keep b, h.hp.keep b, own_below h.own b, fun x hx => ⟨(h.hl x hx).1.keep b, (h.hl x hx).2⟩, (b.block _ (Array.getElem?_eq_some_iff.1 h.b2).1).trans h.b2, (b.block _ (Array.getElem?_eq_some_iff.1 h.b3).1).trans h.b3⟩
/-- A map that is none of the program's, written. -/
theorem RunAt.turn (h : RunAt w0 p cv av fv mv cb bc ba bs bp q ch ar si pa lv labs w) {b : Nat} {L : List (ByteArray × Value)} (hm : MapIs w b L) (hg : w.grownBy w' (some b)) (hb : w0.heap.size ≤ b) :
    Below w0.heap.size w0 w' ∧ w'.heap[cb]? = some (.cells #[.int .i64 p.width, cv, av, fv, mv, .map (some bc), .map (some ba), .map (some bs), .map (some bp), lv] 112 (0,0)) ∧
      w'.ownsRow w0.heap.size 108 1 lv labs.length (labs.map fun x => .map (some x.1)) ∧ w'.heap[q]? = some (.cells #[.int .i64 0, .int .i64 0] 50 (0,0)) ∧ w'.heap[q + 1]? = some (.cells #[.int .i64 p.width, cv, av, fv, mv] 27 (0,0)) ∧
      Turned (fun k => k = b) w w' := by
  have ht : Turned (fun k => k = b) w w' := Turned.of_grown hg (fun b e => by cases e; rfl)
  have hbl : ∀ {g : Nat} {cs : Array Value} {T : TypeId}, w.heap[g]? = some (.cells cs T (0,0)) → w'.heap[g]? = some (.cells cs T (0,0)) := fun hc => (ht.block _ (Array.getElem?_eq_some_iff.1 hc).1 (fun e => map_ne_cells hm hc e.symm)).trans hc
  exact ⟨below_then h.below ht h.below.size (fun i e => by omega), hbl h.ck, own_turn h.own ht (fun k hk' e => own_ne_map h.own hm (by rw [hk', e])), hbl h.b2, hbl h.b3, ht⟩
theorem RunAt.setC (h : RunAt w0 p cv av fv mv cb bc ba bs bp q ch ar si pa lv [] w) (B : RunB w0 cb bc ba bs bp q) {ch' : List ByteArray} (hg : w.grownBy w' (some bc)) (hs : SetIs w' bc ch') : RunAt w0 p cv av fv mv cb bc ba bs bp q ch' ar si pa lv [] w' := by
  obtain ⟨h1, h4, h5, h6, h7, ht⟩ := h.turn h.hc hg B.gbc
  exact ⟨h1, h.rd0, h.laid0, h4, hs, h.ha.turn ht (fun e => B.nca e.symm), h.hs.turn ht (fun e => B.ncs e.symm), h.hp.turn ht (fun e => B.ncp e.symm), h5, (fun x hx => nomatch hx), h6, h7⟩
theorem RunAt.setA (h : RunAt w0 p cv av fv mv cb bc ba bs bp q ch ar si pa lv [] w) (B : RunB w0 cb bc ba bs bp q) {ar' : List ByteArray} (hg : w.grownBy w' (some ba)) (hs : SetIs w' ba ar') : RunAt w0 p cv av fv mv cb bc ba bs bp q ch ar' si pa lv [] w' := by
  obtain ⟨h1, h4, h5, h6, h7, ht⟩ := h.turn h.ha hg B.gba
  exact ⟨h1, h.rd0, h.laid0, h4, h.hc.turn ht B.nca, hs, h.hs.turn ht (fun e => B.nas e.symm), h.hp.turn ht (fun e => B.nap e.symm), h5, (fun x hx => nomatch hx), h6, h7⟩
theorem RunAt.setP (h : RunAt w0 p cv av fv mv cb bc ba bs bp q ch ar si pa lv labs w) (B : RunB w0 cb bc ba bs bp q) {pa' : List (ByteArray × Int)} (hg : w.grownBy w' (some bp)) (hs : IntsIs w' bp pa') : RunAt w0 p cv av fv mv cb bc ba bs bp q ch ar si pa' lv labs w' := by
  obtain ⟨h1, h4, h5, h6, h7, ht⟩ := h.turn h.hp hg B.gbp
  exact ⟨h1, h.rd0, h.laid0, h4, h.hc.turn ht B.ncp, h.ha.turn ht B.nap, h.hs.turn ht B.nsp, hs, h5, fun x hx => ⟨(h.hl x hx).1.turn ht (h.hl x hx).2.2, (h.hl x hx).2⟩, h6, h7⟩
/-- A map of names that is none of the checker's, written. -/
theorem RunAt.setF (h : RunAt w0 p cv av fv mv cb bc ba bs bp q ch ar si pa lv labs w) {b : Nat} {L : List (ByteArray × Value)} (hm : MapIs w b L) (hb : w0.heap.size ≤ b) (h1 : b ≠ bc) (h2 : b ≠ ba) (h3 : b ≠ bs) (h4 : b ≠ bp) (h5 : ∀ x ∈ labs, x.1 ≠ b) (hg : w.grownBy w' (some b)) : RunAt w0 p cv av fv mv cb bc ba bs bp q ch ar si pa lv labs w' := by
  obtain ⟨k1, k4, k5, k6, k7, ht⟩ := h.turn hm hg hb
  exact ⟨k1, h.rd0, h.laid0, k4, h.hc.turn ht (fun e => h1 e.symm), h.ha.turn ht (fun e => h2 e.symm), h.hs.turn ht (fun e => h3 e.symm), h.hp.turn ht (fun e => h4 e.symm), k5, fun x hx => ⟨(h.hl x hx).1.turn ht (h5 x hx), (h.hl x hx).2⟩, k6, k7⟩
/-- Behind instrs. -/
theorem RunAt.ins (h : RunAt w0 p cv av fv mv cb bc ba bs bp q ch ar si pa lv labs w) (B : RunB w0 cb bc ba bs bp q) {si' : List ByteArray} {lv' : Value} {lb : Nat} {lab : List ByteArray}
    (ht : Turned (fun k => k = bs ∨ k = cb ∨ lv.ownBlock = some k) w w') (hlb : w.heap.size ≤ lb) (hlab : SetIs w' lb lab) (hsi : SetIs w' bs si')
    (hck : w'.heap[cb]? = some (.cells #[.int .i64 p.width, cv, av, fv, mv, .map (some bc), .map (some ba), .map (some bs), .map (some bp), lv'] 112 (0,0))) (hown : w'.ownsRow w0.heap.size 108 1 lv' (labs.length + 1) ((labs.map fun x => .map (some x.1)) ++ [.map (some lb)])) :
    RunAt w0 p cv av fv mv cb bc ba bs bp q ch ar si' pa lv' (labs ++ [(lb, lab)]) w' := by
  have hbel : Below w0.heap.size w0 w' := below_then h.below ht h.below.size (fun i e => by
    rcases e with e | e | e
    · have := B.gbs; omega
    · have := B.gcb; omega
    · exact (own_is h.own e).1)
  have hmap : ∀ {b : Nat} {L : List (ByteArray × Value)}, MapIs w b L → b ≠ bs → ¬ (b = bs ∨ b = cb ∨ lv.ownBlock = some b) := fun hm hne e => by
    rcases e with e | e | e
    · exact hne e
    · exact map_ne_cells hm h.ck e
    · exact own_ne_map h.own hm e
  have hbox : ∀ {g : Nat} {cs : Array Value} {T : TypeId}, w.heap[g]? = some (.cells cs T (0,0)) → T ≠ 108 → T ≠ 112 → w'.heap[g]? = some (.cells cs T (0,0)) := fun {g cs T} hc h1 h2 => by
    refine (ht.block _ (Array.getElem?_eq_some_iff.1 hc).1 (fun e => ?_)).trans hc
    rcases e with e | e | e
    · exact map_ne_cells h.hs hc e.symm
    · rw [e, h.ck] at hc; simp at hc; exact h2 hc.2.symm
    · exact own_ne_cells h.own hc h1 e
  refine ⟨hbel, h.rd0, h.laid0, hck, h.hc.turn ht (hmap h.hc B.ncs), h.ha.turn ht (hmap h.ha B.nas), hsi, h.hp.turn ht (hmap h.hp (fun e => B.nsp e.symm)), ?_, ?_, hbox h.b2 (by decide) (by decide), hbox h.b3 (by decide) (by decide)⟩
  · rw [List.length_append, List.map_append]; exact hown
  · intro x hx
    rcases List.mem_append.1 hx with hx | hx
    · exact ⟨(h.hl x hx).1.turn ht (hmap (h.hl x hx).1 (h.hl x hx).2.1), (h.hl x hx).2⟩
    · rw [List.mem_singleton] at hx; subst hx
      exact ⟨hlab, by have := h.hs.lt; simp only; omega, by have := h.hp.lt; simp only; omega⟩
end
open Go.ChangeShapes Go.WideShapes Go.ChangeAt Go.RowKit
theorem width_cases (z : Int) : (z < 1) ∨ (1 ≤ z ∧ 64 < z) ∨ (1 ≤ z ∧ z ≤ 64) := by omega
set_option maxRecDepth 100000 in
set_option maxHeartbeats 51200000 in
theorem run_any (w0 w : World) (p : ProgD) (cv av fv mv : Value) (cb bc ba bs bp : Nat) (h0 : RdProg none w0 p cv av fv mv) (hL : Laid w0) (hb : Below w0.heap.size w0 w)
    (hck : w.heap[cb]? = some (.cells #[.int .i64 p.width, cv, av, fv, mv, .map (some bc), .map (some ba), .map (some bs), .map (some bp), .slice none 0 0] 112 (0,0)))
    (hc : SetIs w bc []) (ha : SetIs w ba []) (hs : SetIs w bs []) (hp : IntsIs w bp []) (B : RunB w0 cb bc ba bs bp w.heap.size) :
    Calls Tryd.prog 57 #[.pointer (some ⟨cb, 0, none⟩)] w fun e w' => e = endF (checkF p) ∧ Below w0.heap.size w0 w' := by
  obtain ⟨hrc, hra, hrf, hrm, hrw⟩ := id h0
  obtain ⟨ac, kc, rfl, hcl, -⟩ := id hrc
  obtain ⟨aa, ka, rfl, hal, -⟩ := id hra
  obtain ⟨af, kf, rfl, hfl, -⟩ := id hrf
  obtain ⟨am, km, rfl, hml, -⟩ := id hrm
  obtain ⟨hw1, hw2⟩ := hrw
  have h2 : Hid (RunAt w0 p (.slice ac p.chans.length kc) (.slice aa p.arrays.length ka) (.slice af p.funcs.length kf) (.slice am p.main.length km) cb bc ba bs bp w.heap.size [] [] [] [] (.slice none 0 0) [] ((w.alloc (.cells #[.int .i64 0, .int .i64 0] 50)).alloc (.cells #[.int .i64 p.width, .slice ac p.chans.length kc, .slice aa p.arrays.length ka, .slice af p.funcs.length kf, .slice am p.main.length km] 27))) := by
    have hb1 : Below w.heap.size w (w.alloc (.cells #[.int .i64 0, .int .i64 0] 50)) := (Below.refl _ _).alloc (Nat.le_refl _) _
    have hb2 : Below (w.alloc (.cells #[.int .i64 0, .int .i64 0] 50)).heap.size (w.alloc (.cells #[.int .i64 0, .int .i64 0] 50)) ((w.alloc (.cells #[.int .i64 0, .int .i64 0] 50)).alloc (.cells #[.int .i64 p.width, .slice ac p.chans.length kc, .slice aa p.arrays.length ka, .slice af p.funcs.length kf, .slice am p.main.length km] 27)) := (Below.refl _ _).alloc (Nat.le_refl _) _
    have hbb := bcomp hb1 hb2
    exact ⟨hb.trans (hbb.mono hb.size), h0, hL, (hbb.block _ (Array.getElem?_eq_some_iff.1 hck).1).trans hck, hc.keep hbb, ha.keep hbb, hs.keep hbb, hp.keep hbb, World.ownsRow_nil _ _ _ _, (fun x hx => nomatch hx), heap_alloc2_old _ _ _, heap_alloc2_new _ _ _⟩
  have k0 := row_of hck 0 (.int .i64 p.width) rfl
  have k1 := row_of hck 1 (.slice ac p.chans.length kc) rfl
  have k2 := row_of hck 2 (.slice aa p.arrays.length ka) rfl
  have k3 := row_of hck 3 (.slice af p.funcs.length kf) rfl
  have k4 := row_of hck 4 (.slice am p.main.length km) rfl
  have HC0 := Lib.hid (check_r p)
  have hmm := @run_makeMap Tryd.prog
  have HBB := Lib.hid B
  have hltc : cb < w.heap.size := (Array.getElem?_eq_some_iff.1 hck).1
  clear h0 hL hb hc ha hs hp B hrc hra hrf hrm hck
  go_enter Tryd.func57, Tryd.ntmps57
  go_upto_region 2 with fail
  generalize hW : ((w.alloc (.cells #[.int .i64 0, .int .i64 0] 50)).alloc (.cells #[.int .i64 p.width, .slice ac p.chans.length kc, .slice aa p.arrays.length ka, .slice af p.funcs.length kf, .slice am p.main.length km] 27)) = W1 at *
  clear hW k0 k1 k2 k3 k4
  generalize w.heap.size = q at *
  have b0 := row_of h2.out.b3 0 (.int .i64 p.width) rfl
  have b1 := row_of h2.out.b3 1 (.slice ac p.chans.length kc) rfl
  have b2 := row_of h2.out.b3 2 (.slice aa p.arrays.length ka) rfl
  have b3 := row_of h2.out.b3 3 (.slice af p.funcs.length kf) rfl
  have b4 := row_of h2.out.b3 4 (.slice am p.main.length km) rfl
  have z0 := row_of h2.out.b2 0 (.int .i64 0) rfl
  have z1 := row_of h2.out.b2 1 (.int .i64 0) rfl
  rcases width_cases p.width with hw | ⟨hw, hw'⟩ | ⟨hw, hw'⟩
  · have hA : Hid (checkF p = some ⟨0, 0, 3⟩) := or_some HC0.out (by rw [decide_eq_false (by omega)]; rfl)
    go_wp2_with fail
    refine (need_bad 0 0 3 _).mono ?_
    rintro e w3 ⟨rfl, hb3⟩
    exact ⟨rfl, by rw [hA.out]; rfl, (h2.out.keep hb3).below⟩
  · have hA : Hid (checkF p = some ⟨0, 0, 3⟩) := or_some HC0.out (by rw [decide_eq_false (p := p.width ≤ 64) (by omega), Bool.and_false]; rfl)
    have hw2' : decide (p.width ≤ 64) = false := decide_eq_false (by omega)
    go_wp2_with fail
    refine (need_bad 0 0 3 _).mono ?_
    rintro e w3 ⟨rfl, hb3⟩
    exact ⟨rfl, by rw [hA.out]; rfl, (h2.out.keep hb3).below⟩
  have HC1 : Hid (checkF p = r1 p) := or_none HC0.out (by rw [decide_eq_true hw, decide_eq_true hw']; rfl)
  go_wp2_with fail
  refine (need_ok 0 0 3 _).mono ?_
  rintro e w3 ⟨rfl, hb3⟩
  have h3 := Lib.hid (h2.out.keep hb3)
  clear b0 b1 b2 b3 b4 z0 z1 hw hw' HC0 h2 hb3
  have b1 := row_of h3.out.b3 1 (.slice ac p.chans.length kc) rfl
  have b2 := row_of h3.out.b3 2 (.slice aa p.arrays.length ka) rfl
  have b3 := row_of h3.out.b3 3 (.slice af p.funcs.length kf) rfl
  have b4 := row_of h3.out.b3 4 (.slice am p.main.length km) rfl
  have z0 := row_of h3.out.b2 0 (.int .i64 0) rfl
  have z1 := row_of h3.out.b2 1 (.int .i64 0) rfl
  by_cases hlc : p.chans.length ≤ 32
  rotate_left
  · have hA : Hid (checkF p = some ⟨0, 0, 5⟩) := or_some HC1.out (by rw [decide_eq_false hlc]; rfl)
    have hlc' : decide ((p.chans.length : Int) ≤ 32) = false := decide_eq_false (by omega)
    go_wp2_with fail
    refine (need_bad 0 0 5 _).mono ?_
    rintro e w4 ⟨rfl, hbx⟩
    exact ⟨rfl, by rw [hA.out]; rfl, (h3.out.keep hbx).below⟩
  have HC2 : Hid (checkF p = r2 p) := or_none HC1.out (by rw [decide_eq_true hlc]; rfl)
  have hlc' : (p.chans.length : Int) ≤ 32 := by omega
  go_wp2_with fail
  refine (need_ok 0 0 5 _).mono ?_
  rintro e w4 ⟨rfl, hbx⟩
  have h4 := Lib.hid (h3.out.keep hbx)
  clear b1 b2 b3 b4 z0 z1 hbx HC1 h3 hlc'
  have b1 := row_of h4.out.b3 1 (.slice ac p.chans.length kc) rfl
  have b2 := row_of h4.out.b3 2 (.slice aa p.arrays.length ka) rfl
  have b3 := row_of h4.out.b3 3 (.slice af p.funcs.length kf) rfl
  have b4 := row_of h4.out.b3 4 (.slice am p.main.length km) rfl
  have z0 := row_of h4.out.b2 0 (.int .i64 0) rfl
  have z1 := row_of h4.out.b2 1 (.int .i64 0) rfl
  go_wp2
  go_loopw [42] (fun i wr => ∃ k : Nat, k ≤ p.chans.length ∧ i = .int .i64 k ∧ Hid (RunAt w0 p (.slice ac p.chans.length kc) (.slice aa p.arrays.length ka) (.slice af p.funcs.length kf) (.slice am p.main.length km) cb bc ba bs bp q (p.chans.take k) [] [] [] (.slice none 0 0) [] wr) ∧ Hid (declsF p.chans 0 0 = firstF (fun d s => declF d s 0 0) (p.chans.take k) (p.chans.drop k))) (fun i _ => p.chans.length - (intOf i).toNat)
  case atStart => exact ⟨0, Nat.zero_le _, rfl, h4, rfl⟩
  case round =>
    obtain ⟨k, hk, rfl, hR, hq⟩ := hrel
    clear b1 b2 b3 b4 z0 z1 h4
    by_cases hlt : k < p.chans.length
    · obtain ⟨x, hx⟩ : ∃ x, p.chans[k]? = some x := ⟨_, List.getElem?_eq_getElem hlt⟩
      obtain ⟨ac', kc', hce, _, hrr⟩ := hR.out.rd.1
      simp only [Value.slice.injEq] at hce
      obtain ⟨rfl, _, rfl⟩ := hce
      obtain ⟨b, o, rfl, _, c0, hxs⟩ := hrr k x hx
      have HX := Lib.hid hx
      have hlt2 : (k : Int) < (p.chans.length : Int) := by omega
      clear hrr hx
      go_upto_region 7 with fail
      have e5 := ext_cell (row_of hR.out.ck 5 (.map (some bc)) rfl)
      have e0 := ext_cell (row_of hR.out.b2 0 (.int .i64 0) rfl)
      have e1 := ext_cell (row_of hR.out.b2 1 (.int .i64 0) rfl)
      clear c0
      (refine wp_region_calm_tail 6 (by kernel_rfl) (by kernel_rfl) ?_; simp only [List.take_succ_cons, List.take_zero, List.drop_succ_cons, List.drop_zero]; (repeat (go_big_quiet_step (fail))); refine wpQuiet_nil ?_; intro wc hwc)
      have hR2 := Lib.hid (hR.out.keep hwc)
      clear e5 e0 e1 hR
      go_wp2_with fail
      refine (declare_any bc (p.chans.take k) x 0 0 _ hxs hR2.out.laid hR2.out.hc).mono ?_
      rintro e w5 ⟨he, hS, hg⟩
      cases hd : declF (p.chans.take k) x 0 0 with
      | some F =>
        rw [hd] at he
        subst he
        have hA : Hid (checkF p = some F) := or_some HC2.out (firstF_fault hq.out HX.out hd)
        exact ⟨rfl, by rw [hA.out]; rfl, (hR2.out.turn hR2.out.hc hg HBB.out.gbc).1⟩
      | none =>
        rw [hd] at he
        subst he
        have hQ : Hid (declsF p.chans 0 0 = firstF (fun d s => declF d s 0 0) (p.chans.take (k + 1)) (p.chans.drop (k + 1))) := firstF_ok hq.out HX.out hd
        have hJ : Hid (RunAt w0 p (.slice (some ⟨b, o, none⟩) p.chans.length kc) (.slice aa p.arrays.length ka) (.slice af p.funcs.length kf) (.slice am p.main.length km) cb bc ba bs bp q (p.chans.take (k + 1)) [] [] [] (.slice none 0 0) [] w5) := by
          have h1 := hR2.out.setC HBB.out hg (hS hd)
          rw [List.take_add_one, HX.out]; exact h1
        clear hS hg hd hR2 hwc
        go_wp2_with fail
        go_roundw
        case rel => exact ⟨k + 1, by omega, by go_num, hJ, hQ⟩
        case measure => simp [intOf]; omega
    obtain rfl : k = p.chans.length := by omega
    have HC3 : Hid (checkF p = r3 p) := or_none HC2.out (firstF_end hq.out)
    have h5 : Hid (RunAt w0 p (.slice ac p.chans.length kc) (.slice aa p.arrays.length ka) (.slice af p.funcs.length kf) (.slice am p.main.length km) cb bc ba bs bp q p.chans [] [] [] (.slice none 0 0) [] wr) := by have := hR.out; rw [List.take_length] at this; exact this
    clear hR hq HC2
    have b1 := row_of h5.out.b3 1 (.slice ac p.chans.length kc) rfl
    have b2 := row_of h5.out.b3 2 (.slice aa p.arrays.length ka) rfl
    have b3 := row_of h5.out.b3 3 (.slice af p.funcs.length kf) rfl
    have b4 := row_of h5.out.b3 4 (.slice am p.main.length km) rfl
    have z0 := row_of h5.out.b2 0 (.int .i64 0) rfl
    have z1 := row_of h5.out.b2 1 (.int .i64 0) rfl
    by_cases hlc : p.arrays.length ≤ 32
    rotate_left
    · have hA : Hid (checkF p = some ⟨0, 0, 5⟩) := or_some HC3.out (by rw [decide_eq_false hlc]; rfl)
      have hlc' : decide ((p.arrays.length : Int) ≤ 32) = false := decide_eq_false (by omega)
      go_wp2_with fail
      refine (need_bad 0 0 5 _).mono ?_
      rintro e w4 ⟨rfl, hbx⟩
      exact ⟨rfl, by rw [hA.out]; rfl, (h5.out.keep hbx).below⟩
    have HC4 : Hid (checkF p = r4 p) := or_none HC3.out (by rw [decide_eq_true hlc]; rfl)
    have hlc' : (p.arrays.length : Int) ≤ 32 := by omega
    go_wp2_with fail
    refine (need_ok 0 0 5 _).mono ?_
    rintro e w4 ⟨rfl, hbx⟩
    have h6 := Lib.hid (h5.out.keep hbx)
    clear b1 b2 b3 b4 z0 z1 hbx HC3 h5 hlc'
    have b1 := row_of h6.out.b3 1 (.slice ac p.chans.length kc) rfl
    have b2 := row_of h6.out.b3 2 (.slice aa p.arrays.length ka) rfl
    have b3 := row_of h6.out.b3 3 (.slice af p.funcs.length kf) rfl
    have b4 := row_of h6.out.b3 4 (.slice am p.main.length km) rfl
    have z0 := row_of h6.out.b2 0 (.int .i64 0) rfl
    have z1 := row_of h6.out.b2 1 (.int .i64 0) rfl
    go_wp2
    go_loopw [63] (fun i wr => ∃ k : Nat, k ≤ p.arrays.length ∧ i = .int .i64 k ∧ Hid (RunAt w0 p (.slice ac p.chans.length kc) (.slice aa p.arrays.length ka) (.slice af p.funcs.length kf) (.slice am p.main.length km) cb bc ba bs bp q p.chans (aNames (p.arrays.take k)) [] [] (.slice none 0 0) [] wr) ∧ Hid (arrsF p.arrays = firstF arrF (p.arrays.take k) (p.arrays.drop k))) (fun i _ => p.arrays.length - (intOf i).toNat)
    case atStart => exact ⟨0, Nat.zero_le _, rfl, h6, rfl⟩
    case round =>
      obtain ⟨k, hk, rfl, hR, hq⟩ := hrel
      clear b1 b2 b3 b4 z0 z1 h6
      by_cases hlt : k < p.arrays.length
      · obtain ⟨x, hx⟩ : ∃ x, p.arrays[k]? = some x := ⟨_, List.getElem?_eq_getElem hlt⟩
        obtain ⟨ac', kc', hce, _, hrr⟩ := hR.out.rd.2.1
        simp only [Value.slice.injEq] at hce
        obtain ⟨rfl, _, rfl⟩ := hce
        obtain ⟨b, o, rfl, _, c0, c1, hi64, hxs⟩ := hrr k x hx
        obtain ⟨hi1, hi2⟩ := hi64
        have HX := Lib.hid hx
        have hlt2 : (k : Int) < (p.arrays.length : Int) := by omega
        clear hrr hx
        go_upto_region 13 with fail
        have hb4 : Below wr.heap.size wr (wr.alloc (.cells #[.string x.name, .int .i64 x.size] 55)) := (Below.refl _ _).alloc (Nat.le_refl _) _
        have G4 := heap_alloc_new wr (.cells #[.string x.name, .int .i64 x.size] 55)
        generalize wr.alloc (.cells #[.string x.name, .int .i64 x.size] 55) = W4 at *
        have hR1 := Lib.hid (hR.out.keep hb4)
        have g0 := row_of G4 0 (.string x.name) rfl
        have g1 := row_of G4 1 (.int .i64 x.size) rfl
        have HG1 := Lib.hid g1
        generalize wr.heap.size = wn at *
        have e6 := ext_cell (row_of hR1.out.ck 6 (.map (some ba)) rfl)
        have e0 := ext_cell (row_of hR1.out.b2 0 (.int .i64 0) rfl)
        have e1 := ext_cell (row_of hR1.out.b2 1 (.int .i64 0) rfl)
        have e2 := ext_cell g0
        clear c0 c1 hb4 G4 g0 g1 hR
        (refine wp_region_calm_tail 7 (by kernel_rfl) (by kernel_rfl) ?_; simp only [List.take_succ_cons, List.take_zero, List.drop_succ_cons, List.drop_zero]; (repeat (go_big_quiet_step (fail))); refine wpQuiet_nil ?_; intro wc hwc)
        have hR2 := Lib.hid (hR1.out.keep hwc)
        have HG2 := Lib.hid (cell_keep hwc HG1.out)
        clear e6 e0 e1 e2 hR1 HG1
        go_wp2_with fail
        refine (declare_any ba (aNames (p.arrays.take k)) x.name 0 0 _ hxs hR2.out.laid hR2.out.ha).mono ?_
        rintro e w5 ⟨he, hS, hg⟩
        cases hd : declF (aNames (p.arrays.take k)) x.name 0 0 with
        | some F =>
          rw [hd] at he
          subst he
          have hA : Hid (checkF p = some F) := or_some HC4.out (firstF_fault hq.out HX.out (by unfold arrF; rw [hd]; rfl))
          exact ⟨rfl, by rw [hA.out]; rfl, (hR2.out.turn hR2.out.ha hg HBB.out.gba).1⟩
        | none =>
          rw [hd] at he
          subst he
          have HD := Lib.hid hd
          have hJ : Hid (RunAt w0 p (.slice ac p.chans.length kc) (.slice (some ⟨b, o, none⟩) p.arrays.length ka) (.slice af p.funcs.length kf) (.slice am p.main.length km) cb bc ba bs bp q p.chans (aNames (p.arrays.take (k + 1))) [] [] (.slice none 0 0) [] w5) := by
            have h1 := hR2.out.setA HBB.out hg (hS hd)
            rw [List.take_add_one, HX.out]; unfold aNames at *; rw [List.map_append]; exact h1
          have g1 := (Kept.of_map hg hR2.out.ha) _ _ _ HG2.out
          have z0 := row_of hJ.out.b2 0 (.int .i64 0) rfl
          have z1 := row_of hJ.out.b2 1 (.int .i64 0) rfl
          clear hS hg hd hR2 hwc HG2
          rcases width_cases x.size with hw | ⟨hw, hw'⟩ | ⟨hw, hw'⟩
          · have hA : Hid (checkF p = some ⟨0, 0, 3⟩) := or_some HC4.out (firstF_fault hq.out HX.out (by unfold arrF; rw [HD.out, decide_eq_false (by omega)]; rfl))
            go_wp2_with fail
            refine (need_bad 0 0 3 _).mono ?_
            rintro e w6 ⟨rfl, hbx⟩
            exact ⟨rfl, by rw [hA.out]; rfl, (hJ.out.keep hbx).below⟩
          · have hA : Hid (checkF p = some ⟨0, 0, 3⟩) := or_some HC4.out (firstF_fault hq.out HX.out (by unfold arrF; rw [HD.out, decide_eq_false (p := x.size ≤ 64) (by omega), Bool.and_false]; rfl))
            have hw2' : decide (x.size ≤ 64) = false := decide_eq_false (by omega)
            go_wp2_with fail
            refine (need_bad 0 0 3 _).mono ?_
            rintro e w6 ⟨rfl, hbx⟩
            exact ⟨rfl, by rw [hA.out]; rfl, (hJ.out.keep hbx).below⟩
          have hQ : Hid (arrsF p.arrays = firstF arrF (p.arrays.take (k + 1)) (p.arrays.drop (k + 1))) := firstF_ok hq.out HX.out (by unfold arrF; rw [HD.out, decide_eq_true hw, decide_eq_true hw']; rfl)
          go_wp2_with fail
          refine (need_ok 0 0 3 _).mono ?_
          rintro e w6 ⟨rfl, hbx⟩
          have hJ2 := Lib.hid (hJ.out.keep hbx)
          clear hJ g1 z0 z1 hw hw' hbx
          go_wp2_with fail
          go_roundw
          case rel => exact ⟨k + 1, by omega, by go_num, hJ2, hQ⟩
          case measure => simp [intOf]; omega
      obtain rfl : k = p.arrays.length := by omega
      have HC5 : Hid (checkF p = r5 p) := or_none HC4.out (firstF_end hq.out)
      have h7 : Hid (RunAt w0 p (.slice ac p.chans.length kc) (.slice aa p.arrays.length ka) (.slice af p.funcs.length kf) (.slice am p.main.length km) cb bc ba bs bp q p.chans (aNames p.arrays) [] [] (.slice none 0 0) [] wr) := by have := hR.out; rw [List.take_length] at this; exact this
      clear hR hq HC4
      have b1 := row_of h7.out.b3 1 (.slice ac p.chans.length kc) rfl
      have b2 := row_of h7.out.b3 2 (.slice aa p.arrays.length ka) rfl
      have b3 := row_of h7.out.b3 3 (.slice af p.funcs.length kf) rfl
      have b4 := row_of h7.out.b3 4 (.slice am p.main.length km) rfl
      have z0 := row_of h7.out.b2 0 (.int .i64 0) rfl
      have z1 := row_of h7.out.b2 1 (.int .i64 0) rfl
      by_cases hlc : p.funcs.length ≤ 32
      rotate_left
      · have hA : Hid (checkF p = some ⟨0, 0, 5⟩) := or_some HC5.out (by rw [decide_eq_false hlc]; rfl)
        have hlc' : decide ((p.funcs.length : Int) ≤ 32) = false := decide_eq_false (by omega)
        go_wp2_with fail
        refine (need_bad 0 0 5 _).mono ?_
        rintro e w4 ⟨rfl, hbx⟩
        exact ⟨rfl, by rw [hA.out]; rfl, (h7.out.keep hbx).below⟩
      have HC6 : Hid (checkF p = r6 p) := or_none HC5.out (by rw [decide_eq_true hlc]; rfl)
      have hlc' : (p.funcs.length : Int) ≤ 32 := by omega
      go_wp2_with fail
      refine (need_ok 0 0 5 _).mono ?_
      rintro e w4 ⟨rfl, hbx⟩
      have h8 := Lib.hid (h7.out.keep hbx)
      clear b1 b2 b3 b4 z0 z1 hbx HC5 h7 hlc'
      have b1 := row_of h8.out.b3 1 (.slice ac p.chans.length kc) rfl
      have b2 := row_of h8.out.b3 2 (.slice aa p.arrays.length ka) rfl
      have b3 := row_of h8.out.b3 3 (.slice af p.funcs.length kf) rfl
      have b4 := row_of h8.out.b3 4 (.slice am p.main.length km) rfl
      have z0 := row_of h8.out.b2 0 (.int .i64 0) rfl
      have z1 := row_of h8.out.b2 1 (.int .i64 0) rfl
      go_upto_region 18 with fail
      have hb9 : Below w4.heap.size w4 (w4.alloc (.map #[] 0)) := (Below.refl _ _).alloc (Nat.le_refl _) _
      have h9 := Lib.hid (h8.out.keep hb9)
      have hF0 := Lib.hid (SetIs.made w4)
      obtain ⟨bf, hbf⟩ : ∃ bf, bf = w4.heap.size := ⟨_, rfl⟩
      have HBF : Hid (w0.heap.size ≤ bf ∧ bf ≠ bc ∧ bf ≠ ba ∧ bf ≠ bs ∧ bf ≠ bp) := by
        have h1 := h8.out.hc.lt; have h2 := h8.out.ha.lt; have h3 := h8.out.hs.lt; have h4 := h8.out.hp.lt; have h5 := h8.out.below.size
        refine ⟨by omega, by omega, by omega, by omega, by omega⟩
      generalize w4.alloc (.map #[] 0) = W9 at *
      rw [← hbf] at hF0 ⊢
      clear b1 b2 b3 b4 z0 z1 hb9 hbf h8
      have b1 := row_of h9.out.b3 1 (.slice ac p.chans.length kc) rfl
      have b2 := row_of h9.out.b3 2 (.slice aa p.arrays.length ka) rfl
      have b3 := row_of h9.out.b3 3 (.slice af p.funcs.length kf) rfl
      have b4 := row_of h9.out.b3 4 (.slice am p.main.length km) rfl
      have z0 := row_of h9.out.b2 0 (.int .i64 0) rfl
      have z1 := row_of h9.out.b2 1 (.int .i64 0) rfl
      go_wp2
      go_loopw [96] (fun i wr => ∃ (k : Nat) (labs : List (Nat × List ByteArray)) (lv : Value), k ≤ p.funcs.length ∧ i = .int .i64 k ∧ Hid (RunAt w0 p (.slice ac p.chans.length kc) (.slice aa p.arrays.length ka) (.slice af p.funcs.length kf) (.slice am p.main.length km) cb bc ba bs bp q p.chans (aNames p.arrays) (sitesOf [] (codesOf (p.funcs.take k))) (paramsOf (p.funcs.take k)) lv labs wr ∧ SetIs wr bf (fNames (p.funcs.take k)) ∧ labs.map (·.2) = (p.funcs.take k).map (fun f => labelsOf f.code) ∧ (∀ x ∈ labs, x.1 ≠ bf)) ∧ Hid (funcsF p.chans (aNames p.arrays) p.funcs = firstF (funcF p.chans (aNames p.arrays)) (p.funcs.take k) (p.funcs.drop k))) (fun i _ => p.funcs.length - (intOf i).toNat)
      case atStart => exact ⟨0, [], .slice none 0 0, Nat.zero_le _, rfl, ⟨h9.out, hF0.out, rfl, (fun x hx => nomatch hx)⟩, rfl⟩
      case round =>
        obtain ⟨wo, rfl⟩ : ∃ x : World, x = wr := ⟨_, rfl⟩
        obtain ⟨k, labs, lv, hk, rfl, hR, hq⟩ := hrel
        clear b1 b2 b3 b4 z0 z1 h9 hF0
        by_cases hlt : k < p.funcs.length
        · obtain ⟨x, hx⟩ : ∃ x, p.funcs[k]? = some x := ⟨_, List.getElem?_eq_getElem hlt⟩
          obtain ⟨ac', kc', hce, _, hrr⟩ := hR.out.1.rd.2.2.1
          simp only [Value.slice.injEq] at hce
          obtain ⟨rfl, _, rfl⟩ := hce
          obtain ⟨b, o, pv, cv, rfl, _, c0, c1, c2, c3, c4, hfd⟩ := hrr k x hx
          obtain ⟨ap, kp, rfl, hpl, _⟩ := id hfd.1
          obtain ⟨acd, kcd, rfl, hcdl, _⟩ := id hfd.2.1
          have hxs : x.name.size ≤ maxLen := hfd.2.2.2.2
          have HX := Lib.hid hx
          have hlt2 : (k : Int) < (p.funcs.length : Int) := by omega
          go_upto_region 21 with fail
          have hb4 : Below wo.heap.size wo (wo.alloc (.cells #[.string x.name, .slice ap x.params.length kp, .slice acd x.code.length kcd, .int .i64 x.line, .int .i64 x.col] 57)) := (Below.refl _ _).alloc (Nat.le_refl _) _
          have G4 := heap_alloc_new wo (.cells #[.string x.name, .slice ap x.params.length kp, .slice acd x.code.length kcd, .int .i64 x.line, .int .i64 x.col] 57)
          generalize wo.alloc (.cells #[.string x.name, .slice ap x.params.length kp, .slice acd x.code.length kcd, .int .i64 x.line, .int .i64 x.col] 57) = W4 at *
          have hR1 := Lib.hid (And.intro (hR.out.1.keep hb4) (And.intro (hR.out.2.1.keep hb4) hR.out.2.2))
          have HFD := Lib.hid (hfd.keep hb4)
          have HG4 := Lib.hid G4
          generalize wo.heap.size = bx at *
          have g0 := row_of G4 0 (.string x.name) rfl
          have g1 := row_of G4 1 (.slice ap x.params.length kp) rfl
          have g3 := row_of G4 3 (.int .i64 x.line) rfl
          have g4 := row_of G4 4 (.int .i64 x.col) rfl
          clear hrr hx c0 c1 c2 c3 c4 hfd hb4 G4 hR
          go_wp2_with fail
          refine (declare_any bf (fNames (p.funcs.take k)) x.name x.line x.col _ hxs hR1.out.1.laid hR1.out.2.1).mono ?_
          rintro e w5 ⟨he, hS, hg⟩
          cases hd : declF (fNames (p.funcs.take k)) x.name x.line x.col with
          | some F =>
            rw [hd] at he
            subst he
            have hA : Hid (checkF p = some F) := or_some HC6.out (firstF_fault hq.out HX.out (by unfold funcF; rw [hd]; rfl))
            exact ⟨rfl, by rw [hA.out]; rfl, (hR1.out.1.turn hR1.out.2.1 hg HBF.out.1).1⟩
          | none =>
            rw [hd] at he
            subst he
            have HD := Lib.hid hd
            have hS' := hS hd
            have hR2 : Hid (RunAt w0 p (.slice ac p.chans.length kc) (.slice aa p.arrays.length ka) (.slice (some ⟨b, o, none⟩) p.funcs.length kf) (.slice am p.main.length km) cb bc ba bs bp q p.chans (aNames p.arrays) (sitesOf [] (codesOf (p.funcs.take k))) (paramsOf (p.funcs.take k)) lv labs w5 ∧ SetIs w5 bf (fNames (p.funcs.take k) ++ [x.name]) ∧ labs.map (·.2) = (p.funcs.take k).map (fun f => labelsOf f.code) ∧ (∀ x ∈ labs, x.1 ≠ bf)) :=
              ⟨hR1.out.1.setF hR1.out.2.1 HBF.out.1 HBF.out.2.1 HBF.out.2.2.1 HBF.out.2.2.2.1 HBF.out.2.2.2.2 hR1.out.2.2.2 hg, hS', hR1.out.2.2⟩
            have hK5 := Kept.of_map hg hR1.out.2.1
            have hG5 : w5.heap[bx]? = _ := (hg.block bx (Array.getElem?_eq_some_iff.1 HG4.out).1 (fun e => map_ne_cells hR1.out.2.1 HG4.out (by cases e; rfl))).trans HG4.out
            have HG5 := Lib.hid hG5
            have HFD5 := Lib.hid (HFD.out.kept hK5)
            clear hS hg hd hS' hK5 hG5 hR1 HFD HG4 g0 g1 g3 g4
            have g1 := row_of HG5.out 1 (.slice ap x.params.length kp) rfl
            have g3 := row_of HG5.out 3 (.int .i64 x.line) rfl
            have g4 := row_of HG5.out 4 (.int .i64 x.col) rfl
            by_cases hlp : x.params.length ≤ 32
            rotate_left
            · have hA : Hid (checkF p = some ⟨x.line, x.col, 5⟩) := or_some HC6.out (firstF_fault hq.out HX.out (by unfold funcF; rw [HD.out, decide_eq_false hlp]; rfl))
              have hlp' : decide ((x.params.length : Int) ≤ 32) = false := decide_eq_false (by omega)
              go_wp2_with fail
              refine (need_bad x.line x.col 5 _).mono ?_
              rintro e w6 ⟨rfl, hbx⟩
              exact ⟨rfl, by rw [hA.out]; rfl, (hR2.out.1.keep hbx).below⟩
            have hlp' : (x.params.length : Int) ≤ 32 := by omega
            go_wp2_with fail
            refine (need_ok x.line x.col 5 _).mono ?_
            rintro e w6 ⟨rfl, hb6⟩
            clear g1 g3 g4 hlp'
            go_upto_region 24 with fail
            have hb7 := bcomp hb6 ((Below.refl w6.heap.size w6).alloc (Nat.le_refl _) (.map #[] 0))
            have hR7 := Lib.hid (And.intro (hR2.out.1.keep hb7) (And.intro (hR2.out.2.1.keep hb7) hR2.out.2.2))
            have HG7 := Lib.hid ((hb7.block bx (Array.getElem?_eq_some_iff.1 HG5.out).1).trans HG5.out)
            have HFD7 := Lib.hid (HFD5.out.keep hb7)
            have hP0 := Lib.hid (SetIs.made w6)
            obtain ⟨bm, hbm⟩ : ∃ bm, bm = w6.heap.size := ⟨_, rfl⟩
            have HBM : Hid (w0.heap.size ≤ bm ∧ bm ≠ bc ∧ bm ≠ ba ∧ bm ≠ bs ∧ bm ≠ bp ∧ bm ≠ bf ∧ ∀ x ∈ labs, x.1 ≠ bm) := by
              have h0 := hR2.out.1.keep hb6
              have h1 := h0.hc.lt; have h2 := h0.ha.lt; have h3 := h0.hs.lt; have h4 := h0.hp.lt; have h5 := h0.below.size; have h6 := (hR2.out.2.1.keep hb6).lt
              refine ⟨by omega, by omega, by omega, by omega, by omega, by omega, fun x hx => ?_⟩
              have := ((h0.hl x hx).1).lt
              omega
            generalize w6.alloc (.map #[] 0) = W7 at *
            rw [← hbm] at hP0 ⊢
            clear hb6 hb7 hbm hR2 HG5 HFD5
            have g1 := row_of HG7.out 1 (.slice ap x.params.length kp) rfl
            go_wp2
            go_loopw [117] (fun i wi => ∃ j : Nat, j ≤ x.params.length ∧ i = .int .i64 j ∧ Hid ((RunAt w0 p (.slice ac p.chans.length kc) (.slice aa p.arrays.length ka) (.slice (some ⟨b, o, none⟩) p.funcs.length kf) (.slice am p.main.length km) cb bc ba bs bp q p.chans (aNames p.arrays) (sitesOf [] (codesOf (p.funcs.take k))) (paramsOf (p.funcs.take k)) lv labs wi ∧ SetIs wi bf (fNames (p.funcs.take k) ++ [x.name]) ∧ labs.map (·.2) = (p.funcs.take k).map (fun f => labelsOf f.code) ∧ (∀ x ∈ labs, x.1 ≠ bf)) ∧ wi.heap[bx]? = some (.cells #[.string x.name, .slice ap x.params.length kp, .slice acd x.code.length kcd, .int .i64 x.line, .int .i64 x.col] 57 (0,0)) ∧ RdFunc none wi x (.slice ap x.params.length kp) (.slice acd x.code.length kcd) ∧ SetIs wi bm (x.params.take j)) ∧ Hid (declsF x.params x.line x.col = firstF (fun d s => declF d s x.line x.col) (x.params.take j) (x.params.drop j))) (fun i _ => x.params.length - (intOf i).toNat)
            case atStart => exact ⟨0, Nat.zero_le _, rfl, ⟨hR7.out, HG7.out, HFD7.out, hP0.out⟩, rfl⟩
            case round =>
              obtain ⟨wi, rfl⟩ : ∃ x : World, x = wr := ⟨_, rfl⟩
              obtain ⟨j, hj, rfl, hI, hq2⟩ := hrel
              clear g1 hR7 HG7 HFD7 hP0
              by_cases hjl : j < x.params.length
              · obtain ⟨s, hs⟩ : ∃ s, x.params[j]? = some s := ⟨_, List.getElem?_eq_getElem hjl⟩
                obtain ⟨ap', kp', hpe, _, hpr⟩ := hI.out.2.2.1.1
                simp only [Value.slice.injEq] at hpe
                obtain ⟨rfl, _, rfl⟩ := hpe
                obtain ⟨b3', o3, rfl, _, cs, hss⟩ := hpr j s hs
                have HS := Lib.hid hs
                have hjl2 : (j : Int) < (x.params.length : Int) := by omega
                have g3 := row_of hI.out.2.1 3 (.int .i64 x.line) rfl
                have g4 := row_of hI.out.2.1 4 (.int .i64 x.col) rfl
                clear hpr hs
                go_wp2_with fail
                refine (declare_any bm (x.params.take j) s x.line x.col _ hss hI.out.1.1.laid hI.out.2.2.2).mono ?_
                rintro e w8 ⟨he, hS, hg⟩
                cases hd : declF (x.params.take j) s x.line x.col with
                | some F =>
                  rw [hd] at he
                  subst he
                  have hA : Hid (checkF p = some F) := or_some HC6.out (firstF_fault hq.out HX.out (by unfold funcF; rw [HD.out, decide_eq_true hlp, show declsF x.params x.line x.col = some F from firstF_fault hq2.out HS.out hd]; rfl))
                  exact ⟨rfl, by rw [hA.out]; rfl, (hI.out.1.1.turn hI.out.2.2.2 hg HBM.out.1).1⟩
                | none =>
                  rw [hd] at he
                  subst he
                  have hQ2 : Hid (declsF x.params x.line x.col = firstF (fun d s => declF d s x.line x.col) (x.params.take (j + 1)) (x.params.drop (j + 1))) := firstF_ok hq2.out HS.out hd
                  have hK8 := Kept.of_map hg hI.out.2.2.2
                  have hT8 : Turned (fun i => i = bm) wi w8 := Turned.of_grown hg (fun b e => by cases e; rfl)
                  have hI8 : Hid ((RunAt w0 p (.slice ac p.chans.length kc) (.slice aa p.arrays.length ka) (.slice (some ⟨b, o, none⟩) p.funcs.length kf) (.slice am p.main.length km) cb bc ba bs bp q p.chans (aNames p.arrays) (sitesOf [] (codesOf (p.funcs.take k))) (paramsOf (p.funcs.take k)) lv labs w8 ∧ SetIs w8 bf (fNames (p.funcs.take k) ++ [x.name]) ∧ labs.map (·.2) = (p.funcs.take k).map (fun f => labelsOf f.code) ∧ (∀ x ∈ labs, x.1 ≠ bf)) ∧ w8.heap[bx]? = some (.cells #[.string x.name, .slice (some ⟨b3', o3, none⟩) x.params.length kp, .slice acd x.code.length kcd, .int .i64 x.line, .int .i64 x.col] 57 (0,0)) ∧ RdFunc none w8 x (.slice (some ⟨b3', o3, none⟩) x.params.length kp) (.slice acd x.code.length kcd) ∧ SetIs w8 bm (x.params.take (j + 1))) := by
                    refine ⟨⟨hI.out.1.1.setF hI.out.2.2.2 HBM.out.1 HBM.out.2.1 HBM.out.2.2.1 HBM.out.2.2.2.1 HBM.out.2.2.2.2.1 HBM.out.2.2.2.2.2.2 hg, hI.out.1.2.1.turn hT8 (fun e => HBM.out.2.2.2.2.2.1 e.symm), hI.out.1.2.2⟩, (hT8.block bx (Array.getElem?_eq_some_iff.1 hI.out.2.1).1 (fun e => map_ne_cells hI.out.2.2.2 hI.out.2.1 e.symm)).trans hI.out.2.1, hI.out.2.2.1.kept hK8, ?_⟩
                    rw [List.take_add_one, HS.out]; exact hS hd
                  clear hS hg hd hK8 hT8 hI g3 g4 cs
                  go_wp2_with fail
                  go_roundw
                  case rel => exact ⟨j + 1, by omega, by go_num, hI8, hQ2⟩
                  case measure => simp [intOf]; omega
              obtain rfl : j = x.params.length := by omega
              have HDP : Hid (declsF x.params x.line x.col = none) := firstF_end hq2.out
              clear hq2
              have f8 := ext_cell (row_of hI.out.1.1.ck 8 (.map (some bp)) rfl)
              have f0 := ext_cell (row_of hI.out.2.1 0 (.string x.name) rfl)
              have f1 := ext_cell (row_of hI.out.2.1 1 (.slice ap x.params.length kp) rfl)
              go_upto_region 29 with fail
              (refine wp_region_calm_tail 9 (by kernel_rfl) (by kernel_rfl) ?_; simp only [List.take_succ_cons, List.take_zero, List.drop_succ_cons, List.drop_zero]; (repeat (go_big_quiet_step (fail))); refine wpQuiet_nil ?_; intro wc hwc)
              have hI2 : Hid ((RunAt w0 p (.slice ac p.chans.length kc) (.slice aa p.arrays.length ka) (.slice (some ⟨b, o, none⟩) p.funcs.length kf) (.slice am p.main.length km) cb bc ba bs bp q p.chans (aNames p.arrays) (sitesOf [] (codesOf (p.funcs.take k))) (paramsOf (p.funcs.take k)) lv labs wc ∧ SetIs wc bf (fNames (p.funcs.take k) ++ [x.name]) ∧ labs.map (·.2) = (p.funcs.take k).map (fun f => labelsOf f.code) ∧ (∀ x ∈ labs, x.1 ≠ bf)) ∧ wc.heap[bx]? = some (.cells #[.string x.name, .slice ap x.params.length kp, .slice acd x.code.length kcd, .int .i64 x.line, .int .i64 x.col] 57 (0,0)) ∧ RdFunc none wc x (.slice ap x.params.length kp) (.slice acd x.code.length kcd)) :=
                ⟨⟨hI.out.1.1.keep hwc, hI.out.1.2.1.keep hwc, hI.out.1.2.2⟩, (hwc.block bx (Array.getElem?_eq_some_iff.1 hI.out.2.1).1).trans hI.out.2.1, hI.out.2.2.1.keep hwc⟩
              clear f8 f0 f1 hI hwc
              go_wp2_with (at_mapUpdate; refine wpList_ints_store rfl _ _ _ _ rfl _ _ Tryd.underlying9 Tryd.underlying109 bp (paramsOf (p.funcs.take k)) rfl x.name rfl (x.params.length : Int) rfl hxs hI2.out.1.1.hp (inL_false_paramsOf (declF_none HD.out).2) ?_; intro w9 hs9 hg9 hz9; have hI3 : Hid ((RunAt w0 p (.slice ac p.chans.length kc) (.slice aa p.arrays.length ka) (.slice (some ⟨b, o, none⟩) p.funcs.length kf) (.slice am p.main.length km) cb bc ba bs bp q p.chans (aNames p.arrays) (sitesOf [] (codesOf (p.funcs.take k))) (paramsOf (p.funcs.take k) ++ [(x.name, (x.params.length : Int))]) lv labs w9 ∧ SetIs w9 bf (fNames (p.funcs.take k) ++ [x.name]) ∧ labs.map (·.2) = (p.funcs.take k).map (fun f => labelsOf f.code) ∧ (∀ x ∈ labs, x.1 ≠ bf)) ∧ w9.heap[bx]? = some (.cells #[.string x.name, .slice ap x.params.length kp, .slice acd x.code.length kcd, .int .i64 x.line, .int .i64 x.col] 57 (0,0)) ∧ RdFunc none w9 x (.slice ap x.params.length kp) (.slice acd x.code.length kcd)) := (by exact ⟨⟨hI2.out.1.1.setP HBB.out hg9 hs9, hI2.out.1.2.1.turn (Turned.of_grown (S := fun i => i = bp) hg9 (fun b e => by cases e; rfl)) HBF.out.2.2.2.2, hI2.out.1.2.2⟩, (hg9.block bx (Array.getElem?_eq_some_iff.1 hI2.out.2.1).1 (fun e => map_ne_cells hI2.out.1.1.hp hI2.out.2.1 (by cases e; rfl))).trans hI2.out.2.1, hI2.out.2.2.kept (Kept.of_map hg9 hI2.out.1.1.hp)⟩); have f2 := row_of hI3.out.2.1 2 (.slice acd x.code.length kcd) rfl; have f3 := row_of hI3.out.2.1 3 (.int .i64 x.line) rfl; have f4 := row_of hI3.out.2.1 4 (.int .i64 x.col) rfl; clear hs9 hg9 hz9 hI2)
              have hll : labs.length = k := by have := congrArg List.length hI3.out.1.2.2.1; simp at this; omega
              refine (instrs_any cb bc ba bs labs.length w0.heap.size p.width x.line x.col _ _ _ _ (.map (some bp)) lv _ p.chans (aNames p.arrays) (sitesOf [] (codesOf (p.funcs.take k))) _ x.code false _ hI3.out.1.1.ck hI3.out.1.1.hc hI3.out.1.1.ha hI3.out.1.1.hs HBB.out.ncs HBB.out.nas hI3.out.1.1.own hI3.out.1.1.below.size (by omega) hI3.out.2.2.2.1 hI3.out.1.1.laid).mono ?_
              rintro e w10 ⟨he, ht, hrest⟩
              cases hins : instrsF p.chans (aNames p.arrays) false (sitesOf [] (codesOf (p.funcs.take k))) x.code x.line x.col with
              | some F =>
                rw [hins] at he
                subst he
                have hA : Hid (checkF p = some F) := or_some HC6.out (firstF_fault hq.out HX.out (by unfold funcF; rw [HD.out, decide_eq_true hlp, HDP.out, hins]; rfl))
                refine ⟨rfl, by rw [hA.out]; rfl, below_then hI3.out.1.1.below ht hI3.out.1.1.below.size (fun i e => ?_)⟩
                rcases e with e | e | e
                · rw [e]; exact HBB.out.gbs
                · rw [e]; exact HBB.out.gcb
                · exact (own_is hI3.out.1.1.own e).1
              | none =>
                rw [hins] at he
                subst he
                obtain ⟨lb, lv', hlb, hlab, hsi, hck, hown⟩ := hrest hins
                have hQ : Hid (funcsF p.chans (aNames p.arrays) p.funcs = firstF (funcF p.chans (aNames p.arrays)) (p.funcs.take (k + 1)) (p.funcs.drop (k + 1))) := firstF_ok hq.out HX.out (by unfold funcF; rw [HD.out, decide_eq_true hlp, HDP.out, hins]; rfl)
                have hJ : Hid (RunAt w0 p (.slice ac p.chans.length kc) (.slice aa p.arrays.length ka) (.slice (some ⟨b, o, none⟩) p.funcs.length kf) (.slice am p.main.length km) cb bc ba bs bp q p.chans (aNames p.arrays) (sitesOf [] (codesOf (p.funcs.take (k + 1)))) (paramsOf (p.funcs.take (k + 1))) lv' (labs ++ [(lb, labelsOf x.code)]) w10 ∧ SetIs w10 bf (fNames (p.funcs.take (k + 1))) ∧ (labs ++ [(lb, labelsOf x.code)]).map (·.2) = (p.funcs.take (k + 1)).map (fun f => labelsOf f.code) ∧ (∀ y ∈ labs ++ [(lb, labelsOf x.code)], y.1 ≠ bf)) := by
                  have hr := hI3.out.1.1.ins HBB.out ht hlb hlab hsi hck hown
                  have hbfl := hI3.out.1.2.1.lt
                  have htk : p.funcs.take (k + 1) = p.funcs.take k ++ [x] := by rw [List.take_add_one, HX.out]; rfl
                  refine ⟨?_, ?_, ?_, ?_⟩
                  · rw [htk]
                    have e1 : sitesOf [] (codesOf (p.funcs.take k ++ [x])) = sitesOf (sitesOf [] (codesOf (p.funcs.take k))) x.code := by
                      unfold codesOf; rw [List.flatMap_append, sitesOf_append]; simp
                    have e2 : paramsOf (p.funcs.take k ++ [x]) = paramsOf (p.funcs.take k) ++ [(x.name, (x.params.length : Int))] := by unfold paramsOf; rw [List.map_append]; rfl
                    rw [e1, e2]; exact hr
                  · rw [htk]
                    have e3 : fNames (p.funcs.take k ++ [x]) = fNames (p.funcs.take k) ++ [x.name] := by unfold fNames; rw [List.map_append]; rfl
                    rw [e3]
                    refine hI3.out.1.2.1.turn ht (fun e => ?_)
                    rcases e with e | e | e
                    · exact HBF.out.2.2.2.1 e
                    · exact map_ne_cells hI3.out.1.2.1 hI3.out.1.1.ck e
                    · exact own_ne_map hI3.out.1.1.own hI3.out.1.2.1 e
                  · rw [htk, List.map_append, List.map_append, hI3.out.1.2.2.1]; rfl
                  · intro y hy
                    rcases List.mem_append.1 hy with hy | hy
                    · exact hI3.out.1.2.2.2 y hy
                    · rw [List.mem_singleton] at hy; subst hy; simp only; omega
                clear hrest hins hlb hlab hsi hck hown ht hI3 f2 f3 f4 hll
                go_wp2_with fail
                go_roundw
                case rel => exact ⟨k + 1, labs ++ [(lb, labelsOf x.code)], lv', by omega, by go_num, hJ, hQ⟩
                case measure => simp [intOf]; omega
        obtain rfl : k = p.funcs.length := by omega
        have HAP := Lib.hid (funcs_apart (firstF_end hq.out))
        have HC7 : Hid (checkF p = r7 p) := or_none HC6.out (firstF_end hq.out)
        have hR0 : Hid (RunAt w0 p (.slice ac p.chans.length kc) (.slice aa p.arrays.length ka) (.slice af p.funcs.length kf) (.slice am p.main.length km) cb bc ba bs bp q p.chans (aNames p.arrays) (sitesOf [] (codesOf p.funcs)) (paramsOf p.funcs) lv labs wo ∧ labs.map (·.2) = p.funcs.map (fun f => labelsOf f.code)) := by
          have h := hR.out; rw [List.take_length] at h; exact ⟨h.1, h.2.2.1⟩
        clear hR hq HC6 hmm HBF
        have b4 := row_of hR0.out.1.b3 4 (.slice am p.main.length km) rfl
        have z0 := row_of hR0.out.1.b2 0 (.int .i64 0) rfl
        have z1 := row_of hR0.out.1.b2 1 (.int .i64 0) rfl
        go_wp2_with fail
        clear b4 z0 z1
        have hll : labs.length = p.funcs.length := by have := congrArg List.length hR0.out.2; simpa using this
        refine (instrs_any cb bc ba bs labs.length w0.heap.size p.width 0 0 _ _ _ _ (.map (some bp)) lv _ p.chans (aNames p.arrays) (sitesOf [] (codesOf p.funcs)) _ p.main true _ hR0.out.1.ck hR0.out.1.hc hR0.out.1.ha hR0.out.1.hs HBB.out.ncs HBB.out.nas hR0.out.1.own hR0.out.1.below.size (by omega) hR0.out.1.rd.2.2.2.1 hR0.out.1.laid).mono ?_
        rintro e w10 ⟨he, ht, hrest⟩
        cases hins : instrsF p.chans (aNames p.arrays) true (sitesOf [] (codesOf p.funcs)) p.main 0 0 with
        | some F =>
          rw [hins] at he
          subst he
          have hA : Hid (checkF p = some F) := or_some HC7.out hins
          refine ⟨rfl, by rw [hA.out]; rfl, below_then hR0.out.1.below ht hR0.out.1.below.size (fun i e => ?_)⟩
          rcases e with e | e | e
          · rw [e]; exact HBB.out.gbs
          · rw [e]; exact HBB.out.gcb
          · exact (own_is hR0.out.1.own e).1
        | none =>
          rw [hins] at he
          subst he
          obtain ⟨lb, lv', hlb, hlab, hsi, hck, hown⟩ := hrest hins
          have HC8 : Hid (checkF p = r8 p) := or_none HC7.out hins
          have hJ : Hid (RunAt w0 p (.slice ac p.chans.length kc) (.slice aa p.arrays.length ka) (.slice af p.funcs.length kf) (.slice am p.main.length km) cb bc ba bs bp q p.chans (aNames p.arrays) (sitesOf (sitesOf [] (codesOf p.funcs)) p.main) (paramsOf p.funcs) lv' (labs ++ [(lb, labelsOf p.main)]) w10 ∧ (labs ++ [(lb, labelsOf p.main)]).map (·.2) = p.funcs.map (fun f => labelsOf f.code) ++ [labelsOf p.main] ∧ (labs ++ [(lb, labelsOf p.main)]).length = p.funcs.length + 1) :=
            ⟨hR0.out.1.ins HBB.out ht hlb hlab hsi hck hown, by rw [List.map_append, hR0.out.2]; rfl, by rw [List.length_append, hll]; rfl⟩
          generalize labs ++ [(lb, labelsOf p.main)] = labs2 at *
          generalize sitesOf (sitesOf [] (codesOf p.funcs)) p.main = si2 at *
          clear hrest hins hlb hlab hsi hck hown ht hR0 HC7 hll
          have b3 := row_of hJ.out.1.b3 3 (.slice af p.funcs.length kf) rfl
          go_wp2
          go_loopw [151] (fun i wr => ∃ k : Nat, k ≤ p.funcs.length ∧ i = .int .i64 k ∧ Hid (RunAt w0 p (.slice ac p.chans.length kc) (.slice aa p.arrays.length ka) (.slice af p.funcs.length kf) (.slice am p.main.length km) cb bc ba bs bp q p.chans (aNames p.arrays) si2 (paramsOf p.funcs) lv' labs2 wr) ∧ Hid (targsF p.funcs = firstF (fun _ f => targetsF (paramsOf p.funcs) (labelsOf f.code) f.code) (p.funcs.take k) (p.funcs.drop k))) (fun i _ => p.funcs.length - (intOf i).toNat)
          case atStart => exact ⟨0, Nat.zero_le _, rfl, hJ.out.1, rfl⟩
          case round =>
            obtain ⟨wo, rfl⟩ : ∃ x : World, x = wr := ⟨_, rfl⟩
            obtain ⟨k, hk, rfl, hR, hq⟩ := hrel
            have HJ2 := Lib.hid hJ.out.2
            clear b3 hJ
            by_cases hlt : k < p.funcs.length
            · obtain ⟨x, hx⟩ : ∃ x, p.funcs[k]? = some x := ⟨_, List.getElem?_eq_getElem hlt⟩
              obtain ⟨ac', kc', hce, _, hrr⟩ := hR.out.rd.2.2.1
              simp only [Value.slice.injEq] at hce
              obtain ⟨rfl, _, rfl⟩ := hce
              obtain ⟨b, o, pv, cv, rfl, _, c0, c1, c2, c3, c4, hfd⟩ := hrr k x hx
              obtain ⟨ap, kp, rfl, hpl, _⟩ := id hfd.1
              obtain ⟨acd, kcd, rfl, hcdl, _⟩ := id hfd.2.1
              have hxs : x.name.size ≤ maxLen := hfd.2.2.2.2
              have HX := Lib.hid hx
              have hlt2 : (k : Int) < (p.funcs.length : Int) := by omega
              obtain ⟨l, hl1⟩ : ∃ l, labs2[k]? = some l := ⟨_, List.getElem?_eq_getElem (by have := HJ2.out.2; omega)⟩
              have hl2 : l.2 = labelsOf x.code := by
                have h := congrArg (fun z => z[k]?) HJ2.out.1
                try simp only at h
                rw [List.getElem?_map, hl1, List.getElem?_append_left (by simpa using hlt), List.getElem?_map, hx] at h
                simpa using h
              have HLM : Hid (SetIs wo l.1 (labelsOf x.code)) := by have := (hR.out.hl l (List.mem_of_getElem? hl1)).1; rw [hl2] at this; exact this
              obtain ⟨gl, cl, rfl, _, hlc⟩ := own_at hR.out.own (by have := HJ2.out.2; simp; omega)
              have hcl := hlc k (.map (some l.1)) (by rw [List.getElem?_map, hl1]; rfl)
              rw [Nat.zero_add] at hcl
              have hkl : (k : Int) < (labs2.length : Int) := by have := HJ2.out.2; omega
              generalize l.1 = lb at *
              go_upto_region 36 with fail
              have hb4 : Below wo.heap.size wo (wo.alloc (.cells #[.string x.name, .slice ap x.params.length kp, .slice acd x.code.length kcd, .int .i64 x.line, .int .i64 x.col] 57)) := (Below.refl _ _).alloc (Nat.le_refl _) _
              have G4 := heap_alloc_new wo (.cells #[.string x.name, .slice ap x.params.length kp, .slice acd x.code.length kcd, .int .i64 x.line, .int .i64 x.col] 57)
              generalize wo.alloc (.cells #[.string x.name, .slice ap x.params.length kp, .slice acd x.code.length kcd, .int .i64 x.line, .int .i64 x.col] 57) = W4 at *
              have hR1 := Lib.hid (hR.out.keep hb4)
              have HFD := Lib.hid (hfd.keep hb4)
              have HLM1 := Lib.hid (HLM.out.keep hb4)
              have e9 := ext_cell (cell_keep hb4 (row_of hR.out.ck 9 _ rfl))
              have el := ext_cell (cell_keep hb4 hcl)
              have e2 := ext_cell (row_of G4 2 (.slice acd x.code.length kcd) rfl)
              generalize wo.heap.size = bx at *
              clear hrr hx c0 c1 c2 c3 c4 hfd hb4 G4 hR HLM hl1 hl2 hlc hcl
              (refine wp_region_calm_tail 10 (by kernel_rfl) (by kernel_rfl) ?_; simp only [List.take_succ_cons, List.take_zero, List.drop_succ_cons, List.drop_zero]; (repeat (go_big_quiet_step (fail))); refine wpQuiet_nil ?_; intro wc hwc)
              have hR2 := Lib.hid (hR1.out.keep hwc)
              have HFD2 := Lib.hid (HFD.out.keep hwc)
              have HLM2 := Lib.hid (HLM1.out.keep hwc)
              clear e9 el e2 hR1 HFD HLM1 hwc
              go_wp2_with fail
              refine (targets_any cb bp lb _ (paramsOf p.funcs) (labelsOf x.code) x.code _ (row_of hR2.out.ck 8 _ rfl) hR2.out.hp HAP.out HLM2.out HFD2.out.2.1).mono ?_
              rintro e w5 ⟨he, hb5⟩
              cases ht : targetsF (paramsOf p.funcs) (labelsOf x.code) x.code with
              | some F =>
                rw [ht] at he
                subst he
                have hA : Hid (checkF p = some F) := or_some HC8.out (firstF_fault hq.out HX.out ht)
                exact ⟨rfl, by rw [hA.out]; rfl, (hR2.out.keep hb5).below⟩
              | none =>
                rw [ht] at he
                subst he
                have hQ : Hid (targsF p.funcs = firstF (fun _ f => targetsF (paramsOf p.funcs) (labelsOf f.code) f.code) (p.funcs.take (k + 1)) (p.funcs.drop (k + 1))) := firstF_ok hq.out HX.out ht
                have hJ3 := Lib.hid (hR2.out.keep hb5)
                have HJ4 := HJ2
                clear ht hR2 HFD2 HLM2 hb5 HJ2
                go_wp2_with fail
                go_roundw
                case rel => exact ⟨k + 1, by omega, by go_num, hJ3, hQ⟩
                case measure => simp [intOf]; omega
            obtain rfl : k = p.funcs.length := by omega
            have HTT := Lib.hid (targs_there (firstF_end hq.out))
            have HC9 : Hid (checkF p = r9 p) := or_none HC8.out (firstF_end hq.out)
            obtain ⟨l, hl1⟩ : ∃ l, labs2[p.funcs.length]? = some l := ⟨_, List.getElem?_eq_getElem (by have := HJ2.out.2; omega)⟩
            have hl2 : l.2 = labelsOf p.main := by
              have h := congrArg (fun z => z[p.funcs.length]?) HJ2.out.1
              try simp only at h
              rw [List.getElem?_map, hl1, List.getElem?_append_right (by simp)] at h
              simpa using h
            have HLM : Hid (SetIs wo l.1 (labelsOf p.main)) := by have := (hR.out.hl l (List.mem_of_getElem? hl1)).1; rw [hl2] at this; exact this
            obtain ⟨gl, cl, rfl, _, hlc⟩ := own_at hR.out.own (by have := HJ2.out.2; simp; omega)
            have hcl := hlc p.funcs.length (.map (some l.1)) (by rw [List.getElem?_map, hl1]; rfl)
            rw [Nat.zero_add] at hcl
            have hkl : (p.funcs.length : Int) < (labs2.length : Int) := by have := HJ2.out.2; omega
            generalize l.1 = lb at *
            have e9 := ext_cell (row_of hR.out.ck 9 _ rfl)
            have el := ext_cell hcl
            have e4 := ext_cell (row_of hR.out.b3 4 (.slice am p.main.length km) rfl)
            have e3 := ext_cell (row_of hR.out.b3 3 (.slice af p.funcs.length kf) rfl)
            clear hl1 hl2 hlc hcl hq HC8 HJ2
            go_upto_region 38 with fail
            (refine wp_region_calm_tail 12 (by kernel_rfl) (by kernel_rfl) ?_; simp only [List.take_succ_cons, List.take_zero, List.drop_succ_cons, List.drop_zero]; (repeat (go_big_quiet_step (fail))); refine wpQuiet_nil ?_; intro wc hwc)
            have hR2 := Lib.hid (hR.out.keep hwc)
            have HLM2 := Lib.hid (HLM.out.keep hwc)
            clear e9 el e4 e3 hR HLM hwc
            go_wp2_with fail
            refine (targets_any cb bp lb _ (paramsOf p.funcs) (labelsOf p.main) p.main _ (row_of hR2.out.ck 8 _ rfl) hR2.out.hp HAP.out HLM2.out hR2.out.rd.2.2.2.1).mono ?_
            rintro e w5 ⟨he, hb5⟩
            cases ht : targetsF (paramsOf p.funcs) (labelsOf p.main) p.main with
            | some F =>
              rw [ht] at he
              subst he
              have hA : Hid (checkF p = some F) := or_some HC9.out ht
              exact ⟨rfl, by rw [hA.out]; rfl, (hR2.out.keep hb5).below⟩
            | none =>
              rw [ht] at he
              subst he
              have HC10 : Hid (checkF p = r10 p) := or_none HC9.out ht
              have hR3 := Lib.hid (hR2.out.keep hb5)
              clear ht hR2 HLM2 hb5 HC9
              have b3 := row_of hR3.out.b3 3 (.slice af p.funcs.length kf) rfl
              go_wp2
              go_loopw [184] (fun i wr => ∃ k : Nat, k ≤ p.funcs.length ∧ i = .int .i64 k ∧ Hid (RunAt w0 p (.slice ac p.chans.length kc) (.slice aa p.arrays.length ka) (.slice af p.funcs.length kf) (.slice am p.main.length km) cb bc ba bs bp q p.chans (aNames p.arrays) si2 (paramsOf p.funcs) (.slice (some ⟨gl, 0, none⟩) labs2.length cl) labs2 wr) ∧ Hid (loopsF p.funcs = firstF (fun _ f => needF (!loopB p.funcs f.name) f.line f.col 9) (p.funcs.take k) (p.funcs.drop k))) (fun i _ => p.funcs.length - (intOf i).toNat)
              case atStart => exact ⟨0, Nat.zero_le _, rfl, hR3, rfl⟩
              case round =>
                obtain ⟨wo2, rfl⟩ : ∃ x : World, x = wr := ⟨_, rfl⟩
                obtain ⟨k, hk, rfl, hR, hq⟩ := hrel
                clear b3 hR3
                by_cases hlt : k < p.funcs.length
                · obtain ⟨x, hx⟩ : ∃ x, p.funcs[k]? = some x := ⟨_, List.getElem?_eq_getElem hlt⟩
                  obtain ⟨ac', kc', hce, _, hrr⟩ := hR.out.rd.2.2.1
                  simp only [Value.slice.injEq] at hce
                  obtain ⟨rfl, _, rfl⟩ := hce
                  obtain ⟨b, o, pv, cv, rfl, _, c0, c1, c2, c3, c4, hfd⟩ := hrr k x hx
                  obtain ⟨ap, kp, rfl, hpl, _⟩ := id hfd.1
                  obtain ⟨acd, kcd, rfl, hcdl, _⟩ := id hfd.2.1
                  have hxs : x.name.size ≤ maxLen := hfd.2.2.2.2
                  have HX := Lib.hid hx
                  have hlt2 : (k : Int) < (p.funcs.length : Int) := by omega
                  go_upto_region 42 with fail
                  have hb4 : Below wo2.heap.size wo2 (wo2.alloc (.cells #[.string x.name, .slice ap x.params.length kp, .slice acd x.code.length kcd, .int .i64 x.line, .int .i64 x.col] 57)) := (Below.refl _ _).alloc (Nat.le_refl _) _
                  have G4 := heap_alloc_new wo2 (.cells #[.string x.name, .slice ap x.params.length kp, .slice acd x.code.length kcd, .int .i64 x.line, .int .i64 x.col] 57)
                  generalize wo2.alloc (.cells #[.string x.name, .slice ap x.params.length kp, .slice acd x.code.length kcd, .int .i64 x.line, .int .i64 x.col] 57) = W4 at *
                  have hR1 := Lib.hid (hR.out.keep hb4)
                  have e0 := ext_cell (row_of G4 0 (.string x.name) rfl)
                  have e3 := ext_cell (row_of G4 3 (.int .i64 x.line) rfl)
                  have e4 := ext_cell (row_of G4 4 (.int .i64 x.col) rfl)
                  generalize wo2.heap.size = bx at *
                  have hnm : x.name ∈ fNames p.funcs := List.mem_map.2 ⟨x, List.mem_of_getElem? hx, rfl⟩
                  have cl2 := fun (y : World) => loops_any cb _ p.funcs x.name (ext W4 y) (cell_keep (ext_below W4 y) (row_of hR1.out.ck 3 _ rfl)) (hR1.out.rd.2.2.1.keep (ext_below W4 y)) HTT.out hnm
                  clear hrr hx c0 c1 c2 c3 c4 hfd hb4 G4 hR hnm
                  cases hlp : loopB p.funcs x.name
                  · rw [hlp] at cl2
                    have HLP := Lib.hid hlp
                    have CL := Lib.hid cl2
                    clear hlp cl2
                    (refine wp_region_calm_tail 7 (by kernel_rfl) (by kernel_rfl) ?_; simp only [List.take_succ_cons, List.take_zero, List.drop_succ_cons, List.drop_zero]; (repeat (go_big_quiet_step ((go_at_call 91; exact calls_calm (CL.out _))))); refine wpQuiet_nil ?_; intro wc hwc)
                    have hR2 := Lib.hid (hR1.out.keep hwc)
                    clear e0 e3 e4 hR1 hwc CL
                    go_wp2_with fail
                    refine (need_ok x.line x.col 9 _).mono ?_
                    rintro e w6 ⟨rfl, hb6⟩
                    have hQ : Hid (loopsF p.funcs = firstF (fun _ f => needF (!loopB p.funcs f.name) f.line f.col 9) (p.funcs.take (k + 1)) (p.funcs.drop (k + 1))) := firstF_ok hq.out HX.out (by rw [HLP.out]; rfl)
                    have hJ3 := Lib.hid (hR2.out.keep hb6)
                    clear hR2 hb6
                    go_wp2_with fail
                    go_roundw
                    case rel => exact ⟨k + 1, by omega, by go_num, hJ3, hQ⟩
                    case measure => simp [intOf]; omega
                  · rw [hlp] at cl2
                    have HLP := Lib.hid hlp
                    have CL := Lib.hid cl2
                    clear hlp cl2
                    (refine wp_region_calm_tail 7 (by kernel_rfl) (by kernel_rfl) ?_; simp only [List.take_succ_cons, List.take_zero, List.drop_succ_cons, List.drop_zero]; (repeat (go_big_quiet_step ((go_at_call 91; exact calls_calm (CL.out _))))); refine wpQuiet_nil ?_; intro wc hwc)
                    have hR2 := Lib.hid (hR1.out.keep hwc)
                    clear e0 e3 e4 hR1 hwc CL
                    go_wp2_with fail
                    refine (need_bad x.line x.col 9 _).mono ?_
                    rintro e w6 ⟨rfl, hb6⟩
                    have hA : Hid (checkF p = some ⟨x.line, x.col, 9⟩) := HC10.out.trans (firstF_fault hq.out HX.out (by rw [HLP.out]; rfl))
                    exact ⟨rfl, by rw [hA.out]; rfl, (hR2.out.keep hb6).below⟩
                obtain rfl : k = p.funcs.length := by omega
                have hA : Hid (checkF p = none) := HC10.out.trans (firstF_end hq.out)
                go_wp2
                go_end0
                exact ⟨by rw [hA.out]; rfl, hR.out.below⟩
end Go.Proofs.YtgcfdbhpophnjaaDoor
