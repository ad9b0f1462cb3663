/- What holds of memory while a check runs: the checker's block, its maps, its list of labels; and the check as a chain of parts. Plain lemmas. No condition. -/
import Derived.Test.YtjdbdoeopobciaaDoorIns
import Derived.Test.YtjdbdoeopobciaaDoorTgt
import Derived.Test.YtjdbdoeopobciaaDoorLop
set_option linter.unusedVariables false
set_option linter.unusedSimpArgs false
namespace Go.Proofs.YtjdbdoeopobciaaDoor
open Go.ChangeShapes Go.WideShapes Go.ChangeAt Go.RowKit
section
variable (p : ProgD)
noncomputable def r10 : Option FaultD := loopsF p.funcs
noncomputable def r9 : Option FaultD := (targetsF (paramsOf p.funcs) (labelsOf p.main) p.main).or (r10 p)
noncomputable def r8 : Option FaultD := (targsF p.funcs).or (r9 p)
noncomputable def r7 : Option FaultD := (instrsF p.chans (aNames p.arrays) true (sitesOf [] (codesOf p.funcs)) p.main 0 0).or (r8 p)
noncomputable def r6 : Option FaultD := (funcsF p.chans (aNames p.arrays) p.funcs).or (r7 p)
noncomputable def r5 : Option FaultD := (needF (decide (p.funcs.length ≤ 32)) 0 0 5).or (r6 p)
noncomputable def r4 : Option FaultD := (arrsF p.arrays).or (r5 p)
noncomputable def r3 : Option FaultD := (needF (decide (p.arrays.length ≤ 32)) 0 0 5).or (r4 p)
noncomputable def r2 : Option FaultD := (declsF p.chans 0 0).or (r3 p)
noncomputable def r1 : Option FaultD := (needF (decide (p.chans.length ≤ 32)) 0 0 5).or (r2 p)
theorem check_r : checkF p = (needF (decide (1 ≤ p.width) && decide (p.width ≤ 64)) 0 0 3).or (r1 p) := rfl
end
theorem or_some {a b c : Option FaultD} {F : FaultD} (h : a = b.or c) (hb : b = some F) : a = some F := by rw [h, hb]; rfl
theorem or_none {a b c : Option FaultD} (h : a = b.or c) (hb : b = none) : a = c := by rw [h, hb]; rfl
/-- The checker's block, its maps, the list of labels, and the two boxes of run. -/
structure RunAt (w0 : World) (p : ProgD) (cv av fv mv : Value) (cb bc ba bs bp q : Nat) (ch ar si : List ByteArray) (pa : List (ByteArray × Int)) (lv : Value) (labs : List (Nat × List ByteArray)) (w : World) : Prop where
  below : Below w0.heap.size w0 w
  rd0 : RdProg none w0 p cv av fv mv
  laid0 : Laid w0
  ck : w.heap[cb]? = some (.cells #[.int .i64 p.width, cv, av, fv, mv, .map (some bc), .map (some ba), .map (some bs), .map (some bp), lv] 72 (0,0))
  hc : SetIs w bc ch
  ha : SetIs w ba ar
  hs : SetIs w bs si
  hp : IntsIs w bp pa
  own : w.ownsRow w0.heap.size 68 1 lv labs.length (labs.map fun x => .map (some x.1))
  hl : ∀ x ∈ labs, SetIs w x.1 x.2 ∧ x.1 ≠ bs ∧ x.1 ≠ bp
  b2 : w.heap[q]? = some (.cells #[.int .i64 0, .int .i64 0] 30 (0,0))
  b3 : w.heap[q + 1]? = some (.cells #[.int .i64 p.width, cv, av, fv, mv] 27 (0,0))
/-- The blocks are apart, and all of them are new. -/
structure RunB (w0 : World) (cb bc ba bs bp q : Nat) : Prop where
  gcb : w0.heap.size ≤ cb
  gbc : w0.heap.size ≤ bc
  gba : w0.heap.size ≤ ba
  gbs : w0.heap.size ≤ bs
  gbp : w0.heap.size ≤ bp
  nca : bc ≠ ba
  ncs : bc ≠ bs
  ncp : bc ≠ bp
  nas : ba ≠ bs
  nap : ba ≠ bp
  nsp : bs ≠ bp
theorem inL_false_paramsOf {l : List FuncD} {s : ByteArray} (h : inL s (fNames l) = false) : ∀ x ∈ paramsOf l, x.1 ≠ s := by
  intro x hx e
  obtain ⟨f, hf, rfl⟩ := List.mem_map.1 hx
  exact inL_not.1 h (List.mem_map.2 ⟨f, hf, e⟩)
theorem declF_none {acc : List ByteArray} {s : ByteArray} {l c : Int} (h : declF acc s l c = none) : named s = true ∧ inL s acc = false := by
  unfold declF at h
  rw [Option.or_eq_none_iff] at h
  obtain ⟨h1, h2⟩ := h
  unfold needF at h1 h2
  constructor
  · cases hn : named s
    · rw [hn] at h1; cases h1
    · rfl
  · cases hn : inL s acc
    · rfl
    · rw [hn] at h2; cases h2
theorem apart_of_prefix : ∀ (l : List FuncD), (∀ (p : List FuncD) x r, l = p ++ x :: r → x.name ∉ fNames p) → (paramsOf l).Pairwise (fun a b => a.1 ≠ b.1)
  | [], _ => List.Pairwise.nil
  | a :: t, h => by
    refine List.pairwise_cons.2 ⟨fun b hb e => ?_, apart_of_prefix t (fun p x r e hm => ?_)⟩
    · obtain ⟨f, hf, rfl⟩ := List.mem_map.1 hb
      obtain ⟨p, r, rfl⟩ := List.append_of_mem hf
      exact h (a :: p) f r rfl (by simp only [fNames, List.map_cons, List.mem_cons]; left; exact e.symm)
    · exact h (a :: p) x r (by rw [e]; rfl) (by simp only [fNames, List.map_cons, List.mem_cons]; right; exact hm)
theorem funcs_apart {chans arrays : List ByteArray} {l : List FuncD} (h : funcsF chans arrays l = none) : (paramsOf l).Pairwise (fun a b => a.1 ≠ b.1) := by
  refine apart_of_prefix l (fun p x r e hm => ?_)
  have := (firstF_none _ l []).1 h p x r e
  unfold funcF at this
  rw [Option.or_eq_none_iff] at this
  exact inL_not.1 (declF_none this.1).2 hm
theorem targs_there {fs : List FuncD} (h : targsF fs = none) : ∀ f ∈ fs, ∀ g ∈ callsOf f.code, g ∈ fNames fs := by
  intro f hf g hg
  obtain ⟨p, r, e⟩ := List.append_of_mem hf
  have h1 := (firstF_none _ fs []).1 h p f r e
  obtain ⟨x, hx, rfl⟩ := List.mem_map.1 hg
  obtain ⟨hx1, hx2⟩ := List.mem_filter.1 hx
  obtain ⟨p', r', e'⟩ := List.append_of_mem hx1
  have h2 := (firstF_none _ f.code []).1 h1 p' x r' e'
  rw [targetF_call _ _ x hx2, Option.or_eq_none_iff] at h2
  have h3 := h2.1
  cases ha : atL x.name (paramsOf fs) with
  | none => rw [ha] at h3; cases h3
  | some n =>
    unfold atL at ha
    rw [Option.map_eq_some_iff] at ha
    obtain ⟨y, hy, _⟩ := ha
    have hm := List.mem_of_find?_eq_some hy
    have he := List.find?_some hy
    obtain ⟨f', hf', rfl⟩ := List.mem_map.1 hm
    exact List.mem_map.2 ⟨f', hf', by simpa using he⟩
section
variable {w0 : World} {p : ProgD} {cv av fv mv : Value} {cb bc ba bs bp q : Nat} {ch ar si : List ByteArray} {pa : List (ByteArray × Int)} {lv : Value} {labs : List (Nat × List ByteArray)} {w w' : World}
theorem RunAt.rd (h : RunAt w0 p cv av fv mv cb bc ba bs bp q ch ar si pa lv labs w) : RdProg none w p cv av fv mv := h.rd0.keep h.below
theorem RunAt.laid (h : RunAt w0 p cv av fv mv cb bc ba bs bp q ch ar si pa lv labs w) : Laid w := h.laid0.keep h.below
theorem RunAt.keep (h : RunAt w0 p cv av fv mv cb bc ba bs bp q ch ar si pa lv labs w) (b : Below w.heap.size w w') : RunAt w0 p cv av fv mv cb bc ba bs bp q ch ar si pa lv labs w' :=
  ⟨h.below.trans (b.mono h.below.size), h.rd0, h.laid0, (b.block _ (Array.getElem?_eq_some_iff.1 h.ck).1).trans h.ck, h.hc.keep b, h.ha.keep b, h.hs.keep b, h.hp.keep b, own_below h.own b, fun x hx => ⟨(h.hl x hx).1.keep b, (h.hl x hx).2⟩, (b.block _ (Array.getElem?_eq_some_iff.1 h.b2).1).trans h.b2, (b.block _ (Array.getElem?_eq_some_iff.1 h.b3).1).trans h.b3⟩
/-- A map that is none of the program's, written. -/
theorem RunAt.turn (h : RunAt w0 p cv av fv mv cb bc ba bs bp q ch ar si pa lv labs w) {b : Nat} {L : List (ByteArray × Value)} (hm : MapIs w b L) (hg : w.grownBy w' (some b)) (hb : w0.heap.size ≤ b) :
    Below w0.heap.size w0 w' ∧ w'.heap[cb]? = some (.cells #[.int .i64 p.width, cv, av, fv, mv, .map (some bc), .map (some ba), .map (some bs), .map (some bp), lv] 72 (0,0)) ∧
      w'.ownsRow w0.heap.size 68 1 lv labs.length (labs.map fun x => .map (some x.1)) ∧ w'.heap[q]? = some (.cells #[.int .i64 0, .int .i64 0] 30 (0,0)) ∧ w'.heap[q + 1]? = some (.cells #[.int .i64 p.width, cv, av, fv, mv] 27 (0,0)) ∧
      Turned (fun k => k = b) w w' := by
  have ht : Turned (fun k => k = b) w w' := Turned.of_grown hg (fun b e => by cases e; rfl)
  have hbl : ∀ {g : Nat} {cs : Array Value} {T : TypeId}, w.heap[g]? = some (.cells cs T (0,0)) → w'.heap[g]? = some (.cells cs T (0,0)) := fun hc => (ht.block _ (Array.getElem?_eq_some_iff.1 hc).1 (fun e => map_ne_cells hm hc e.symm)).trans hc
  exact ⟨below_then h.below ht h.below.size (fun i e => by omega), hbl h.ck, own_turn h.own ht (fun k hk' e => own_ne_map h.own hm (by rw [hk', e])), hbl h.b2, hbl h.b3, ht⟩
theorem RunAt.setC (h : RunAt w0 p cv av fv mv cb bc ba bs bp q ch ar si pa lv [] w) (B : RunB w0 cb bc ba bs bp q) {ch' : List ByteArray} (hg : w.grownBy w' (some bc)) (hs : SetIs w' bc ch') : RunAt w0 p cv av fv mv cb bc ba bs bp q ch' ar si pa lv [] w' := by
  obtain ⟨h1, h4, h5, h6, h7, ht⟩ := h.turn h.hc hg B.gbc
  exact ⟨h1, h.rd0, h.laid0, h4, hs, h.ha.turn ht (fun e => B.nca e.symm), h.hs.turn ht (fun e => B.ncs e.symm), h.hp.turn ht (fun e => B.ncp e.symm), h5, (fun x hx => nomatch hx), h6, h7⟩
theorem RunAt.setA (h : RunAt w0 p cv av fv mv cb bc ba bs bp q ch ar si pa lv [] w) (B : RunB w0 cb bc ba bs bp q) {ar' : List ByteArray} (hg : w.grownBy w' (some ba)) (hs : SetIs w' ba ar') : RunAt w0 p cv av fv mv cb bc ba bs bp q ch ar' si pa lv [] w' := by
  obtain ⟨h1, h4, h5, h6, h7, ht⟩ := h.turn h.ha hg B.gba
  exact ⟨h1, h.rd0, h.laid0, h4, h.hc.turn ht B.nca, hs, h.hs.turn ht (fun e => B.nas e.symm), h.hp.turn ht (fun e => B.nap e.symm), h5, (fun x hx => nomatch hx), h6, h7⟩
theorem RunAt.setP (h : RunAt w0 p cv av fv mv cb bc ba bs bp q ch ar si pa lv labs w) (B : RunB w0 cb bc ba bs bp q) {pa' : List (ByteArray × Int)} (hg : w.grownBy w' (some bp)) (hs : IntsIs w' bp pa') : RunAt w0 p cv av fv mv cb bc ba bs bp q ch ar si pa' lv labs w' := by
  obtain ⟨h1, h4, h5, h6, h7, ht⟩ := h.turn h.hp hg B.gbp
  exact ⟨h1, h.rd0, h.laid0, h4, h.hc.turn ht B.ncp, h.ha.turn ht B.nap, h.hs.turn ht B.nsp, hs, h5, fun x hx => ⟨(h.hl x hx).1.turn ht (h.hl x hx).2.2, (h.hl x hx).2⟩, h6, h7⟩
/-- A map of names that is none of the checker's, written. -/
theorem RunAt.setF (h : RunAt w0 p cv av fv mv cb bc ba bs bp q ch ar si pa lv labs w) {b : Nat} {L : List (ByteArray × Value)} (hm : MapIs w b L) (hb : w0.heap.size ≤ b) (h1 : b ≠ bc) (h2 : b ≠ ba) (h3 : b ≠ bs) (h4 : b ≠ bp) (h5 : ∀ x ∈ labs, x.1 ≠ b) (hg : w.grownBy w' (some b)) : RunAt w0 p cv av fv mv cb bc ba bs bp q ch ar si pa lv labs w' := by
  obtain ⟨k1, k4, k5, k6, k7, ht⟩ := h.turn hm hg hb
  exact ⟨k1, h.rd0, h.laid0, k4, h.hc.turn ht (fun e => h1 e.symm), h.ha.turn ht (fun e => h2 e.symm), h.hs.turn ht (fun e => h3 e.symm), h.hp.turn ht (fun e => h4 e.symm), k5, fun x hx => ⟨(h.hl x hx).1.turn ht (h5 x hx), (h.hl x hx).2⟩, k6, k7⟩
/-- Behind instrs. -/
theorem RunAt.ins (h : RunAt w0 p cv av fv mv cb bc ba bs bp q ch ar si pa lv labs w) (B : RunB w0 cb bc ba bs bp q) {si' : List ByteArray} {lv' : Value} {lb : Nat} {lab : List ByteArray}
    (ht : Turned (fun k => k = bs ∨ k = cb ∨ lv.ownBlock = some k) w w') (hlb : w.heap.size ≤ lb) (hlab : SetIs w' lb lab) (hsi : SetIs w' bs si')
    (hck : w'.heap[cb]? = some (.cells #[.int .i64 p.width, cv, av, fv, mv, .map (some bc), .map (some ba), .map (some bs), .map (some bp), lv'] 72 (0,0))) (hown : w'.ownsRow w0.heap.size 68 1 lv' (labs.length + 1) ((labs.map fun x => .map (some x.1)) ++ [.map (some lb)])) :
    RunAt w0 p cv av fv mv cb bc ba bs bp q ch ar si' pa lv' (labs ++ [(lb, lab)]) w' := by
  have hbel : Below w0.heap.size w0 w' := below_then h.below ht h.below.size (fun i e => by
    rcases e with e | e | e
    · have := B.gbs; omega
    · have := B.gcb; omega
    · exact (own_is h.own e).1)
  have hmap : ∀ {b : Nat} {L : List (ByteArray × Value)}, MapIs w b L → b ≠ bs → ¬ (b = bs ∨ b = cb ∨ lv.ownBlock = some b) := fun hm hne e => by
    rcases e with e | e | e
    · exact hne e
    · exact map_ne_cells hm h.ck e
    · exact own_ne_map h.own hm e
  have hbox : ∀ {g : Nat} {cs : Array Value} {T : TypeId}, w.heap[g]? = some (.cells cs T (0,0)) → T ≠ 68 → T ≠ 72 → w'.heap[g]? = some (.cells cs T (0,0)) := fun {g cs T} hc h1 h2 => by
    refine (ht.block _ (Array.getElem?_eq_some_iff.1 hc).1 (fun e => ?_)).trans hc
    rcases e with e | e | e
    · exact map_ne_cells h.hs hc e.symm
    · rw [e, h.ck] at hc; simp at hc; exact h2 hc.2.symm
    · exact own_ne_cells h.own hc h1 e
  refine ⟨hbel, h.rd0, h.laid0, hck, h.hc.turn ht (hmap h.hc B.ncs), h.ha.turn ht (hmap h.ha B.nas), hsi, h.hp.turn ht (hmap h.hp (fun e => B.nsp e.symm)), ?_, ?_, hbox h.b2 (by decide) (by decide), hbox h.b3 (by decide) (by decide)⟩
  · rw [List.length_append, List.map_append]; exact hown
  · intro x hx
    rcases List.mem_append.1 hx with hx | hx
    · exact ⟨(h.hl x hx).1.turn ht (hmap (h.hl x hx).1 (h.hl x hx).2.1), (h.hl x hx).2⟩
    · rw [List.mem_singleton] at hx; subst hx
      exact ⟨hlab, by have := h.hs.lt; simp only; omega, by have := h.hp.lt; simp only; omega⟩
end
end Go.Proofs.YtjdbdoeopobciaaDoor
