/- Package flat's maker in memory, and the contracts of its small functions: put, ref, trim, array and the search of a function. Conditions: the maker's block, the registers and the program lie in memory as is said. -/
import Derived.Test.YtgcfdbhpophnjaaDoorFlP
import Derived.Test.YtgcfdbhpophnjaaDoorMpg
import Derived.Test.YtgcfdbhpophnjaaDoorMixK
import Derived.Test.YtgcfdbhpophnjaaDoorPu2
import Derived.Test.YtgcfdbhpophnjaaDoorMWd
import Derived.Maps.AppendAt
import Derived.Deep.CutBlock
import Derived.Deep.CutRange
import Derived.Laws.Bits64
set_option linter.unusedVariables false
set_option linter.unusedSimpArgs false
set_option linter.unnecessarySimpa false
namespace Go.Proofs.YtgcfdbhpophnjaaDoor
open Go.Maps (Keyed string_keyed int_keyed)
open Go.WideShapes Go.ChangeMaps Go.MapKept Go.WideMaps Go.ChangeAt Go.RowKit Go.ChangeShapes
/-! ### the registers' map -/
theorem laidOutQ : laidOutB Tryd.prog = true := by kernel_rfl
theorem placeKeyed : Keyed Tryd.prog 117 := Keyed.of_law (deep_law_laid laidOutQ (m := 2) (by omega) (of_decide_eq_true (by kernel_rfl)) (by kernel_rfl) (by kernel_rfl))
abbrev plcV (f : Int) (s : ByteArray) : Value := .agg #[.int .i64 f, .string s]
theorem placeFormed (f : Int) (s : ByteArray) : (plcV f s).formed Tryd.prog 117 = true := by kernel_rfl
theorem typesN : ∃ n, Tryd.prog.types.size = n + 1 := ⟨Tryd.prog.types.size - 1, by have h : 0 < Tryd.prog.types.size := of_decide_eq_true (by kernel_rfl); omega⟩
theorem plc_key (f : Int) (s : ByteArray) (hf : InI64 f) (hs : s.size ≤ maxLen) : ∃ l, keyOf Tryd.prog 117 (plcV f s) = some l := by
  obtain ⟨n0, hn⟩ := typesN
  obtain ⟨n, rfl⟩ : ∃ n, n0 = n + 1 := ⟨n0 - 1, by have h : 1 < Tryd.prog.types.size := of_decide_eq_true (by kernel_rfl); omega⟩
  have h1 : Tryd.prog.keyType 117 = true := by kernel_rfl
  have h2 := placeFormed f s
  have c0 : Tryd.prog.cellsOf 117 = 2 := by kernel_rfl
  have c1 : Tryd.prog.cellsOf 3 = 1 := by kernel_rfl
  have c2 : Tryd.prog.cellsOf 9 = 1 := by kernel_rfl
  have hw : (Lit.int .i64 f).wf = true := by simp [Lit.wf, IntKind.min, IntKind.max, IntKind.bits, IntKind.signed]; exact hf
  have k1 : Tryd.prog.keyLits (n + 2) 3 [.int .i64 f] = some [.int .i64 f] := by
    unfold Program.keyLits; simp only [Tryd.underlying3]; simp [hw]
  have k2 : Tryd.prog.keyLits (n + 2) 9 [.string s] = some [.string s.data.toList] := by
    unfold Program.keyLits; simp only [Tryd.underlying9]; simp [hs]
  unfold keyOf
  rw [Tryd.underlying117]
  simp only
  rw [h1, h2]
  simp only [Bool.and_self, if_true]
  rw [hn]
  unfold Program.keyLits
  simp only [Tryd.underlying117]
  simp [Value.cells, c0, c1, c2, k1, k2]
def regFrom : Nat → List (Int × ByteArray) → List (Value × Value)
  | _, [] => []
  | i, q :: r => (plcV q.1 q.2, .int .i64 (i : Nat)) :: regFrom (i + 1) r
theorem regFrom_snoc (q : Int × ByteArray) : ∀ (R : List (Int × ByteArray)) (i : Nat), regFrom i (R ++ [q]) = regFrom i R ++ [(plcV q.1 q.2, .int .i64 ((i + R.length : Nat) : Int))]
  | [], i => by simp [regFrom]
  | t :: r, i => by
    rw [List.cons_append, regFrom, regFrom, regFrom_snoc q r (i + 1), List.cons_append, List.length_cons, show i + 1 + r.length = i + (r.length + 1) from by omega]
theorem regFrom_length : ∀ (R : List (Int × ByteArray)) (i : Nat), (regFrom i R).length = R.length
  | [], _ => rfl
  | _ :: r, i => by rw [regFrom, List.length_cons, regFrom_length r, List.length_cons]
theorem regFrom_get : ∀ (R : List (Int × ByteArray)) (i j : Nat) (p : Value × Value), (regFrom i R)[j]? = some p → ∃ q, R[j]? = some q ∧ p = (plcV q.1 q.2, .int .i64 ((i + j : Nat) : Int))
  | [], _, _, _, h => by simp [regFrom] at h
  | q :: r, i, 0, p, h => by
    simp [regFrom] at h
    exact ⟨q, rfl, by rw [← h]; rfl⟩
  | q :: r, i, j + 1, p, h => by
    simp only [regFrom, List.getElem?_cons_succ] at h
    obtain ⟨t, h1, h2⟩ := regFrom_get r (i + 1) j p h
    exact ⟨t, by simpa using h1, by rw [h2, show i + 1 + j = i + (j + 1) from by omega]⟩
theorem regFrom_mem {R : List (Int × ByteArray)} {i : Nat} {p : Value × Value} (h : p ∈ regFrom i R) : ∃ q ∈ R, p.1 = plcV q.1 q.2 := by
  obtain ⟨j, hj⟩ := List.getElem?_of_mem h
  obtain ⟨q, h1, h2⟩ := regFrom_get R i j p hj
  exact ⟨q, List.mem_of_getElem? h1, by rw [h2]⟩
theorem regFrom_has {R : List (Int × ByteArray)} {i : Nat} {q : Int × ByteArray} (h : q ∈ R) : ∃ p ∈ regFrom i R, p.1 = plcV q.1 q.2 := by
  induction R generalizing i with
  | nil => cases h
  | cons t r ih =>
    rcases List.mem_cons.1 h with rfl | h
    · exact ⟨_, List.mem_cons_self .., rfl⟩
    · obtain ⟨p, h1, h2⟩ := ih (i := i + 1) h
      exact ⟨p, List.mem_cons_of_mem _ h1, h2⟩
theorem plcV_inj {f g : Int} {s t : ByteArray} (h : plcV f s = plcV g t) : (f, s) = (g, t) := by
  simp only [plcV, Value.agg.injEq, Array.mk.injEq, List.cons.injEq, Value.int.injEq, Value.string.injEq, true_and, and_true] at h
  rw [h.1, h.2]
theorem regN_at {R : List (Int × ByteArray)} (hd : R.Nodup) {f : Int} {s : ByteArray} {j : Nat} (h : R[j]? = some (f, s)) : regN R f s = j := by
  unfold regN
  have hj := (List.getElem?_eq_some_iff.1 h)
  have : R.findIdx? (fun q => decide (q = (f, s))) = some j := by
    rw [List.findIdx?_eq_some_iff_getElem]
    refine ⟨hj.1, by simpa using hj.2, fun i hi => ?_⟩
    simp only [decide_eq_true_eq, Bool.not_eq_true, decide_eq_false_iff_not]
    intro e
    have h1 : R[i]'(Nat.lt_trans hi hj.1) = R[j]'hj.1 := by rw [e]; exact hj.2.symm
    exact List.pairwise_iff_getElem.1 hd i j _ _ hi h1
  rw [this]; rfl
theorem regN_none {R : List (Int × ByteArray)} {f : Int} {s : ByteArray} (h : (f, s) ∉ R) : regN R f s = 0 := by
  unfold regN
  have : R.findIdx? (fun q => decide (q = (f, s))) = none := by
    rw [List.findIdx?_eq_none_iff]
    intro q hq
    simp only [decide_eq_false_iff_not]
    exact fun e => h (e ▸ hq)
  rw [this]; rfl
/-- Block b is the map of the registers of R. -/
def RegsIs (w : World) (b : Nat) (R : List (Int × ByteArray)) : Prop := MapG Tryd.prog 117 w b (regFrom 0 R)
theorem intZero (w : World) : (zeroValue 3).run Tryd.prog w = .ok (.int .i64 0) w := by kernel_rfl
theorem RegsIs.look {w : World} {b : Nat} {R : List (Int × ByteArray)} (h : RegsIs w b R) (hd : R.Nodup) (f : Int) (s : ByteArray) (hf : InI64 f) (hs : s.size ≤ maxLen) :
    (Instr.lookup 75 (.map (some b)) (plcV f s) false).run Tryd.prog w = .ok (.int .i64 (regN R f s : Nat)) w := by
  obtain ⟨l, hl⟩ := plc_key f s hf hs
  rcases MapG.lookup placeKeyed Tryd.underlying75 (intZero w) h (plcV f s) hl with ⟨h1, h2⟩ | ⟨v, h1, j, h2⟩
  · rw [regN_none (fun hm => ?_)]
    · exact h1
    · obtain ⟨p, h3, h4⟩ := regFrom_has (i := 0) hm
      exact h2 p h3 h4
  · obtain ⟨q, h3, h4⟩ := regFrom_get R 0 j _ h2
    simp only [Prod.mk.injEq] at h4
    have e := plcV_inj h4.1
    rw [regN_at hd (j := j) (by rw [h3, e])]
    rw [h1, h4.2, Nat.zero_add]
theorem RegsIs.at {w w' : World} {b : Nat} {R : List (Int × ByteArray)} (h : RegsIs w b R) (e : w'.heap[b]? = w.heap[b]?) : RegsIs w' b R := MapG.at h e
/-! ### the maker -/
abbrev codeA (c : CodeD) : Value := .agg #[.int .u8 c.kind, .int .u8 c.op, .int .i64 c.dst, .int .i64 c.n, .int .i64 c.a.reg, .int .u64 c.a.num, .int .i64 c.b.reg, .int .u64 c.b.num]
abbrev refA (r : RefD) : Value := .agg #[.int .i64 r.reg, .int .u64 r.num]
def okC (c : CodeD) : Prop := InU8 c.kind ∧ InU8 c.op ∧ InI64 c.dst ∧ InI64 c.n ∧ InI64 c.a.reg ∧ InU64 c.a.num ∧ InI64 c.b.reg ∧ InU64 c.b.num
/-- What does not change while the flat program is made: the world before it, the blocks of the maker and of the registers, the program's slices, the channels, the sites and the arrays. -/
structure MkS where
  w0 : World
  M : Nat
  rb : Nat
  E : EnvF
  ac : Option Addr
  kc : Nat
  aa : Option Addr
  ka : Nat
  af : Option Addr
  kf : Nat
  am : Option Addr
  km : Nat
  fc : Option Addr
  fk : Nat
  sa : Option Addr
  sk : Nat
  ra : Option Addr
  rk : Nat
  rg : Int
namespace MkS
abbrev cells (m : MkS) (kv : Value) : Array Value := #[.int .i64 m.E.p.width, .slice m.ac m.E.p.chans.length m.kc, .slice m.aa m.E.p.arrays.length m.ka, .slice m.af m.E.p.funcs.length m.kf, .slice m.am m.E.p.main.length m.km, .int .i64 m.E.p.width, .int .i64 m.rg, .slice m.fc m.E.p.chans.length m.fk, .slice m.sa m.E.S.length m.sk, .slice m.ra m.E.p.arrays.length m.rk, kv, .map (some m.rb)]
structure Ok (m : MkS) : Prop where
  prog : RdProg none m.w0 m.E.p (.slice m.ac m.E.p.chans.length m.kc) (.slice m.aa m.E.p.arrays.length m.ka) (.slice m.af m.E.p.funcs.length m.kf) (.slice m.am m.E.p.main.length m.km)
  laid : Laid m.w0
  chk : checkF m.E.p = none
  nodup : m.E.R.Nodup
  rlen : m.E.R.length ≤ 2000000
  wd : 1 ≤ m.E.p.width ∧ m.E.p.width ≤ 64
structure At (m : MkS) (kv : Value) (C : List CodeD) (w : World) : Prop where
  below : Below m.w0.heap.size m.w0 w
  hm : w.heap[m.M]? = some (.cells (m.cells kv) 77 (0, 0))
  own : w.ownsRow m.w0.heap.size 48 8 kv C.length (C.flatMap cellsCode)
  ok : ∀ c ∈ C, okC c
  regs : RegsIs w m.rb m.E.R
  sites : w.ownsRow m.w0.heap.size 9 1 (.slice m.sa m.E.S.length m.sk) m.E.S.length (m.E.S.flatMap strCells)
  sok : ∀ s ∈ m.E.S, s.size ≤ maxLen
  slen : m.E.S.length ≤ 100000
  lm : m.w0.heap.size ≤ m.M
/-- Of the blocks that were there only the maker's and the instructions' have turned. -/
def Grew (m : MkS) (kv kv' : Value) (w w' : World) : Prop := Turned (fun k => k = m.M ∨ kv.ownBlock = some k) w w' ∧ ∀ k, kv'.ownBlock = some k → kv.ownBlock = some k ∨ w.heap.size ≤ k
theorem Grew.refl (m : MkS) (kv : Value) (w : World) : m.Grew kv kv w w := ⟨Turned.refl _ _, fun _ h => .inl h⟩
theorem Grew.trans {m : MkS} {a b c : Value} {w x y : World} (h : m.Grew a b w x) (k : m.Grew b c x y) : m.Grew a c w y :=
  ⟨h.1.step k.1 fun i hi e => by
    rcases e with e | e
    · exact .inl e
    · rcases h.2 i e with e | e
      · exact .inr e
      · omega, fun i e => by
    rcases k.2 i e with e | e
    · exact h.2 i e
    · exact .inr (Nat.le_trans h.1.size e)⟩
theorem Grew.of_below {m : MkS} {a : Value} {w x : World} (h : Below w.heap.size w x) : m.Grew a a w x := ⟨Turned.of_below h, fun _ e => .inl e⟩
theorem At.keep {m : MkS} {kv : Value} {C : List CodeD} {w w' : World} (h : m.At kv C w) (k : Below w.heap.size w w') : m.At kv C w' :=
  ⟨bcomp h.below k, (k.block _ (Array.getElem?_eq_some_iff.1 h.hm).1).trans h.hm, own_below h.own k, h.ok, MapG.keep h.regs k, own_below h.sites k, h.sok, h.slen, h.lm⟩
theorem At.mlt {m : MkS} {kv : Value} {C : List CodeD} {w : World} (h : m.At kv C w) : m.M < w.heap.size := (Array.getElem?_eq_some_iff.1 h.hm).1
theorem At.c0 {m : MkS} {kv : Value} {C : List CodeD} {w : World} (h : m.At kv C w) : w.cell? ⟨m.M, 0, none⟩ = some (.int .i64 m.E.p.width) := row_of h.hm 0 _ rfl
theorem At.c1 {m : MkS} {kv : Value} {C : List CodeD} {w : World} (h : m.At kv C w) : w.cell? ⟨m.M, 1, none⟩ = some (.slice m.ac m.E.p.chans.length m.kc) := row_of h.hm 1 _ rfl
theorem At.c2 {m : MkS} {kv : Value} {C : List CodeD} {w : World} (h : m.At kv C w) : w.cell? ⟨m.M, 2, none⟩ = some (.slice m.aa m.E.p.arrays.length m.ka) := row_of h.hm 2 _ rfl
theorem At.c3 {m : MkS} {kv : Value} {C : List CodeD} {w : World} (h : m.At kv C w) : w.cell? ⟨m.M, 3, none⟩ = some (.slice m.af m.E.p.funcs.length m.kf) := row_of h.hm 3 _ rfl
theorem At.c4 {m : MkS} {kv : Value} {C : List CodeD} {w : World} (h : m.At kv C w) : w.cell? ⟨m.M, 4, none⟩ = some (.slice m.am m.E.p.main.length m.km) := row_of h.hm 4 _ rfl
theorem At.c5 {m : MkS} {kv : Value} {C : List CodeD} {w : World} (h : m.At kv C w) : w.cell? ⟨m.M, 5, none⟩ = some (.int .i64 m.E.p.width) := row_of h.hm 5 _ rfl
theorem At.c6 {m : MkS} {kv : Value} {C : List CodeD} {w : World} (h : m.At kv C w) : w.cell? ⟨m.M, 6, none⟩ = some (.int .i64 m.rg) := row_of h.hm 6 _ rfl
theorem At.c7 {m : MkS} {kv : Value} {C : List CodeD} {w : World} (h : m.At kv C w) : w.cell? ⟨m.M, 7, none⟩ = some (.slice m.fc m.E.p.chans.length m.fk) := row_of h.hm 7 _ rfl
theorem At.c8 {m : MkS} {kv : Value} {C : List CodeD} {w : World} (h : m.At kv C w) : w.cell? ⟨m.M, 8, none⟩ = some (.slice m.sa m.E.S.length m.sk) := row_of h.hm 8 _ rfl
theorem At.c9 {m : MkS} {kv : Value} {C : List CodeD} {w : World} (h : m.At kv C w) : w.cell? ⟨m.M, 9, none⟩ = some (.slice m.ra m.E.p.arrays.length m.rk) := row_of h.hm 9 _ rfl
theorem At.c10 {m : MkS} {kv : Value} {C : List CodeD} {w : World} (h : m.At kv C w) : w.cell? ⟨m.M, 10, none⟩ = some (kv) := row_of h.hm 10 _ rfl
theorem At.c11 {m : MkS} {kv : Value} {C : List CodeD} {w : World} (h : m.At kv C w) : w.cell? ⟨m.M, 11, none⟩ = some (.map (some m.rb)) := row_of h.hm 11 _ rfl
theorem At.prog {m : MkS} {kv : Value} {C : List CodeD} {w : World} (h : m.At kv C w) (H : m.Ok) : RdProg none w m.E.p (.slice m.ac m.E.p.chans.length m.kc) (.slice m.aa m.E.p.arrays.length m.ka) (.slice m.af m.E.p.funcs.length m.kf) (.slice m.am m.E.p.main.length m.km) := H.prog.keep h.below
theorem At.laid {m : MkS} {kv : Value} {C : List CodeD} {w : World} (h : m.At kv C w) (H : m.Ok) : Laid w := H.laid.keep h.below
theorem regs_ne {w : World} {b g : Nat} {R : List (Int × ByteArray)} (h : RegsIs w b R) {cs : Array Value} {T : TypeId} (hc : w.heap[g]? = some (.cells cs T (0, 0))) : b ≠ g := by
  intro e
  obtain ⟨es, cl, h', _⟩ := h
  rw [e, hc] at h'; cases h'
theorem own_ne_regs {w : World} {base : Nat} {e : TypeId} {size : Nat} {v : Value} {n : Nat} {xs : List Value} (h : w.ownsRow base e size v n xs) {b : Nat} {R : List (Int × ByteArray)} (hm : RegsIs w b R) : v.ownBlock ≠ some b := by
  intro hk
  obtain ⟨_, cur, hb⟩ := own_is h hk
  obtain ⟨es, cl, h', _⟩ := hm
  rw [hb] at h'; cases h'
theorem own_ne_own {w : World} {base base' : Nat} {e e' : TypeId} {size size' : Nat} {v v' : Value} {n n' : Nat} {xs xs' : List Value} (h : w.ownsRow base e size v n xs) (h' : w.ownsRow base' e' size' v' n' xs') (he : e ≠ e') {k : Nat} (hk : v.ownBlock = some k) : v'.ownBlock ≠ some k := by
  intro hk'
  obtain ⟨_, cur, hb⟩ := own_is h hk
  obtain ⟨_, cur', hb'⟩ := own_is h' hk'
  rw [hb] at hb'; simp at hb'; exact he hb'.2
end MkS
theorem three_keepS {W w' : World} {a b c : Nat} (ha : w'.heap[a]? = W.heap[a]?) (hb : w'.heap[b]? = W.heap[b]?) (hc : w'.heap[c]? = W.heap[c]?) : ∀ x ∈ [a, b, c], w'.heap[x]? = W.heap[x]? := by
  intro x hx; simp only [List.mem_cons, List.not_mem_nil, or_false] at hx; rcases hx with rfl | rfl | rfl; exact ha; exact hb; exact hc
set_option maxRecDepth 100000 in
set_option maxHeartbeats 3200000 in
theorem put_any (m : MkS) (mb : Nat) (c : CodeD) (kv : Value) (C : List CodeD) (w : World) (h : m.At kv C w) (hmb : w.heap[mb]? = some (.cells #[.pointer (some ⟨m.M, 0, none⟩)] 74 (0, 0))) (hc : okC c) (hl : C.length ≤ 2000000) :
    Calls Tryd.prog 64 #[codeA c, .pointer (some ⟨mb, 0, none⟩)] w fun e w' => e = .returned (.tuple #[]) ∧ ∃ kv', m.At kv' (C ++ [c]) w' ∧ m.Grew kv kv' w w' := by
  obtain ⟨i0, hi, hz0, hz1, hz2⟩ := info_parts infoCode
  have hb0 := (Below.refl w.heap.size w).alloc (Nat.le_refl _) (.cells #[.int .u8 c.kind, .int .u8 c.op, .int .i64 c.dst, .int .i64 c.n, .int .i64 c.a.reg, .int .u64 c.a.num, .int .i64 c.b.reg, .int .u64 c.b.num] 48)
  have hg0 := heap_alloc_new w (.cells #[.int .u8 c.kind, .int .u8 c.op, .int .i64 c.dst, .int .i64 c.n, .int .i64 c.a.reg, .int .u64 c.a.num, .int .i64 c.b.reg, .int .u64 c.b.num] 48)
  have HA0 := Lib.hid (h.keep hb0)
  have HMB0 := Lib.hid ((hb0.block mb (Array.getElem?_eq_some_iff.1 hmb).1).trans hmb)
  have HB0 := Lib.hid hb0
  have HX0 := Lib.hid hg0
  have HC := Lib.hid hc
  have HLT : Hid (∀ k, kv.ownBlock = some k → k < w.heap.size) := fun k hk => by
    obtain ⟨_, cur, hb⟩ := own_is h.own hk
    exact (Array.getElem?_eq_some_iff.1 hb).1
  clear h hmb hb0 hg0 hc
  go_enter Tryd.func64, Tryd.ntmps64
  go_upto_region 1 with fail
  generalize w.alloc (.cells #[.int .u8 c.kind, .int .u8 c.op, .int .i64 c.dst, .int .i64 c.n, .int .i64 c.a.reg, .int .u64 c.a.num, .int .i64 c.b.reg, .int .u64 c.b.num] 48) = W at *
  obtain ⟨x, hx⟩ : ∃ x, w.heap.size = x := ⟨_, rfl⟩
  rw [hx] at HX0 HLT
  rw [hx]
  have HWX := Lib.hid hx
  clear hx
  obtain ⟨k0, kc0, hkv, _⟩ := own_read HA0.out.own
  have HKV := Lib.hid hkv
  have l0 := keepS_cell (S := [mb, m.M, x]) (by simp) (row_of HMB0.out 0 _ rfl)
  have l1 := keepS_cell (S := [mb, m.M, x]) (by simp) (row_of HA0.out.hm 10 _ rfl)
  rw [hkv] at l1
  have e0 := keepS_cell (S := [mb, m.M, x]) (by simp) (row_of HX0.out 0 _ rfl)
  have e1 := keepS_cell (S := [mb, m.M, x]) (by simp) (row_of HX0.out 1 _ rfl)
  have e2 := keepS_cell (S := [mb, m.M, x]) (by simp) (row_of HX0.out 2 _ rfl)
  have e3 := keepS_cell (S := [mb, m.M, x]) (by simp) (row_of HX0.out 3 _ rfl)
  have e4 := keepS_cell (S := [mb, m.M, x]) (by simp) (row_of HX0.out 4 _ rfl)
  have e5 := keepS_cell (S := [mb, m.M, x]) (by simp) (row_of HX0.out 5 _ rfl)
  have e6 := keepS_cell (S := [mb, m.M, x]) (by simp) (row_of HX0.out 6 _ rfl)
  have e7 := keepS_cell (S := [mb, m.M, x]) (by simp) (row_of HX0.out 7 _ rfl)
  clear hkv
  refine wp_region_mixS [mb, m.M, x] (.one [0, 1, 2, 3, 4, 5, 6] 7 (.one [] 8 (tailOf [9, 10, 11, 12]))) (fun j => decide (9 ≤ j)) (by kernel_rfl) (by kernel_rfl) rfl (by kernel_rfl) (fun _ d _ _ _ h => by cases d <;> exact h) ?_
  have HBd : Hid (Below W.heap.size W W.drew) := (Below.refl _ _).drew
  generalize W.drew = wn at *
  have hmbw : mb < W.heap.size := (Array.getElem?_eq_some_iff.1 HMB0.out).1
  have hmw : m.M < W.heap.size := HA0.out.mlt
  have hxw : x < W.heap.size := (Array.getElem?_eq_some_iff.1 HX0.out).1
  have HKn := Lib.hid (three_keepS (HBd.out.block mb hmbw) (HBd.out.block m.M hmw) (HBd.out.block x hxw))
  refine mix_one (by simp only [opsOf, List.filterMap_cons, List.filterMap_nil, List.getElem?_toArray, List.getElem?_cons_succ, List.getElem?_cons_zero]; rfl) ⟨_, keepS_of HKn.out⟩ ?_
  change wpQuiet _ _ _ _ [_, _, _, _, _, _, _] _
  (repeat (go_big_quiet_step (fail)))
  clear l0 l1 e0 e1 e2 e3 e4 e5 e6 e7
  refine wpQuiet_nil ?_
  refine mix_step rfl ?_
  go_wp2_with fail
  have HN := Lib.hid (heap_alloc_new wn (.cells #[.int .u8 c.kind, .int .u8 c.op, .int .i64 c.dst, .int .i64 c.n, .int .i64 c.a.reg, .int .u64 c.a.num, .int .i64 c.b.reg, .int .u64 c.b.num] 48))
  have hal2 : Below wn.heap.size wn (wn.alloc (.cells #[.int .u8 c.kind, .int .u8 c.op, .int .i64 c.dst, .int .i64 c.n, .int .i64 c.a.reg, .int .u64 c.a.num, .int .i64 c.b.reg, .int .u64 c.b.num] 48)) := (Below.refl _ _).alloc (Nat.le_refl _) _
  have HBn := Lib.hid (bcomp HBd.out hal2)
  have hs1 := HBd.out.size
  have HKa := Lib.hid (three_keepS (hal2.block mb (by omega)) (hal2.block m.M (by omega)) (hal2.block x (by omega)))
  clear hal2
  obtain ⟨gb, hgb⟩ : ∃ gb, wn.heap.size = gb := ⟨_, rfl⟩
  rw [hgb] at HN
  try rw [hgb]
  generalize wn.alloc (.cells #[.int .u8 c.kind, .int .u8 c.op, .int .i64 c.dst, .int .i64 c.n, .int .i64 c.a.reg, .int .u64 c.a.num, .int .i64 c.b.reg, .int .u64 c.b.num] 48) = wa at *
  have HKw := Lib.hid (fun b hb => (HKa.out b hb).trans (HKn.out b hb) : ∀ b ∈ [mb, m.M, x], wa.heap[b]? = W.heap[b]?)
  have HAa := Lib.hid (HA0.out.keep HBn.out)
  clear hgb
  (first | refine ⟨fun _ => ⟨_, keepS_of HKw.out⟩, ?_⟩ | refine ⟨⟨_, keepS_of HKw.out⟩, ?_⟩)
  refine mix_now ?_
  refine mix_step rfl ?_
  try (simp only [Act.put, List.setIfInBounds_toArray, List.set_cons_succ, List.set_cons_zero, List.getElem_toArray, List.getElem_cons_succ, List.getElem_cons_zero])
  have HOWN := Lib.hid HAa.out.own
  rw [HKV.out] at HOWN
  refine wpList_append_own_at _ rfl (.tmp 8) (.tmp 10) 30 rfl m.w0.heap.size 48 i0 (.agg #[.int .u8 0, .int .u8 0, .int .i64 0, .int .i64 0, .int .i64 0, .int .u64 0, .int .i64 0, .int .u64 0]) 8 56 Tryd.underlying30 hi hz0 hz1 hz2 rfl (by decide) _ _ _ rfl HOWN.out ⟨gb, 0, none⟩ 1 1 (cellsCode c) rfl rfl ?hnw ?hone ?h63 ?hby HAa.out.below.size ?_
  case hnw =>
    intro j u hu
    have e : (⟨gb, 0, none⟩ : Addr).add j = ⟨gb, j, none⟩ := by simp [Addr.add]; omega
    rw [e]
    exact row_of HN.out j u (by rw [← List.getElem?_toArray] at hu; exact hu)
  case hone => intro u hu; simp only [cellsCode, List.mem_cons, List.not_mem_nil, or_false] at hu; rcases hu with rfl | rfl | rfl | rfl | rfl | rfl | rfl | rfl <;> rfl
  case h63 => unfold maxLen; omega
  case hby => omega
  intro v' w4 hown' hgrow _ hblk
  have hkb : ∀ k, (Value.slice k0 C.length kc0).ownBlock = some k → k ≠ m.M ∧ k ≠ m.rb := fun k hk => ⟨fun e => MkS.own_ne_regs HOWN.out HAa.out.regs (by
      exfalso
      have := own_ne_cells HOWN.out HAa.out.hm (by decide)
      exact this (by rw [hk, e])), fun e => MkS.own_ne_regs HOWN.out HAa.out.regs (by rw [hk, e])⟩
  have HKB := Lib.hid hkb
  clear hkb
  have hma : m.M < wa.heap.size := by have := HBn.out.size; omega
  have hmba : mb < wa.heap.size := by have := HBn.out.size; omega
  have hmb_ne : (Value.slice k0 C.length kc0).ownBlock ≠ some mb := own_ne_cells HOWN.out ((HKw.out mb (by simp)).trans HMB0.out) (by decide)
  have hT4 : Turned (fun k => (Value.slice k0 C.length kc0).ownBlock = some k) wa w4 := Turned.of_grown hgrow (fun b e => e)
  have HT4 := Lib.hid hT4
  have hm4 := (hT4.block m.M hma (fun e => (HKB.out _ e).1 rfl)).trans HAa.out.hm
  have hxa : x < wa.heap.size := by have := HBn.out.size; omega
  have HKf := Lib.hid (three_keepS ((hT4.block mb hmba hmb_ne).trans (HKw.out mb (by simp))) ((hT4.block m.M hma (fun e => (HKB.out _ e).1 rfl)).trans (HKw.out m.M (by simp))) ((hT4.block x hxa (fun e => by have := HLT.out x (by rw [HKV.out]; exact e); omega)).trans (HKw.out x (by simp))))
  have HR4 : Hid (RegsIs w4 m.rb m.E.R) := HAa.out.regs.at (hT4.block _ HAa.out.regs.lt (fun e => (HKB.out _ e).2 rfl))
  have HS4 := Lib.hid (own_turn HAa.out.sites hT4 (fun k hk => MkS.own_ne_own HAa.out.sites HOWN.out (by decide) hk))
  obtain ⟨xa, xc, rfl, _⟩ := own_read hown'
  have HO4 := Lib.hid hown'
  have HM4 := Lib.hid hm4
  have HBK := Lib.hid hblk
  clear hown' hgrow hblk hT4 hmb_ne
  try (simp only [Act.put, List.setIfInBounds_toArray, List.set_cons_succ, List.set_cons_zero, List.getElem_toArray, List.getElem_cons_succ, List.getElem_cons_zero])
  (first | refine ⟨fun _ => ⟨_, keepS_of HKf.out⟩, ?_⟩ | refine ⟨⟨_, keepS_of HKf.out⟩, ?_⟩)
  have c10 := row_of hm4 10 kv rfl
  have f10 := frozen_of_row w4 m.M 10 _ _ hm4
  clear hm4
  refine mix_tail [9, 10, 11, 12] [_, _, _, _] _ _ rfl rfl ?_
  simp only [Act.put, List.setIfInBounds_toArray, List.set_cons_succ, List.set_cons_zero, List.getElem_toArray, List.getElem_cons_succ, List.getElem_cons_zero]
  go_wp2_with fail
  go_end0
  have hsc := setCell_turned w4 ⟨m.M, 10, none⟩ (.slice xa (C.length + 1) xc)
  have hnM : ∀ k, (Value.slice xa (C.length + 1) xc).ownBlock = some k → k ≠ m.M := fun k hk e => own_ne_cells HO4.out HM4.out (by decide) (by rw [hk, e])
  refine ⟨rfl, .slice xa (C.length + 1) xc, ⟨?_, ?_, ?_, ?_, ?_, ?_, HA0.out.sok, HA0.out.slen, HA0.out.lm⟩, ?_, ?_⟩
  · exact below_then (below_then HAa.out.below HT4.out HAa.out.below.size (fun i e => (own_is HOWN.out e).1)) hsc (Nat.le_trans HAa.out.below.size HT4.out.size) (fun i e => by rw [e]; exact HA0.out.lm)
  · rw [heap_setCell_same _ _ _ _ _ _ HM4.out]
    rfl
  · have h1 := own_turn HO4.out hsc (fun k hk e => hnM k hk e)
    rw [List.flatMap_append, List.length_append, List.length_singleton]
    simpa using h1
  · intro d hd
    rcases List.mem_append.1 hd with hd | hd
    · exact HA0.out.ok d hd
    · rw [List.mem_singleton] at hd; subst hd; exact HC.out
  · exact HR4.out.at (hsc.block _ HR4.out.lt (fun e => MkS.regs_ne HR4.out HM4.out e))
  · exact own_turn HS4.out hsc (fun k hk e => own_ne_cells HS4.out HM4.out (by decide) (by rw [hk]; exact congrArg some e))
  · have h1 : Turned (fun k => k = m.M ∨ kv.ownBlock = some k) w W := Turned.of_below HB0.out
    rw [HKV.out]
    exact ((h1.mono fun i h => by rw [← HKV.out]; exact h).trans (((Turned.of_below HBn.out).trans (HT4.out.mono fun i h => .inr h)).trans (hsc.mono fun i h => .inl h)))
  · intro k hk
    rw [HKV.out]
    rcases HBK.out with e | e
    · exact .inl (e.symm.trans hk)
    · have h1 : some k = some wa.heap.size := hk.symm.trans e
      have h2 : k = wa.heap.size := Option.some.inj h1
      have := HWX.out
      exact .inr (by have := HBn.out.size; have := HB0.out.size; omega)
/-- A maker and the memory in which no more than the program, the registers and the sites count. -/
structure MkS.Rd (m : MkS) (w : World) : Prop where
  kv : ∃ kv C, m.At kv C w
theorem trim_any (m : MkS) (kv : Value) (C : List CodeD) (v : Int) (w : World) (h : m.At kv C w) (h1 : 1 ≤ m.E.p.width) (h2 : m.E.p.width ≤ 64) (hv : InU64 v) :
    Calls Tryd.prog 63 #[.pointer (some ⟨m.M, 0, none⟩), .int .u64 v] w fun e w' => e = .returned (.int .u64 (trimW m.E.p.width v)) ∧ w = w' := by
  obtain ⟨n, hn⟩ : ∃ n : Nat, m.E.p.width = n := ⟨m.E.p.width.toNat, by omega⟩
  have c0 := h.c0
  rw [hn] at c0 h1 h2
  have HV : Hid (trimW m.E.p.width v = trimW n v) := by show _ = _; rw [hn]
  rw [HV.out]
  clear HV hn h
  by_cases h64 : n = 64
  · subst h64
    have HV : Hid (trimW ((64 : Nat) : Int) v = v) := rfl
    rw [HV.out]
    go_enter Tryd.func63, Tryd.ntmps63
    go_wp2_with fail
    go_ret
    exact ⟨rfl, rfl⟩
  · have hb : ((n : Int) == 64) = false := by rw [beq_eq_false_iff_ne]; omega
    have HA := and_mask n (by omega) (by omega) v hv
    have HM := mask_is n (by omega) (by omega)
    have HV : Hid (trimW (n : Int) v = v % 2 ^ n) := by
      show _ = _
      unfold trimW
      rw [if_neg (by omega)]; rfl
    rw [HV.out]
    have hp := pow_lt n (by omega)
    have h0 : (0 : Int) < 2 ^ n := Int.pow_pos (by decide)
    have hw : IntKind.u64.wrap (2 ^ n) = (2 : Int) ^ n := by
      rw [IntKind.wrap_u64]; exact Int.emod_eq_of_lt (by omega) (by omega)
    have hw2 : IntKind.u64.wrap ((2 : Int) ^ n - 1) = 2 ^ n - 1 := by
      rw [IntKind.wrap_u64]; exact Int.emod_eq_of_lt (by omega) (by omega)
    have HAA := Lib.hid HA
    clear HV hv h64 HM HA
    go_enter Tryd.func63, Tryd.ntmps63
    go_wp2_with fail
    go_ret
    exact ⟨by rw [← HAA.out]; rfl, rfl⟩
theorem idxS_at {s : ByteArray} {l : List ByteArray} {k : Nat} {x : ByteArray} (h : l[k]? = some x) : idxS s (l.drop k) k = if s.toList == x.toList then (k : Int) else idxS s (l.drop (k + 1)) (k + 1) := idxS_step s x l k h
theorem toList_comm (a b : ByteArray) : (a.toList == b.toList) = (b.toList == a.toList) := by rw [Bool.eq_iff_iff]; simp; exact eq_comm
set_option maxRecDepth 100000 in
theorem arrIs (x : ArrD) (sb : Nat) (s : ByteArray) (w : World) (hc : w.cell? ⟨sb, 0, none⟩ = some (.string s)) :
    Calls Tryd.prog 94 #[.agg #[.string x.name, .int .i64 x.size], .pointer (some ⟨sb, 0, none⟩)] w fun e w' => e = .returned (.bool (s.toList == x.name.toList)) ∧ Below w.heap.size w w' := by
  have HB := Lib.hid ((Below.refl w.heap.size w).alloc (Nat.le_refl _) (.cells #[.string x.name, .int .i64 x.size] 55))
  have HC := Lib.hid (heap_alloc_new w (.cells #[.string x.name, .int .i64 x.size] 55))
  have HS := Lib.hid hc
  clear hc
  have HV : Hid ((s.toList == x.name.toList) = (x.name.toList == s.toList)) := toList_comm _ _
  go_enter Tryd.func94, Tryd.ntmps94
  go_upto_region 1 with fail
  generalize w.alloc (.cells #[.string x.name, .int .i64 x.size] 55) = W at *
  have c0 := row_of HC.out 0 (.string x.name) rfl
  have c1 := cell_keep HB.out HS.out
  go_wp2_with fail
  go_ret
  exact ⟨by rw [HV.out]; rfl, HB.out⟩
set_option maxRecDepth 100000 in
set_option maxHeartbeats 800000 in
theorem arrIndex (v : Value) (l : List ArrD) (s : ByteArray) (sb : Nat) (w : World) (h : RdArrs none w v l) (hc : w.cell? ⟨sb, 0, none⟩ = some (.string s)) :
    Calls Tryd.prog 93 #[v, .func (.func 94) #[] #[.pointer (some ⟨sb, 0, none⟩)]] w fun e w' => e = .returned (.int .i64 (idxS s (aNames l) 0)) ∧ Below w.heap.size w w' := by
  obtain ⟨a, cp, rfl, ⟨hl, _⟩, hr⟩ := id h
  have HR := Lib.hid hr
  have HS := Lib.hid hc
  have hal : (aNames l).length = l.length := by unfold aNames; simp
  clear h hc hr
  go_enter Tryd.func93, Tryd.ntmps93
  go_wp2
  go_loopw [5, 8] (fun _ i wr => ∃ k : Nat, k ≤ l.length ∧ i = .int .i64 k ∧ Hid (idxS s (aNames l) 0 = idxS s ((aNames l).drop k) k) ∧ Below w.heap.size w wr) (fun _ i _ => l.length - (intOf i).toNat)
  case atStart => exact ⟨0, Nat.zero_le _, rfl, rfl, Below.refl _ _⟩
  case round =>
    obtain ⟨k, hk, rfl, HQ, hb⟩ := hrel
    obtain ⟨w1, rfl⟩ : ∃ x : World, x = wr := ⟨_, rfl⟩
    have HB := Lib.hid hb
    clear hb
    by_cases hlt : k < l.length
    · have hlt1 : (k : Int) < l.length := by omega
      obtain ⟨x, hx⟩ : ∃ x, l[k]? = some x := ⟨_, List.getElem?_eq_getElem hlt⟩
      obtain ⟨b, o, rfl, _, c0, c1, _⟩ := HR.out k x hx
      have d0 := cell_keepB HB.out c0 (block_lt_of_cell c0)
      have d1 := cell_keepB HB.out c1 (block_lt_of_cell c1)
      have hs := idxS_at (s := s) (l := aNames l) (k := k) (x := x.name) (by unfold aNames; rw [List.getElem?_map, hx]; rfl)
      have HI := Lib.hid (arrIs x sb s w1 (cell_keep HB.out HS.out))
      clear hx c0 c1 hal
      cases he : (s.toList == x.name.toList)
      · rw [he, if_neg (by simp)] at hs
        rw [he] at HI
        have HN := Lib.hid (HQ.out.trans hs)
        clear hs he
        go_wp2_with (go_at_call 94; refine HI.out.mono ?_; rintro e w' ⟨rfl, hz⟩; have B1 := Lib.hid (bcomp HB.out hz); clear hz)
        go_roundw
        case rel => exact ⟨k + 1, by omega, by go_num, HN, B1.out⟩
        case measure => simp [intOf]; omega
      · rw [he, if_pos rfl] at hs
        rw [he] at HI
        have HN := Lib.hid (HQ.out.trans hs)
        clear hs he
        go_wp2_with (go_at_call 94; refine HI.out.mono ?_; rintro e w' ⟨rfl, hz⟩; have B1 := Lib.hid (bcomp HB.out hz); clear hz)
        go_ret
        exact ⟨by rw [HN.out]; rfl, B1.out⟩
    · obtain rfl : k = l.length := by omega
      have HN : Hid (idxS s (aNames l) 0 = -1) := by
        show _ = _
        rw [HQ.out, ← hal, List.drop_length]; rfl
      have hlt1 : ¬ (l.length : Int) < l.length := by omega
      clear hal
      go_wp2
      go_ret
      exact ⟨by rw [HN.out]; rfl, HB.out⟩
set_option maxRecDepth 100000 in
theorem array_any (m : MkS) (H : m.Ok) (kv : Value) (C : List CodeD) (s : ByteArray) (w : World) (h : m.At kv C w) :
    Calls Tryd.prog 65 #[.pointer (some ⟨m.M, 0, none⟩), .string s] w fun e w' => e = .returned (.int .i64 (idxS s (aNames m.E.p.arrays) 0)) ∧ Below w.heap.size w w' := by
  have hb0 := (Below.refl w.heap.size w).alloc (Nat.le_refl _) (.cells #[.string s] 9)
  have hg0 := heap_alloc_new w (.cells #[.string s] 9)
  have h0 := h.keep hb0
  have HB := Lib.hid hb0
  have hmf : ∀ (fn : Fn) (first cap : Array Value) (w : World), (Instr.makeFunc fn first cap).run Tryd.prog w = .ok (.func fn first cap) w := fun _ _ _ _ => rfl
  clear h hb0
  go_enter Tryd.func65, Tryd.ntmps65
  go_upto_region 1 with fail
  generalize w.alloc (.cells #[.string s] 9) = W at *
  obtain ⟨x, hx⟩ : ∃ x, w.heap.size = x := ⟨_, rfl⟩
  have HX := Lib.hid hx
  rw [hx] at hg0
  rw [hx]
  have HI := Lib.hid (arrIndex _ m.E.p.arrays s x W (h0.prog H).2.1 (row_of hg0 0 _ rfl))
  have c2 := h0.c2
  clear hx hg0 h0
  go_wp2_with (go_at_call 93; refine HI.out.mono ?_; rintro e w' ⟨rfl, hz⟩; have B1 := Lib.hid hz; clear hz)
  go_ret
  exact ⟨rfl, bcomp HB.out B1.out⟩
theorem ext_look {W : World} {b : Nat} {R : List (Int × ByteArray)} (h : RegsIs W b R) (hd : R.Nodup) (f : Int) (s : ByteArray) (hf : InI64 f) (hs : s.size ≤ maxLen) (n : Int) (hn : ((regN R f s : Nat) : Int) = n) (x : World) :
    (Instr.lookup 75 (.map (some b)) (plcV f s) false).run Tryd.prog (ext W x) = .ok (.int .i64 n) (ext W x) := by
  rw [← hn]; exact RegsIs.look (MapG.keep h (ext_below W x)) hd f s hf hs
set_option maxRecDepth 100000 in
set_option maxHeartbeats 1600000 in
theorem ref_any (m : MkS) (H : m.Ok) (kv : Value) (C : List CodeD) (f : Int) (a : ArgD) (mb fb : Nat) (w : World) (h : m.At kv C w) (hmb : w.heap[mb]? = some (.cells #[.pointer (some ⟨m.M, 0, none⟩)] 74 (0, 0)))
    (hfb : w.heap[fb]? = some (.cells #[.int .i64 f] 3 (0, 0))) (hf : InI64 f) (ha : InU64 a.num ∧ a.name.size ≤ maxLen) :
    Calls Tryd.prog 62 #[.agg #[.string a.name, .int .u64 a.num], .pointer (some ⟨mb, 0, none⟩), .pointer (some ⟨fb, 0, none⟩)] w fun e w' => e = .returned (refA (m.E.ref f a)) ∧ Below w.heap.size w w' := by
  have hx2 := heap2_of (w := w) (A := .cells #[.string a.name, .int .u64 a.num] 65) (B := .cells #[.int .i64 0, .int .u64 0] 45) (Below.refl _ _)
  obtain ⟨hx0, hx1, hb0⟩ := hx2
  have h0 := h.keep hb0
  have c0 := row_of ((hb0.block mb (Array.getElem?_eq_some_iff.1 hmb).1).trans hmb) 0 _ rfl
  have c1 := row_of ((hb0.block fb (Array.getElem?_eq_some_iff.1 hfb).1).trans hfb) 0 (.int .i64 f) rfl
  have HB := Lib.hid hb0
  have HX1 := Lib.hid hx1
  have HA0 := Lib.hid h0
  have c2 := row_of hx0 0 (.string a.name) rfl
  have c3 := row_of hx0 1 (.int .u64 a.num) rfl
  have c4 := row_of hx1 0 (.int .i64 0) rfl
  have c5 := row_of hx1 1 (.int .u64 0) rfl
  have c6 := h0.c11
  have HT := Lib.hid (fun (z : World) (k : m.At kv C z) => trim_any m kv C a.num z k H.wd.1 H.wd.2 ha.1)
  have HR := Lib.hid h0.regs
  have HD := Lib.hid H.nodup
  have HF := Lib.hid hf
  have HS := Lib.hid ha.2
  clear h hmb hfb hx0 hx1 hb0 h0 ha hf
  cases hemp : a.name.toList.isEmpty
  · have HV : Hid (m.E.ref f a = ⟨(regN m.E.R f a.name : Nat), 0⟩) := by
      show _ = _
      unfold EnvF.ref refF
      rw [hemp]; rfl
    rw [HV.out]
    obtain ⟨n, hn⟩ : ∃ n : Int, ((regN m.E.R f a.name : Nat) : Int) = n := ⟨_, rfl⟩
    rw [hn]
    have HN := Lib.hid hn
    clear hn
    go_enter Tryd.func62, Tryd.ntmps62
    go_upto_region 1 with fail
    generalize (w.alloc (.cells #[.string a.name, .int .u64 a.num] 65)).alloc (.cells #[.int .i64 0, .int .u64 0] 45) = W at *
    go_upto_region 3 with fail
    clear c3 c4 c5 HT HV
    have hlook := ext_look HR.out HD.out f a.name HF.out HS.out n HN.out
    have e0 := ext_cell c0
    have e1 := ext_cell c1
    have e2 := ext_cell c2
    have e6 := ext_cell c6
    clear c0 c1 c2 c6
    (refine wp_region_calm_tail 10 (by kernel_rfl) (by kernel_rfl) ?_; simp only [List.take_succ_cons, List.take_zero, List.drop_succ_cons, List.drop_zero]; (repeat (go_big_quiet_step (fail))); refine wpQuiet_nil ?_; intro wc hwc)
    clear e0 e1 e2 e6 hlook
    have hX := (hwc.block _ (Array.getElem?_eq_some_iff.1 HX1.out).1).trans HX1.out
    go_wp2_with (refine wpList_store_row rfl 45 (.tmp 4) (.tmp 22) rfl (w.heap.size + 1) #[.int .i64 n, .int .u64 0] rfl rfl 45 #[.int .i64 0, .int .u64 0] ?hs0 (by as_aux_lemma => kernel_rfl) (by as_aux_lemma => kernel_rfl) (by as_aux_lemma => kernel_rfl) ?_; exact hX)
    refine bodyPost_ret (v := .agg #[.int .i64 n, .int .u64 0]) (results_cell_row (P := Tryd.prog) (fn := Tryd.f62) rfl _ _ (w.heap.size + 1) 45 _ (0,0) _ rfl (setRow_heap _ _ _ _ _ _ hX) Tryd.underlying45 rfl (by kernel_rfl)) rfl ⟨rfl, below_row (bcomp HB.out hwc) (by omega) _⟩
  · have HV : Hid (m.E.ref f a = ⟨-1, trimW m.E.p.width a.num⟩) := by
      show _ = _
      unfold EnvF.ref refF
      rw [hemp]; rfl
    rw [HV.out]
    obtain ⟨n, hn⟩ : ∃ n : Int, trimW m.E.p.width a.num = n := ⟨_, rfl⟩
    rw [hn] at HT ⊢
    clear hn HV
    go_enter Tryd.func62, Tryd.ntmps62
    go_upto_region 1 with fail
    generalize (w.alloc (.cells #[.string a.name, .int .u64 a.num] 65)).alloc (.cells #[.int .i64 0, .int .u64 0] 45) = W at *
    have hX := HX1.out
    go_wp2_with (first | (go_at_call 63; refine (HT.out _ HA0.out).mono ?_; rintro e z ⟨rfl, rfl⟩) | (refine wpList_store_row rfl 45 (.tmp 4) (.tmp 12) rfl (w.heap.size + 1) #[.int .i64 (-1), .int .u64 n] rfl rfl 45 #[.int .i64 0, .int .u64 0] ?hs1 (by as_aux_lemma => kernel_rfl) (by as_aux_lemma => kernel_rfl) (by as_aux_lemma => kernel_rfl) ?_; exact hX))
    refine bodyPost_ret (v := .agg #[.int .i64 (-1), .int .u64 n]) (results_cell_row (P := Tryd.prog) (fn := Tryd.f62) rfl _ _ (w.heap.size + 1) 45 _ (0,0) _ rfl (setRow_heap _ _ _ _ _ _ hX) Tryd.underlying45 rfl (by kernel_rfl)) rfl ⟨rfl, below_row HB.out (by omega) _⟩
end Go.Proofs.YtgcfdbhpophnjaaDoor
