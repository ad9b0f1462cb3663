/- Plain lemmas on runs: all values are words of the width, events are of channels and sites. No program. Plain lemmas on runs: inputs that are padded by empty lists are as good. No program. Plain lemmas on runs: inputs that are the same as words, as far as they are read, give the same run. No program. Plain lemmas on runs: inputs cut where reading ends, moved by multiples of 2^W and followed by anything, give the same run. No program. -/
import Derived.Test.YtkjkpddajjmloaaDoorMMq
set_option linter.unnecessarySimpa false
set_option linter.unusedVariables false
set_option linter.unusedSimpArgs false
namespace Go.Proofs.YtkjkpddajjmloaaDoor
open Go.ChangeShapes Go.WideShapes Go.ChangeAt Go.RowKit
def Wd (f : FlatD) (x : Int) : Prop := 0 ≤ x ∧ x < 2 ^ f.width.toNat
/-- A run whose values are words of the width. -/
structure SmallM (f : FlatD) (m : MachD) : Prop where
  rg : ∀ x ∈ m.regs, Wd f x
  ar : ∀ l ∈ m.arrs, ∀ x ∈ l, Wd f x
  os : ∀ e ∈ m.t.outs, Wd f e.val ∧ 0 ≤ e.n ∧ e.n < f.chans.length
  rs : ∀ e ∈ m.t.rels, Wd f e.val ∧ 0 ≤ e.n ∧ e.n < f.sites.length
theorem wd_pos (f : FlatD) : (0 : Int) < 2 ^ f.width.toNat := Int.pow_pos (by decide)
theorem wd_zero (f : FlatD) : Wd f 0 := ⟨Int.le_refl _, wd_pos f⟩
theorem wd_mod (f : FlatD) (x : Int) : Wd f (x % 2 ^ f.width.toNat) := ⟨Int.emod_nonneg _ (Int.ne_of_gt (wd_pos f)), Int.emod_lt_of_pos _ (wd_pos f)⟩
theorem valM_small {f : FlatD} {m : MachD} {r : RefD} (g : ∀ x ∈ m.regs, Wd f x) (h : refOk f r true = true) (h2 : InU64 r.num) : Wd f (valM m r) := by
  unfold refOk at h
  rw [if_pos rfl] at h
  by_cases hr : r.reg = -1
  · rw [if_pos (by simp [hr])] at h
    have e : valM m r = r.num := by unfold valM; rw [if_pos (by omega)]
    rw [e]
    exact ⟨h2.1, by simpa using h⟩
  · rw [if_neg (by simpa using hr)] at h
    simp only [Bool.and_eq_true, decide_eq_true_eq] at h
    unfold valM
    rw [if_neg (by omega), List.getD_eq_getElem?_getD]
    cases hx : m.regs[r.reg.toNat]? with
    | none => exact wd_zero f
    | some x => exact g x (List.mem_of_getElem? hx)
theorem SmallM.setR {f : FlatD} {m : MachD} (g : SmallM f m) (d : Int) {v : Int} (hv : Wd f v) : SmallM f (setR m d v) :=
  ⟨fun x hx => by rcases List.mem_or_eq_of_mem_set hx with h | h; exact g.rg x h; exact h ▸ hv, g.ar, g.os, g.rs⟩
theorem SmallM.like {f : FlatD} {m m' : MachD} (g : SmallM f m) (h1 : m'.regs = m.regs) (h2 : m'.arrs = m.arrs) (h3 : m'.t.outs = m.t.outs) (h4 : m'.t.rels = m.t.rels) : SmallM f m' :=
  ⟨by rw [h1]; exact g.rg, by rw [h2]; exact g.ar, by rw [h3]; exact g.os, by rw [h4]; exact g.rs⟩
theorem SmallM.putA {f : FlatD} {m : MachD} (g : SmallM f m) (n i : Nat) {v : Int} (hv : Wd f v) : SmallM f (putA m n i v) := by
  refine ⟨g.rg, ?_, g.os, g.rs⟩
  intro l hl x hx
  obtain ⟨j, hj⟩ := List.getElem?_of_mem hl
  show Wd f x
  simp only [Go.Proofs.YtkjkpddajjmloaaDoor.putA, List.getElem?_modify] at hj
  cases hm : m.arrs[j]? with
  | none => rw [hm] at hj; simp at hj
  | some l0 =>
    rw [hm] at hj
    by_cases e : n = j
    · simp [e] at hj
      subst hj
      rcases List.mem_or_eq_of_mem_set hx with h | h
      · exact g.ar l0 (List.mem_of_getElem? hm) x h
      · exact h ▸ hv
    · simp [e] at hj
      subst hj
      exact g.ar l0 (List.mem_of_getElem? hm) x hx
theorem elem_small {f : FlatD} {m : MachD} (g : SmallM f m) {c : CodeD} {x : Int} (h : elemM m c = some x) : Wd f x := by
  unfold elemM at h
  cases hl : m.arrs[c.n.toNat]? with
  | none => rw [hl] at h; cases h
  | some l => rw [hl] at h; exact g.ar l (List.mem_of_getElem? hl) x (List.mem_of_getElem? h)
theorem do_small {f : FlatD} {ins : List (List Int)} {m : MachD} {c : CodeD} (g : SmallM f m) (hc : CodeP f c) (hi : CodeIn c) (k : Nat) (hk : c.kind = k) : SmallM f (doM f ins c m k) := by
  have ha : aK c.kind = true → Wd f (valM m c.a) := fun h => valM_small g.rg (h ▸ hc.a) hi.2.2.2.2.2.1
  have hb : bK c.kind c.op = true → Wd f (valM m c.b) := fun h => valM_small g.rg (h ▸ hc.b) hi.2.2.2.2.2.2.2
  have hn := hc.n1
  have hn0 := hc.n0
  rw [hk] at ha hb hn
  match k with
  | 0 => exact g.setR _ (ha rfl)
  | 1 => exact g.setR _ (wd_mod f _)
  | 2 =>
    simp only [doM]
    split
    · rename_i x hx; exact g.setR _ (elem_small g hx)
    · exact g.like rfl rfl rfl rfl
  | 3 =>
    simp only [doM]
    split
    · exact g.putA _ _ (hb rfl)
    · exact g.like rfl rfl rfl rfl
  | 4 =>
    simp only [doM]
    refine SmallM.setR (m := { m with t := { m.t with reads := m.t.reads.set c.n.toNat (m.t.reads.getD c.n.toNat 0 + 1) } }) (g.like rfl rfl rfl rfl) _ ?_
    split
    · exact wd_mod f _
    · exact wd_zero f
  | 5 =>
    refine ⟨g.rg, g.ar, fun e he => ?_, g.rs⟩
    simp only [doM, List.mem_append, List.mem_singleton] at he
    rcases he with h | rfl
    · exact g.os e h
    · exact ⟨ha rfl, hn0, hn⟩
  | 6 =>
    refine SmallM.setR (m := { m with t := { m.t with rels := m.t.rels ++ [⟨c.n, valM m c.a⟩] } }) ⟨g.rg, g.ar, g.os, fun e he => ?_⟩ _ (ha rfl)
    simp only [List.mem_append, List.mem_singleton] at he
    rcases he with h | rfl
    · exact g.rs e h
    · exact ⟨ha rfl, hn0, hn⟩
  | 7 => exact g.like rfl rfl rfl rfl
  | 8 => exact g.like rfl rfl rfl rfl
  | 9 => exact g.like rfl rfl rfl rfl
  | k + 10 => exact g
theorem step_small {f : FlatD} {ins : List (List Int)} {m : MachD} (hh : HeadP f) (hci : ∀ c ∈ f.code, CodeIn c) (g : SmallM f m) : SmallM f (stepM f ins m) := by
  unfold stepM
  split
  · split
    · rename_i c hc
      have hm := List.mem_of_getElem? hc
      have hi := hci c hm
      exact do_small (m := tickM m) (g.like rfl rfl rfl rfl) (codeP (hh.codes c hm)) hi c.kind.toNat (by have := hi.1.1; omega)
    · exact g
  · exact g
theorem small_new (f : FlatD) : SmallM f (newM f) := by
  refine ⟨fun x hx => ?_, fun l hl x hx => ?_, fun e he => by simp [newM] at he, fun e he => by simp [newM] at he⟩
  · simp only [newM] at hx; rw [(List.mem_replicate.1 hx).2]; exact wd_zero f
  · simp only [newM, List.mem_map] at hl
    obtain ⟨n, _, rfl⟩ := hl
    rw [(List.mem_replicate.1 hx).2]; exact wd_zero f
theorem small_run {f : FlatD} {ins : List (List Int)} (hh : HeadP f) (hci : ∀ c ∈ f.code, CodeIn c) : ∀ k, SmallM f (iterM f ins k (newM f))
  | 0 => small_new f
  | k + 1 => by rw [iterM_succ]; exact step_small hh hci (small_run hh hci k)
theorem reg_small {f : FlatD} {m : MachD} (g : SmallM f m) (i : Int) : Wd f (regM m i) := by
  unfold regM
  split
  · exact wd_zero f
  · rw [List.getD_eq_getElem?_getD]
    cases hx : m.regs[i.toNat]? with
    | none => exact wd_zero f
    | some x => exact g.rg x (List.mem_of_getElem? hx)
open Go.ChangeShapes Go.WideShapes Go.ChangeAt Go.RowKit
theorem inAt_pad (L : List (List Int)) (k n q : Nat) : inAt (L ++ List.replicate k []) n q = inAt L n q := by
  unfold inAt
  rw [List.getElem?_append]
  split
  · rfl
  · rename_i h
    rw [List.getElem?_eq_none (l := L) (by omega), List.getElem?_replicate]
    split <;> rfl
theorem doM_ins {f : FlatD} {a b : List (List Int)} (h : ∀ n q, inAt a n q = inAt b n q) (c : CodeD) (m : MachD) (k : Nat) : doM f a c m k = doM f b c m k := by
  match k with
  | 4 => simp only [doM, h]
  | 0 | 1 | 2 | 3 | 5 | 6 | 7 | 8 | 9 => rfl
  | k + 10 => rfl
theorem stepM_ins {f : FlatD} {a b : List (List Int)} (h : ∀ n q, inAt a n q = inAt b n q) (m : MachD) : stepM f a m = stepM f b m := by
  unfold stepM
  split
  · split
    · exact doM_ins h _ _ _
    · rfl
  · rfl
theorem iterM_ins {f : FlatD} {a b : List (List Int)} (h : ∀ n q, inAt a n q = inAt b n q) : ∀ (k : Nat) (m : MachD), iterM f a k m = iterM f b k m
  | 0, _ => rfl
  | k + 1, m => by rw [iterM_succ, iterM_succ, iterM_ins h k m, stepM_ins h]
/-- The reference's inputs are not padded. -/
theorem iterM_pad (f : FlatD) (L : List (List Int)) (k : Nat) (m : MachD) : iterM f L k m = iterM f (insM f L) k m := iterM_ins (fun n q => (inAt_pad L _ n q).symm) k m
open Go.ChangeShapes Go.WideShapes Go.ChangeAt Go.RowKit
/-- The word that a channel gives as its q-th input. -/
def wordAt (f : FlatD) (ins : List (List Int)) (n q : Nat) : Int := match inAt ins n q with | some v => v % 2 ^ f.width.toNat | none => 0
def readsAt (m : MachD) (n : Nat) : Int := m.t.reads.getD n 0
/-- How a step reads. -/
theorem doM_read {f : FlatD} {a b : List (List Int)} (c : CodeD) (m : MachD) (k : Nat) (h : k = 4 → wordAt f a c.n.toNat (readsAt m c.n.toNat).toNat = wordAt f b c.n.toNat (readsAt m c.n.toNat).toNat) : doM f a c m k = doM f b c m k := by
  match k with
  | 4 =>
    have h4 := h rfl
    unfold wordAt readsAt at h4
    exact congrArg (setR { m with t := { m.t with reads := m.t.reads.set c.n.toNat (m.t.reads.getD c.n.toNat 0 + 1) } } c.dst) h4
  | 0 | 1 | 2 | 3 | 5 | 6 | 7 | 8 | 9 => rfl
  | k + 10 => rfl
theorem doM_reads (f : FlatD) (a : List (List Int)) (c : CodeD) (m : MachD) (k : Nat) : (doM f a c m k).t.reads = if k = 4 then m.t.reads.set c.n.toNat (m.t.reads.getD c.n.toNat 0 + 1) else m.t.reads := by
  match k with
  | 4 => rfl
  | 2 => simp only [doM]; split <;> rfl
  | 3 => simp only [doM]; split <;> rfl
  | 0 | 1 | 5 | 6 | 7 | 8 | 9 => rfl
  | k + 10 => simp only [doM]; rw [if_neg (by omega)]
theorem set_getD (l : List Int) (i n : Nat) (x : Int) (hx : l.getD i 0 ≤ x) : l.getD n 0 ≤ (l.set i x).getD n 0 := by
  simp only [List.getD_eq_getElem?_getD, List.getElem?_set] at hx ⊢
  split
  · rename_i e
    subst e
    split
    · simpa using hx
    · rename_i h
      rw [List.getElem?_eq_none (by omega)]
      exact Int.le_refl _
  · exact Int.le_refl _
theorem reads_step (f : FlatD) (a : List (List Int)) (m : MachD) (n : Nat) : readsAt m n ≤ readsAt (stepM f a m) n := by
  unfold readsAt stepM
  split
  · split
    · rw [doM_reads]
      split
      · exact set_getD _ _ _ _ (by simp only [tickM]; omega)
      · exact Int.le_refl _
    · exact Int.le_refl _
  · exact Int.le_refl _
theorem reads_iter (f : FlatD) (a : List (List Int)) (n : Nat) : ∀ (k : Nat) (m : MachD), readsAt m n ≤ readsAt (iterM f a k m) n
  | 0, m => Int.le_refl _
  | k + 1, m => Int.le_trans (reads_step f a m n) (reads_iter f a n k (stepM f a m))
/-- One step. -/
theorem stepM_words {f : FlatD} {a b : List (List Int)} (m : MachD) (hn : ∀ c ∈ f.code, c.kind = 4 → 0 ≤ c.n ∧ c.n.toNat < m.t.reads.length) (h0 : ∀ n, 0 ≤ readsAt m n)
    (h : ∀ n q : Nat, (q : Int) < readsAt (stepM f a m) n → wordAt f a n q = wordAt f b n q) : stepM f a m = stepM f b m := by
  by_cases hs : m.t.status = 2
  · have hu : ∀ x, stepM f x m = match f.code[m.pc.toNat]? with | some c => doM f x c (tickM m) c.kind.toNat | none => m := fun x => if_pos hs
    rw [hu a] at h
    rw [hu a, hu b]
    cases hc : f.code[m.pc.toNat]? with
    | none => rfl
    | some c =>
      rw [hc] at h
      simp only at h ⊢
      refine doM_read c (tickM m) _ fun hk => h _ _ ?_
      have hk' : c.kind = 4 := by omega
      obtain ⟨h1, h2⟩ := hn c (List.mem_of_getElem? hc) hk'
      have h3 := h0 c.n.toNat
      unfold readsAt at h3 ⊢
      rw [doM_reads, if_pos hk]
      simp only [tickM]
      rw [List.getD_eq_getElem?_getD (l := m.t.reads.set _ _), List.getElem?_set_self (by exact h2)]
      simp only [Option.getD_some]
      omega
  · unfold stepM; rw [if_neg hs, if_neg hs]
theorem reads_len (f : FlatD) (a : List (List Int)) (m : MachD) : (stepM f a m).t.reads.length = m.t.reads.length := by
  unfold stepM
  split
  · split
    · rw [doM_reads]; split <;> simp [tickM]
    · rfl
  · rfl
/-- All steps: only the inputs that the run reads count, as words. -/
theorem iterM_words {f : FlatD} {a b : List (List Int)} : ∀ (k : Nat) (m : MachD) (_ : ∀ c ∈ f.code, c.kind = 4 → 0 ≤ c.n ∧ c.n.toNat < m.t.reads.length) (_ : ∀ n, 0 ≤ readsAt m n)
    (_ : ∀ n q : Nat, (q : Int) < readsAt (iterM f a k m) n → wordAt f a n q = wordAt f b n q), iterM f a k m = iterM f b k m
  | 0, _, _, _, _ => rfl
  | k + 1, m, hn, h0, h => by
    have h1 : stepM f a m = stepM f b m := stepM_words m hn h0 fun n q hq => h n q (Int.lt_of_lt_of_le hq (reads_iter f a n k _))
    show iterM f a k (stepM f a m) = iterM f b k (stepM f b m)
    rw [← h1]
    exact iterM_words k _ (fun c hc hk => by rw [reads_len]; exact hn c hc hk) (fun n => Int.le_trans (h0 n) (reads_step f a m n)) h
open Go.ChangeShapes Go.WideShapes Go.ChangeAt Go.RowKit
/-- An input that is moved by a multiple of 2^W. -/
def addI (f : FlatD) (add : List Int) (i k : Nat) (x : Int) : Int := IntKind.u64.wrap (x + IntKind.u64.wrap (add.getD ((i + k) % add.length) 0 * 2 ^ f.width.toNat))
def Moves (f : FlatD) (add : List Int) : Prop := 0 < add.length ∧ f.width < 64
instance (f : FlatD) (add : List Int) : Decidable (Moves f add) := by unfold Moves; infer_instance
def pertI (f : FlatD) (add : List Int) (i : Nat) (l : List Int) : List Int := if Moves f add then l.mapIdx (fun k x => addI f add i k x) else l
def finI (f : FlatD) (add : List Int) (r i : Nat) (l : List Int) : List Int := (pertI f add i l ++ List.replicate (r - l.length) 0).take r ++ add.take 5
def finsI (f : FlatD) (add : List Int) (r : Nat → Nat) (L : List (List Int)) : List (List Int) := L.mapIdx fun i l => finI f add (r i) i l
theorem pertI_len (f : FlatD) (add : List Int) (i : Nat) (l : List Int) : (pertI f add i l).length = l.length := by unfold pertI; split <;> simp
theorem addI_mod (f : FlatD) (add : List Int) (i k : Nat) (x : Int) (h1 : 1 ≤ f.width) (h : f.width ≤ 64) : addI f add i k x % 2 ^ f.width.toNat = x % 2 ^ f.width.toNat := by
  unfold addI
  rw [wrap_mod _ (by omega), Int.add_emod, wrap_mod _ (by omega), Int.mul_emod_left]
  simp
theorem pertI_at {f : FlatD} {add : List Int} {i q : Nat} {l : List Int} {x : Int} (h1 : 1 ≤ f.width) (h : f.width ≤ 64) (hq : l[q]? = some x) : ∃ y, (pertI f add i l)[q]? = some y ∧ y % 2 ^ f.width.toNat = x % 2 ^ f.width.toNat := by
  unfold pertI
  split
  · rw [List.getElem?_mapIdx, hq]; exact ⟨_, rfl, addI_mod f add i q x h1 h⟩
  · exact ⟨x, hq, rfl⟩
theorem fins_word {f : FlatD} {add : List Int} {r : Nat → Nat} {L : List (List Int)} (h1 : 1 ≤ f.width) (h : f.width ≤ 64) (n q : Nat) (hq : q < r n) : wordAt f L n q = wordAt f (finsI f add r L) n q := by
  unfold wordAt inAt finsI
  rw [List.getElem?_mapIdx]
  cases hl : L[n]? with
  | none => rfl
  | some l =>
    simp only [Option.map_some, Option.bind_some, finI]
    rw [List.getElem?_append_left (by simp [pertI_len]; omega), List.getElem?_take_of_lt hq]
    cases hx : l[q]? with
    | some x =>
      obtain ⟨y, hy, e⟩ := pertI_at (add := add) (i := n) h1 h hx
      rw [List.getElem?_append_left (by rw [pertI_len]; exact (List.getElem?_eq_some_iff.1 hx).1), hy]
      exact e.symm
    | none =>
      have hle : l.length ≤ q := List.getElem?_eq_none_iff.1 hx
      rw [List.getElem?_append_right (by rw [pertI_len]; exact hle), List.getElem?_replicate, if_pos (by rw [pertI_len]; omega)]
      simp
/-- How often each channel has been read. -/
def rdsI (t : TraceD) (n : Nat) : Nat := (t.reads.getD n 0).toNat
theorem inputs_law {f : FlatD} {add : List Int} {L : List (List Int)} (hh : HeadP f) (k : Nat) (r : Nat → Nat) (hr : ∀ n, readsAt (iterM f L k (newM f)) n ≤ r n) : iterM f (finsI f add r L) k (newM f) = iterM f L k (newM f) := by
  refine (iterM_words k _ (fun c hc hk => ?_) (fun n => ?_) (fun n q hq => fins_word hh.w1 hh.w2 n q (by have := hr n; omega))).symm
  · have hp := codeP (hh.codes c hc)
    have h1 := hp.n1
    rw [hk] at h1
    have : mostF f 4 = f.chans.length := rfl
    have h0 := hp.n0
    simp only [newM, List.length_replicate]
    exact ⟨h0, by omega⟩
  · unfold readsAt newM
    rw [List.getD_eq_getElem?_getD, List.getElem?_replicate]
    split <;> simp
theorem finsI_len (f : FlatD) (add : List Int) (r : Nat → Nat) (L : List (List Int)) : (finsI f add r L).length = L.length := by unfold finsI; simp
theorem insM_len {f : FlatD} {L : List (List Int)} (h : L.length ≤ f.chans.length) : (insM f L).length = f.chans.length := by simp only [insM, List.length_append, List.length_replicate]; omega
theorem insM_full {f : FlatD} {L : List (List Int)} (h : L.length = f.chans.length) : insM f L = L := by simp [insM, h]
/-- What the law asks of the second run. -/
theorem inputs_plain (S : FlatD) (M : List (List Int)) (add : List Int) (hok : flatOk S = true) (hle : M.length ≤ S.chans.length) (hci : ∀ c ∈ S.code, CodeIn c) (x : TraceD) (hx : runT S M 150 = x) :
    x.reads.length = S.chans.length ∧ (∀ n, n < S.chans.length → x.reads[n]? = some ((rdsI x n : Nat) : Int)) ∧ (∀ n, rdsI x n ≤ 150) ∧ runT S (finsI S add (rdsI x) (insM S M)) 150 = x := by
  have hh := headP hok
  have he : ∀ n : Nat, n ≤ S.chans.length → errRun S n 150 = 0 := fun n hn => by rw [errRun, if_neg (by omega), errNew, if_pos hok, if_neg (by omega)]
  have hlen := insM_len hle
  have hfl : (finsI S add (rdsI x) (insM S M)).length = S.chans.length := by rw [finsI_len, hlen]
  have ex : x = (iterM S (insM S M) 150 (newM S)).t := by
    rw [← hx, runT, if_pos (he _ hle)]; rfl
  have hg := going_run (ins := insM S M) hh hci 150
  have hrl : x.reads.length = S.chans.length := by rw [ex]; exact hg.good.reads
  have hrd : ∀ v ∈ x.reads, 0 ≤ v ∧ v ≤ 150 := fun v hv => by
    rw [ex] at hv
    have h1 := hg.good.rd v hv
    have h2 := hg.steps
    exact ⟨h1.1, by omega⟩
  have hat : ∀ n, n < S.chans.length → x.reads[n]? = some ((rdsI x n : Nat) : Int) := fun n hn => by
    have h1 := List.getElem?_eq_getElem (l := x.reads) (i := n) (by omega)
    have h2 := hrd _ (List.mem_of_getElem? h1)
    unfold rdsI
    rw [List.getD_eq_getElem?_getD, h1]
    simp only [Option.getD_some]
    congr 1
    omega
  have hb : ∀ n, rdsI x n ≤ 150 := fun n => by
    unfold rdsI
    rw [List.getD_eq_getElem?_getD]
    cases h1 : x.reads[n]? with
    | none => simp
    | some v => have h2 := hrd _ (List.mem_of_getElem? h1); simp; omega
  refine ⟨hrl, hat, hb, ?_⟩
  rw [runT, if_pos (he _ (by omega))]
  show (runM S _ 150).t = x
  rw [runM, insM_full hfl, inputs_law hh 150 (rdsI x) (fun n => ?_), ex]
  rw [ex]
  unfold readsAt rdsI
  exact Int.self_le_toNat _
/-- The lists so far: the first n are as they shall be. -/
def midI (A B : List (List Int)) (n : Nat) : List (List Int) := A.take n ++ B.drop n
theorem midI_at {A B : List (List Int)} (h : A.length = B.length) {n : Nat} (hn : n < B.length) : (midI A B n)[n]? = B[n]? := by
  unfold midI
  rw [List.getElem?_append_right (by simp; omega), List.length_take, Nat.min_eq_left (by omega), Nat.sub_self, List.getElem?_drop, Nat.add_zero]
theorem midI_len {A B : List (List Int)} (h : A.length = B.length) {n : Nat} (hn : n ≤ B.length) : (midI A B n).length = B.length := by
  unfold midI; simp; omega
theorem midI_set {A B : List (List Int)} (h : A.length = B.length) {n : Nat} {l : List Int} (hl : A[n]? = some l) : (midI A B n).set n l = midI A B (n + 1) := by
  have hn : n < A.length := (List.getElem?_eq_some_iff.1 hl).1
  have hlA : A[n] = l := by rw [List.getElem?_eq_getElem hn] at hl; exact Option.some.inj hl
  unfold midI
  rw [List.set_append_right _ _ (by simp; omega), List.length_take, Nat.min_eq_left (by omega), Nat.sub_self, List.take_add_one, hl]
  rw [List.drop_eq_getElem_cons (by omega : n < B.length), List.set_cons_zero, Option.toList_some, List.append_assoc, List.singleton_append]
theorem midI_end {A B : List (List Int)} (h : A.length = B.length) : midI A B B.length = A := by unfold midI; rw [List.take_of_length_le (by omega), List.drop_length, List.append_nil]
/-- One list so far: the first k of its inputs are moved. -/
def midL (A B : List Int) (k : Nat) : List Int := A.take k ++ B.drop k
theorem midL_zero (A B : List Int) : midL A B 0 = B := by simp [midL]
theorem midL_len {A B : List Int} (h : A.length = B.length) {k : Nat} (hk : k ≤ B.length) : (midL A B k).length = B.length := by unfold midL; simp; omega
theorem midL_at {A B : List Int} (h : A.length = B.length) {n : Nat} (hn : n < B.length) : (midL A B n)[n]? = B[n]? := by
  unfold midL
  rw [List.getElem?_append_right (by simp; omega), List.length_take, Nat.min_eq_left (by omega), Nat.sub_self, List.getElem?_drop, Nat.add_zero]
theorem midL_set {A B : List Int} (h : A.length = B.length) {n : Nat} {l : Int} (hl : A[n]? = some l) : (midL A B n).set n l = midL A B (n + 1) := by
  have hn : n < A.length := (List.getElem?_eq_some_iff.1 hl).1
  unfold midL
  rw [List.set_append_right _ _ (by simp; omega), List.length_take, Nat.min_eq_left (by omega), Nat.sub_self, List.take_add_one, hl]
  rw [List.drop_eq_getElem_cons (by omega : n < B.length), List.set_cons_zero, Option.toList_some, List.append_assoc, List.singleton_append]
theorem midL_end {A B : List Int} (h : A.length = B.length) : midL A B B.length = A := by unfold midL; rw [List.take_of_length_le (by omega), List.drop_length, List.append_nil]
theorem set_twice {α : Type} (l : List α) (n : Nat) (a b : α) : (l.set n a).set n b = l.set n b := by simp
theorem set_same {α : Type} {l : List α} {n : Nat} {a : α} (h : l[n]? = some a) : l.set n a = l := by
  obtain ⟨hn, rfl⟩ := List.getElem?_eq_some_iff.1 h
  simp
end Go.Proofs.YtkjkpddajjmloaaDoor
