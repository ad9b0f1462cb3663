/- Plain lemmas on runs: inputs cut where reading ends, moved by multiples of 2^W and followed by anything, give the same run. No program. -/
import Derived.Test.YtkjkpddajjmloaaDoorLMd
set_option linter.unusedVariables false
set_option linter.unusedSimpArgs false
set_option linter.unnecessarySimpa false
namespace Go.Proofs.YtkjkpddajjmloaaDoor
open Go.ChangeShapes Go.WideShapes Go.ChangeAt Go.RowKit
/-- An input that is moved by a multiple of 2^W. -/
def addI (f : FlatD) (add : List Int) (i k : Nat) (x : Int) : Int := IntKind.u64.wrap (x + IntKind.u64.wrap (add.getD ((i + k) % add.length) 0 * 2 ^ f.width.toNat))
def Moves (f : FlatD) (add : List Int) : Prop := 0 < add.length ∧ f.width < 64
instance (f : FlatD) (add : List Int) : Decidable (Moves f add) := by unfold Moves; infer_instance
def pertI (f : FlatD) (add : List Int) (i : Nat) (l : List Int) : List Int := if Moves f add then l.mapIdx (fun k x => addI f add i k x) else l
def finI (f : FlatD) (add : List Int) (r i : Nat) (l : List Int) : List Int := (pertI f add i l ++ List.replicate (r - l.length) 0).take r ++ add.take 5
def finsI (f : FlatD) (add : List Int) (r : Nat → Nat) (L : List (List Int)) : List (List Int) := L.mapIdx fun i l => finI f add (r i) i l
theorem pertI_len (f : FlatD) (add : List Int) (i : Nat) (l : List Int) : (pertI f add i l).length = l.length := by unfold pertI; split <;> simp
theorem addI_mod (f : FlatD) (add : List Int) (i k : Nat) (x : Int) (h1 : 1 ≤ f.width) (h : f.width ≤ 64) : addI f add i k x % 2 ^ f.width.toNat = x % 2 ^ f.width.toNat := by
  unfold addI
  rw [wrap_mod _ (by omega), Int.add_emod, wrap_mod _ (by omega), Int.mul_emod_left]
  simp
theorem pertI_at {f : FlatD} {add : List Int} {i q : Nat} {l : List Int} {x : Int} (h1 : 1 ≤ f.width) (h : f.width ≤ 64) (hq : l[q]? = some x) : ∃ y, (pertI f add i l)[q]? = some y ∧ y % 2 ^ f.width.toNat = x % 2 ^ f.width.toNat := by
  unfold pertI
  split
  · rw [List.getElem?_mapIdx, hq]; exact ⟨_, rfl, addI_mod f add i q x h1 h⟩
  · exact ⟨x, hq, rfl⟩
theorem fins_word {f : FlatD} {add : List Int} {r : Nat → Nat} {L : List (List Int)} (h1 : 1 ≤ f.width) (h : f.width ≤ 64) (n q : Nat) (hq : q < r n) : wordAt f L n q = wordAt f (finsI f add r L) n q := by
  unfold wordAt inAt finsI
  rw [List.getElem?_mapIdx]
  cases hl : L[n]? with
  | none => rfl
  | some l =>
    simp only [Option.map_some, Option.bind_some, finI]
    rw [List.getElem?_append_left (by simp [pertI_len]; omega), List.getElem?_take_of_lt hq]
    cases hx : l[q]? with
    | some x =>
      obtain ⟨y, hy, e⟩ := pertI_at (add := add) (i := n) h1 h hx
      rw [List.getElem?_append_left (by rw [pertI_len]; exact (List.getElem?_eq_some_iff.1 hx).1), hy]
      exact e.symm
    | none =>
      have hle : l.length ≤ q := List.getElem?_eq_none_iff.1 hx
      rw [List.getElem?_append_right (by rw [pertI_len]; exact hle), List.getElem?_replicate, if_pos (by rw [pertI_len]; omega)]
      simp
/-- How often each channel has been read. -/
def rdsI (t : TraceD) (n : Nat) : Nat := (t.reads.getD n 0).toNat
theorem inputs_law {f : FlatD} {add : List Int} {L : List (List Int)} (hh : HeadP f) (k : Nat) (r : Nat → Nat) (hr : ∀ n, readsAt (iterM f L k (newM f)) n ≤ r n) : iterM f (finsI f add r L) k (newM f) = iterM f L k (newM f) := by
  refine (iterM_words k _ (fun c hc hk => ?_) (fun n => ?_) (fun n q hq => fins_word hh.w1 hh.w2 n q (by have := hr n; omega))).symm
  · have hp := codeP (hh.codes c hc)
    have h1 := hp.n1
    rw [hk] at h1
    have : mostF f 4 = f.chans.length := rfl
    have h0 := hp.n0
    simp only [newM, List.length_replicate]
    exact ⟨h0, by omega⟩
  · unfold readsAt newM
    rw [List.getD_eq_getElem?_getD, List.getElem?_replicate]
    split <;> simp
theorem finsI_len (f : FlatD) (add : List Int) (r : Nat → Nat) (L : List (List Int)) : (finsI f add r L).length = L.length := by unfold finsI; simp
theorem insM_len {f : FlatD} {L : List (List Int)} (h : L.length ≤ f.chans.length) : (insM f L).length = f.chans.length := by simp only [insM, List.length_append, List.length_replicate]; omega
theorem insM_full {f : FlatD} {L : List (List Int)} (h : L.length = f.chans.length) : insM f L = L := by simp [insM, h]
/-- What the law asks of the second run. -/
theorem inputs_plain (S : FlatD) (M : List (List Int)) (add : List Int) (hok : flatOk S = true) (hle : M.length ≤ S.chans.length) (hci : ∀ c ∈ S.code, CodeIn c) (x : TraceD) (hx : runT S M 150 = x) :
    x.reads.length = S.chans.length ∧ (∀ n, n < S.chans.length → x.reads[n]? = some ((rdsI x n : Nat) : Int)) ∧ (∀ n, rdsI x n ≤ 150) ∧ runT S (finsI S add (rdsI x) (insM S M)) 150 = x := by
  have hh := headP hok
  have he : ∀ n : Nat, n ≤ S.chans.length → errRun S n 150 = 0 := fun n hn => by rw [errRun, if_neg (by omega), errNew, if_pos hok, if_neg (by omega)]
  have hlen := insM_len hle
  have hfl : (finsI S add (rdsI x) (insM S M)).length = S.chans.length := by rw [finsI_len, hlen]
  have ex : x = (iterM S (insM S M) 150 (newM S)).t := by
    rw [← hx, runT, if_pos (he _ hle)]; rfl
  have hg := going_run (ins := insM S M) hh hci 150
  have hrl : x.reads.length = S.chans.length := by rw [ex]; exact hg.good.reads
  have hrd : ∀ v ∈ x.reads, 0 ≤ v ∧ v ≤ 150 := fun v hv => by
    rw [ex] at hv
    have h1 := hg.good.rd v hv
    have h2 := hg.steps
    exact ⟨h1.1, by omega⟩
  have hat : ∀ n, n < S.chans.length → x.reads[n]? = some ((rdsI x n : Nat) : Int) := fun n hn => by
    have h1 := List.getElem?_eq_getElem (l := x.reads) (i := n) (by omega)
    have h2 := hrd _ (List.mem_of_getElem? h1)
    unfold rdsI
    rw [List.getD_eq_getElem?_getD, h1]
    simp only [Option.getD_some]
    congr 1
    omega
  have hb : ∀ n, rdsI x n ≤ 150 := fun n => by
    unfold rdsI
    rw [List.getD_eq_getElem?_getD]
    cases h1 : x.reads[n]? with
    | none => simp
    | some v => have h2 := hrd _ (List.mem_of_getElem? h1); simp; omega
  refine ⟨hrl, hat, hb, ?_⟩
  rw [runT, if_pos (he _ (by omega))]
  show (runM S _ 150).t = x
  rw [runM, insM_full hfl, inputs_law hh 150 (rdsI x) (fun n => ?_), ex]
  rw [ex]
  unfold readsAt rdsI
  exact Int.self_le_toNat _
/-- The lists so far: the first n are as they shall be. -/
def midI (A B : List (List Int)) (n : Nat) : List (List Int) := A.take n ++ B.drop n
theorem midI_at {A B : List (List Int)} (h : A.length = B.length) {n : Nat} (hn : n < B.length) : (midI A B n)[n]? = B[n]? := by
  unfold midI
  rw [List.getElem?_append_right (by simp; omega), List.length_take, Nat.min_eq_left (by omega), Nat.sub_self, List.getElem?_drop, Nat.add_zero]
theorem midI_len {A B : List (List Int)} (h : A.length = B.length) {n : Nat} (hn : n ≤ B.length) : (midI A B n).length = B.length := by
  unfold midI; simp; omega
theorem midI_set {A B : List (List Int)} (h : A.length = B.length) {n : Nat} {l : List Int} (hl : A[n]? = some l) : (midI A B n).set n l = midI A B (n + 1) := by
  have hn : n < A.length := (List.getElem?_eq_some_iff.1 hl).1
  have hlA : A[n] = l := by rw [List.getElem?_eq_getElem hn] at hl; exact Option.some.inj hl
  unfold midI
  rw [List.set_append_right _ _ (by simp; omega), List.length_take, Nat.min_eq_left (by omega), Nat.sub_self, List.take_add_one, hl]
  rw [List.drop_eq_getElem_cons (by omega : n < B.length), List.set_cons_zero, Option.toList_some, List.append_assoc, List.singleton_append]
theorem midI_end {A B : List (List Int)} (h : A.length = B.length) : midI A B B.length = A := by unfold midI; rw [List.take_of_length_le (by omega), List.drop_length, List.append_nil]
/-- One list so far: the first k of its inputs are moved. -/
def midL (A B : List Int) (k : Nat) : List Int := A.take k ++ B.drop k
theorem midL_zero (A B : List Int) : midL A B 0 = B := by simp [midL]
theorem midL_len {A B : List Int} (h : A.length = B.length) {k : Nat} (hk : k ≤ B.length) : (midL A B k).length = B.length := by unfold midL; simp; omega
theorem midL_at {A B : List Int} (h : A.length = B.length) {n : Nat} (hn : n < B.length) : (midL A B n)[n]? = B[n]? := by
  unfold midL
  rw [List.getElem?_append_right (by simp; omega), List.length_take, Nat.min_eq_left (by omega), Nat.sub_self, List.getElem?_drop, Nat.add_zero]
theorem midL_set {A B : List Int} (h : A.length = B.length) {n : Nat} {l : Int} (hl : A[n]? = some l) : (midL A B n).set n l = midL A B (n + 1) := by
  have hn : n < A.length := (List.getElem?_eq_some_iff.1 hl).1
  unfold midL
  rw [List.set_append_right _ _ (by simp; omega), List.length_take, Nat.min_eq_left (by omega), Nat.sub_self, List.take_add_one, hl]
  rw [List.drop_eq_getElem_cons (by omega : n < B.length), List.set_cons_zero, Option.toList_some, List.append_assoc, List.singleton_append]
theorem midL_end {A B : List Int} (h : A.length = B.length) : midL A B B.length = A := by unfold midL; rw [List.take_of_length_le (by omega), List.drop_length, List.append_nil]
theorem set_twice {α : Type} (l : List α) (n : Nat) (a b : α) : (l.set n a).set n b = l.set n b := by simp
theorem set_same {α : Type} {l : List α} {n : Nat} {a : α} (h : l[n]? = some a) : l.set n a = l := by
  obtain ⟨hn, rfl⟩ := List.getElem?_eq_some_iff.1 h
  simp
end Go.Proofs.YtkjkpddajjmloaaDoor
