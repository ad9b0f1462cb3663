/- The law of append(s, make([]T, k)...) onto a slice of one's own, with room and without. No program. Plain law: multiples of 2^W, and zeros at the ends of lists, leave all words as they were. No program. -/
import Derived.Test.YtkjkpddajjmloaaDoorKOl
import Derived.Lib.AppendZerosOnto
import Derived.Test.YtkjkpddajjmloaaDoorAgC
set_option linter.unnecessarySimpa false
set_option linter.unusedVariables false
set_option linter.unusedSimpArgs false
namespace Go.Proofs.YtkjkpddajjmloaaDoor
open Go.ChangeShapes Go.WideShapes Go.ChangeAt Go.RowKit
theorem run_append_zeros_room {P : Program} (w : World) (t tn ty e : TypeId) (i : TypeInfo) (z : Value) (kq kn : IntKind) (ht : P.underlying t = some (.slice e)) (htn : P.underlying tn = some (.int kn)) (hi : P.info? e = some i) (hz : i.zero = some z) (hzs : z.cells.size = i.size)
    (g sLen sCap : Nat) (cur : Array Value) (hg : w.heap[g]? = some (.cells cur e (0, 0))) (k : Nat) (h0 : 0 < k) (hs : 0 < i.size) (h63 : sLen + k ≤ maxLen) (h48 : k * i.bytes ≤ 281474976710656) (h1 : ∀ u ∈ (Builtin.zeroCells z.cells k).toList, u.oneCell' = true)
    (hroom : sLen + k ≤ sCap) (hfit : sLen * i.size + k * i.size ≤ cur.size) :
    (Builtin.append_ #[t, tn] ty #[.slice (some ⟨g, 0, none⟩) sLen sCap, .int kq k]).run P w =
      .ok (.slice (some ⟨g, 0, none⟩) (sLen + k) sCap) (w.setRow g (cur.toList.take (sLen * i.size) ++ (Builtin.zeroCells z.cells k).toList ++ cur.toList.drop (sLen * i.size + (Builtin.zeroCells z.cells k).toList.length)).toArray) := by
  have hk : k ≠ 0 := by omega
  simp only [maxLen] at h63
  have hw : IntKind.i64.wrap (k : Int) = k := by rw [IntKind.wrap_i64]; omega
  have h48i : ¬ (281474976710656 < (k : Int) * (i.bytes : Int)) := by
    rw [← Int.natCast_mul]
    omega
  have hneg : ¬ ((k : Int) < 0) := by omega
  have hns : ¬ (k * i.size = 0) := Nat.mul_ne_zero hk (by omega)
  have hl : (Builtin.zeroCells z.cells k).toList.length = k * i.size := by rw [Array.length_toList, size_zeroCells, hzs]
  have hst := run_storeCells_at P g (sLen * i.size) e (Builtin.zeroCells z.cells k).toList 0 cur w hg (by rw [hl]; simpa using hfit) h1
  simp only [Nat.add_zero] at hst
  simp [Builtin.append_, run_underlying ht, run_underlying htn, sizeOf, typeInfo, zeroValue, hi, hz, asInt, asIntOf, hw, hneg, hns, h48i, hroom, Addr.add_lit, hst]
theorem run_append_zeros_own {P : Program} (w : World) (base : Nat) (t tn ty e : TypeId) (i : TypeInfo) (z : Value) (size bytes : Nat) (kq kn : IntKind) (ht : P.underlying t = some (.slice e)) (htn : P.underlying tn = some (.int kn)) (hi : P.info? e = some i) (hz : i.zero = some z)
    (hsize : i.size = size) (hby : i.bytes = bytes) (hzs : z.cells.size = size) (hsz : 0 < size)
    (v : Value) (n : Nat) (xs : List Value) (hown : w.ownsRow base e size v n xs) (m : Nat) (h1 : ∀ u ∈ (Builtin.zeroCells z.cells m).toList, u.oneCell' = true)
    (h63 : n + m ≤ maxLen) (hbytes : (n + m) * bytes ≤ 140737488355328) (hbase : base ≤ w.heap.size) :
    ∃ v' w', (Builtin.append_ #[t, tn] ty #[v, .int kq m]).run P w = .ok v' w' ∧ w'.ownsRow base e size v' (n + m) (xs ++ (Builtin.zeroCells z.cells m).toList) ∧ w.grownBy w' v.ownBlock ∧ (v'.ownBlock = v.ownBlock ∨ v'.ownBlock = some w.heap.size) := by
  subst hsize
  subst hby
  have hsmall : n + m ≤ 9223372036854775807 := by simp only [maxLen] at h63; omega
  have hzl : (Builtin.zeroCells z.cells m).toList.length = m * i.size := by rw [Array.length_toList, size_zeroCells, hzs]
  have hmb : m * i.bytes ≤ 140737488355328 := Nat.le_trans (Nat.mul_le_mul_right _ (by omega)) hbytes
  have hlen : (xs ++ (Builtin.zeroCells z.cells m).toList).length = (n + m) * i.size := by rw [List.length_append, hown.1, hzl, Nat.add_mul]
  have hw : IntKind.i64.wrap (m : Int) = m := by rw [IntKind.wrap_i64]; omega
  have hneg : ¬ ((m : Int) < 0) := by omega
  by_cases hm : m = 0
  · subst hm
    have h0 : (Builtin.zeroCells z.cells 0).toList = [] := List.eq_nil_of_length_eq_zero (by rw [hzl]; simp)
    rw [h0, List.append_nil]
    refine ⟨v, w, ?_, hown, ⟨rfl, rfl, rfl, Nat.le_refl _, fun _ _ _ => rfl⟩, .inl rfl⟩
    rcases hown.2 with ⟨rfl, rfl⟩ | ⟨g, cap, cur, rfl, hbg, hg, hnc, hcm, hcs, htake⟩
    · simp [Builtin.append_, run_underlying ht, run_underlying htn, sizeOf, typeInfo, hi, asInt, asIntOf, IntKind.wrap_i64]
    · simp [Builtin.append_, run_underlying ht, run_underlying htn, sizeOf, typeInfo, hi, asInt, asIntOf, IntKind.wrap_i64, hnc, storeCells]
  have grown : ∀ (old : Nat), old < n + m → ∀ (row : Option Nat),
      (w.drew.alloc (.cells (xs.toArray ++ Builtin.zeroCells z.cells m ++ Builtin.zeroCells z.cells (grownCap w (n + m) old e - (n + m))) e)).ownsRow base e i.size
        (.slice (some ⟨w.heap.size, 0, none⟩) (n + m) (grownCap w (n + m) old e)) (n + m) (xs ++ (Builtin.zeroCells z.cells m).toList) ∧
      w.grownBy (w.drew.alloc (.cells (xs.toArray ++ Builtin.zeroCells z.cells m ++ Builtin.zeroCells z.cells (grownCap w (n + m) old e - (n + m))) e)) row := by
    intro old ho row
    have hge := grownCap_ge w (n + m) old e
    have hcm : grownCap w (n + m) old e ≤ maxLen := grownCap_le_maxLen w (n + m) old e h63
    refine ⟨⟨hlen, .inr ⟨w.heap.size, _, _, rfl, hbase, heap_alloc_new w.drew _, hge, hcm, ?_, ?_⟩⟩, ⟨rfl, rfl, rfl, by simp, fun k hk _ => Go.heap_alloc_old w.drew _ hk⟩⟩
    · simp only [Array.size_append, List.size_toArray, size_zeroCells, hzs, hown.1, ← Nat.add_mul]
      congr 1
      omega
    · simp only [Array.toList_append, List.append_assoc]
      rw [← List.append_assoc, ← hlen]
      exact List.take_left
  rcases hown.2 with ⟨rfl, rfl⟩ | ⟨g, cap, cur, rfl, hbg, hg, hnc, hcm, hcs, htake⟩
  · have hx : xs = [] := List.eq_nil_of_length_eq_zero (by simpa using hown.1)
    subst hx
    have hfit := growslice_fits (need := 0 + m) (old := 0) (bytes := i.bytes) (by omega) hbytes
    have hr := Lib.run_append_grow_zeros (P := P) w t tn ty e i z kq kn ht htn hi hz none 0 0 [] (by simp [Builtin.firstCells]) m (by omega) hsz (by omega) (by omega) (by omega) hfit
    have hgr := grown 0 (by omega) (Value.ownBlock (.slice none 0 0))
    exact ⟨_, _, hr, hgr.1, hgr.2, .inr rfl⟩
  · by_cases hroom : n + m ≤ cap
    · have hfit : n * i.size + m * i.size ≤ cur.size := by rw [hcs, ← Nat.add_mul]; exact Nat.mul_le_mul_right _ hroom
      have hr := run_append_zeros_room (P := P) w t tn ty e i z kq kn ht htn hi hz hzs g n cap cur hg m (by omega) hsz h63 (by omega) h1 hroom hfit
      refine ⟨_, _, hr, ⟨hlen, .inr ⟨g, cap, _, rfl, hbg, setRow_heap w g cur _ e _ hg, hroom, hcm, ?_, ?_⟩⟩, ⟨rfl, rfl, rfl, by simp, fun k _ hk => setRow_other w g k _ (fun e => hk (by simp [Value.ownBlock, e]))⟩, .inl rfl⟩
      · rw [List.size_toArray, List.length_append, List.length_append, List.length_take, List.length_drop, hzl, Array.length_toList]
        omega
      · rw [htake, ← hlen]
        exact List.take_left
    · have holds : ∀ j u, xs[j]? = some u → w.cell? ((⟨g, 0, none⟩ : Addr).add j) = some u := hown.cells (g := g) rfl
      have hold := run_firstCells_some (P := P) w.drew i.size n ⟨g, 0, none⟩ n cap xs hown.1 (fun j u h => holds j u h)
      have hr := Lib.run_append_grow_zeros (P := P) w t tn ty e i z kq kn ht htn hi hz (some ⟨g, 0, none⟩) n cap xs hold m (by omega) hsz (by omega) (by omega) (by omega) (growslice_fits (by omega) hbytes)
      have hgr := grown cap (by omega) (Value.ownBlock (.slice (some ⟨g, 0, none⟩) n cap))
      exact ⟨_, _, hr, hgr.1, hgr.2, .inr rfl⟩
theorem wpList_append_zeros_own {P : Program} {w : World} {ops : Array Oper} {rest : List Oper} {o : Oper} {a : Act} {Q : Exit → Act → World → Prop} (hgd : o.guard = none) (s x : Operand) (t tn : TypeId)
    (ho : o.op = .call { callee := .builtin .append, args := #[s, x], argTypes := #[t, tn] })
    (base : Nat) (e : TypeId) (i : TypeInfo) (z : Value) (size bytes : Nat) (kq kn : IntKind) (ht : P.underlying t = some (.slice e)) (htn : P.underlying tn = some (.int kn)) (hi : P.info? e = some i) (hz : i.zero = some z)
    (hsize : i.size = size) (hby : i.bytes = bytes) (hzs : z.cells.size = size) (hsz : 0 < size)
    (v : Value) (n : Nat) (xs : List Value) (hs : a.eval s = v) (hown : w.ownsRow base e size v n xs) (m : Nat) (hx : a.eval x = .int kq m) (h1 : ∀ u ∈ (Builtin.zeroCells z.cells m).toList, u.oneCell' = true)
    (h63 : n + m ≤ maxLen) (hbytes : (n + m) * bytes ≤ 140737488355328) (hbase : base ≤ w.heap.size)
    (h : ∀ v' w', w'.ownsRow base e size v' (n + m) (xs ++ (Builtin.zeroCells z.cells m).toList) → w.grownBy w' v.ownBlock → (v'.ownBlock = v.ownBlock ∨ v'.ownBlock = some w.heap.size) → wpList P ops Q rest (a.put o.dst v') w') :
    wpList P ops Q (o :: rest) a w := by
  refine wpList_plain hgd fun K hK => ?_
  obtain ⟨v', w', hr, h2, h3, h4⟩ := run_append_zeros_own (P := P) w base t tn o.type e i z size bytes kq kn ht htn hi hz hsize hby hzs hsz v n xs hown m h1 h63 hbytes hbase
  unfold Oper.wp execOp
  simp only [ho, resolve, invoke, builtin, Sem.run_bind, Sem.run_pure, Result.andThen_ok, List.map_toArray, List.map_cons, List.map_nil, hs, hx, hr]
  exact hK _ _ (h v' w' h2 h3 h4)
open Go.ChangeShapes Go.WideShapes Go.ChangeAt Go.RowKit
/-- A number of times 2^W. -/
def shV (T W : Int) : Int := IntKind.u64.wrap (T * 2 ^ W.toNat)
def bumpN (T W x : Int) : Int := IntKind.u64.wrap (x + shV T W)
def bumpM (T W : Int) (l : List Int) : List Int := l.map (bumpN T W)
def bumpL (T W : Int) (z : Nat) (l : List Int) : List Int := bumpM T W l ++ List.replicate z 0
def bumpA (T W : Int) (z : Nat) (A : List (List Int)) : List (List Int) := A.map (bumpL T W z)
theorem bumpA_len (T W : Int) (z : Nat) (A : List (List Int)) : (bumpA T W z A).length = A.length := by simp [bumpA]
theorem bumpM_len (T W : Int) (l : List Int) : (bumpM T W l).length = l.length := by simp [bumpM]
theorem pow_dvd (W : Nat) (h : W ≤ 64) : (2 : Int) ^ W ∣ 18446744073709551616 := by
  refine ⟨2 ^ (64 - W), ?_⟩
  rw [← Int.pow_add, show W + (64 - W) = 64 by omega]
  rfl
theorem bumpN_mod {T W x : Int} (h : W ≤ 64) : bumpN T W x % 2 ^ W.toNat = x % 2 ^ W.toNat := by
  have hd := pow_dvd W.toNat (by omega)
  unfold bumpN shV
  rw [IntKind.wrap_u64, IntKind.wrap_u64, Int.emod_emod_of_dvd _ hd, Int.add_emod, Int.emod_emod_of_dvd _ hd, Int.mul_emod_left, Int.add_zero, Int.emod_emod_of_dvd _ (Int.dvd_refl _)]
theorem bump_words {f : FlatD} (h : f.width ≤ 64) (T : Int) (z : Nat) (A : List (List Int)) (c k : Nat) : wordAt f A c k = wordAt f (bumpA T f.width z A) c k := by
  unfold wordAt inAt bumpA
  rw [List.getElem?_map]
  cases A[c]? with
  | none => rfl
  | some l =>
    simp only [Option.map_some, Option.bind_some, bumpL]
    by_cases hk : k < l.length
    · have e1 : (bumpM T f.width l ++ List.replicate z 0)[k]? = some (bumpN T f.width l[k]) := by
        rw [List.getElem?_append_left (by rw [bumpM_len]; exact hk), bumpM, List.getElem?_map, List.getElem?_eq_getElem hk]; rfl
      rw [e1, List.getElem?_eq_getElem hk]
      exact (bumpN_mod h).symm
    · rw [List.getElem?_eq_none (by omega), List.getElem?_append_right (by rw [bumpM_len]; omega), List.getElem?_replicate]
      by_cases hz : k - (bumpM T f.width l).length < z
      · rw [if_pos hz]; exact (Int.zero_emod _).symm
      · rw [if_neg hz]
theorem bump_leaks {f : FlatD} {q : PolD} {lv : Int} {A B : List (List Int)} (hok : flatOk f = true) (T : Int) (z : Nat) :
    leaksB f q lv A B = leaksB f q lv (bumpA T f.width z A) B ∧ leaksErr f q lv A B = leaksErr f q lv (bumpA T f.width z A) B :=
  leaksB_words hok (bumpA_len _ _ _ _) fun c k => bump_words (headP hok).w2 T z A c k
theorem bump_run {f : FlatD} (hok : flatOk f = true) {A : List (List Int)} (hA : A.length ≤ f.chans.length) (T : Int) (z : Nat) (s : Int) : runT f A s = runT f (bumpA T f.width z A) s :=
  runT_words hok hA (by rw [bumpA_len]; exact hA) (fun c k => bump_words (headP hok).w2 T z A c k) s
theorem bumpA_at {T W : Int} {z : Nat} {A : List (List Int)} {n : Nat} {l : List Int} (h : A[n]? = some l) : (bumpA T W z A)[n]? = some (bumpM T W l ++ List.replicate z 0) := by
  unfold bumpA; rw [List.getElem?_map, h]; rfl
theorem bumpM_at {T W : Int} {l : List Int} {k : Nat} {x : Int} (h : l[k]? = some x) : (bumpM T W l)[k]? = some (bumpN T W x) := by
  unfold bumpM; rw [List.getElem?_map, h]; rfl
theorem shV_zero (T : Int) : shV T 64 = 0 := by
  unfold shV; rw [IntKind.wrap_u64]
  show T * 2 ^ 64 % 18446744073709551616 = 0
  exact Int.mul_emod_left _ _
end Go.Proofs.YtkjkpddajjmloaaDoor
