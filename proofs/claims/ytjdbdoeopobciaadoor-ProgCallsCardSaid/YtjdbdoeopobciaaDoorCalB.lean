/- What the walk of ProgCalls needs besides: the remainder, strings of one byte, copies of the chain of functions, one of which gets code. No condition of its own. -/
import Derived.Test.YtjdbdoeopobciaaDoorKitO
import Derived.Test.YtjdbdoeopobciaaDoorCalP
import Derived.Test.YtjdbdoeopobciaaDoorAwa
set_option linter.unusedVariables false
set_option linter.unusedSimpArgs false
namespace Go.Proofs.YtjdbdoeopobciaaDoor
open Go.ChangeShapes Go.WideShapes Go.ChangeAt Go.RowKit
set_option maxRecDepth 100000 in
theorem mod_any (n m : Int) (hn : InI64 n) (hm : 1 ≤ m ∧ m ≤ 1000) (w : World) : Calls Tryd.prog 24 #[.int .i64 n, .int .i64 m] w fun e w' => ∃ r, e = .returned (.int .i64 r) ∧ 0 ≤ r ∧ r < m ∧ Below w.heap.size w w' := by
  obtain ⟨hm1, hm2⟩ := hm
  unfold InI64 at hn
  have h1 : ¬ m < 1 := by omega
  have h0 : ¬ m = 0 := by omega
  have hb1 : -m < n.tmod m := by
    have := Int.tmod_lt_of_pos (-n) (show 0 < m by omega)
    rw [Int.neg_tmod] at this
    omega
  have hb2 : n.tmod m < m := Int.tmod_lt_of_pos n (by omega)
  go_enter Tryd.func24, Tryd.ntmps24
  go_wp2_with fail
  go_ret
  exact ⟨_, rfl, Int.emod_nonneg _ h0, Int.emod_lt_of_pos _ (by omega), Below.refl _ _⟩
def cByte (k : Nat) : ByteArray := bs [UInt8.ofNat (97 + k)]
theorem cByte_name (k : Nat) : (⟨#[102]⟩ : ByteArray) ++ cByte k = cName k := by
  apply ByteArray.ext
  simp [cByte, cName, bs, ByteArray.data_append]
theorem conv_one (w : World) (g k : Nat) (hk : k < 100) (hg : w.heap[g]? = some (.cells #[.int .u8 (97 + (k : Int))] 5 (0, 0))) : (convert 48 9 (.slice (some ⟨g, 0, none⟩) 1 1)).run Tryd.prog w = .ok (.string (cByte k)) w :=
  run_convert_bytes_back w 48 9 5 ⟨g, 0, none⟩ 1 [UInt8.ofNat (97 + k)] (by kernel_rfl) (by kernel_rfl) (by kernel_rfl) (fun j hj => by
    have : j = 0 := by simpa using hj
    subst this
    have e : ([UInt8.ofNat (97 + k)][0].toNat : Int) = 97 + (k : Int) := by simp; omega
    rw [e]
    exact row_of hg 0 _ rfl)
theorem conv_two (w : World) (g k : Nat) (hk : k < 99) (hg : w.heap[g]? = some (.cells #[.int .u8 (98 + (k : Int))] 5 (0, 0))) : (convert 48 9 (.slice (some ⟨g, 0, none⟩) 1 1)).run Tryd.prog w = .ok (.string (cByte (k + 1))) w :=
  conv_one w g (k + 1) (by omega) (by rw [hg, show 97 + ((k + 1 : Nat) : Int) = 98 + (k : Int) by omega])
theorem rdIg {G : Nat → Prop} {w : World} {g c : Nat} {l : List (InstrD × Value)} (hb : G g) (hg : w.heap[g]? = some (.cells (l.flatMap insCells).toArray 43 (0, 0))) (hl : l.length ≤ 1000) (hx : ∀ p ∈ l, RdInstr (some G) w p.1 p.2) (hcap : l.length ≤ c := by simp) : RdInstrs (some G) w (.slice (some ⟨g, 0, none⟩) l.length c) (l.map Prod.fst) := by
  refine ⟨some ⟨g, 0, none⟩, c, by rw [List.length_map], by rw [List.length_map]; omega, fun i s hs => ?_⟩
  rw [List.getElem?_map] at hs
  cases hp : l[i]? with
  | none => rw [hp] at hs; cases hs
  | some p =>
    rw [hp] at hs
    cases hs
    have hcell : ∀ j v, j < 7 → (insCells p)[j]? = some v → w.cell? ⟨g, 0 + i * 7 + j, none⟩ = some v := fun j v hj hv => by
      refine row_of hg (0 + i * 7 + j) v ?_
      have := flat_get insCells 7 (fun _ => rfl) l i j p hp hj
      rw [Nat.zero_add, List.getElem?_toArray, this]
      exact hv
    exact ⟨g, 0, p.2, rfl, Free.of hb hg, hcell 0 _ (by omega) rfl, hcell 1 _ (by omega) rfl, hcell 2 _ (by omega) rfl, hcell 3 _ (by omega) rfl, hcell 4 _ (by omega) rfl, hcell 5 _ (by omega) rfl, hcell 6 _ (by omega) rfl, hx p (List.mem_of_getElem? hp)⟩
theorem rdIo {base : Nat} {w : World} {g c : Nat} {l : List (InstrD × Value)} (hb : base ≤ g) (hg : w.heap[g]? = some (.cells (l.flatMap insCells).toArray 43 (0, 0))) (hl : l.length ≤ 1000) (hx : ∀ p ∈ l, RdInstr (some (upFrom base)) w p.1 p.2) (hcap : l.length ≤ c := by simp) : RdInstrs (some (upFrom base)) w (.slice (some ⟨g, 0, none⟩) l.length c) (l.map Prod.fst) := rdIg (G := upFrom base) hb hg hl hx hcap
theorem cName_size (k : Nat) : (cName k).size ≤ maxLen := by unfold maxLen; show (cName k).data.size ≤ _; simp [cName, bs]
theorem ok_callI (base : Nat) (w : World) (k : Nat) (hk : k < 100) : RdInstr (some (upFrom base)) w (callI k) (.slice none 0 0) :=
  ⟨rdArgs_nil _ _, by simp [callI, ins]; decide, by simp [callI, ins]; decide, by simp [callI, ins, InI64]; omega, by simp [callI, ins]; decide, by simp [callI, ins]; decide, cName_size (k + 1)⟩
/-- v is a program with the chain of functions, in memory of its own; the last function has no code. -/
def CopyD (k : Nat) (v : Value) (w : World) (lo hi : Nat) : Prop := ∃ ac kc aa ka b o kf am km, v = .agg #[.int .i64 8, .slice ac 0 kc, .slice aa 0 ka, .slice (some ⟨b, o, none⟩) k kf, .slice am 0 km] ∧
  RdFuncs (some (within lo hi)) w (.slice (some ⟨b, o, none⟩) k kf) (chainL k) ∧ w.cell? ⟨b, o + (k - 1) * 5 + 2, none⟩ = some (.slice none 0 0)
theorem CopyD.keep {k : Nat} {v : Value} {w w' : World} {lo hi : Nat} (h : CopyD k v w lo hi) (hb : Below w.heap.size w w') : CopyD k v w' lo hi := by
  obtain ⟨ac, kc, aa, ka, b, o, kf, am, km, e, h1, h2⟩ := h
  exact ⟨ac, kc, aa, ka, b, o, kf, am, km, e, h1.keep hb, cell_keep hb h2⟩
theorem chainL_length (k : Nat) : (chainL k).length = k := by simp [chainL]
theorem copy_chain (k : Nat) (hk : 1 ≤ k) (cv av fv mv : Value) (w : World) (h : RdProg none w (chainD k) cv av fv mv) :
    Calls Tryd.prog 12 #[progV (chainD k) cv av fv mv] w fun e w' => ∃ v, e = .returned v ∧ CopyD k v w' w.heap.size w'.heap.size ∧ Below w.heap.size w w' := by
  refine (copyProgO (chainD k) cv av fv mv w h).mono ?_
  rintro e w' ⟨cv', av', fv', mv', m, rfl, h1, h2, h3, h4, hm, ⟨P, hP, hown, hnil⟩, hb⟩
  refine ⟨_, rfl, ?_, hb⟩
  obtain ⟨ac, kc, rfl, -⟩ := h1
  obtain ⟨aa, ka, rfl, -⟩ := h2
  obtain ⟨am, km, rfl, -⟩ := h4
  obtain ⟨af, kf, rfl, hlf, hrf⟩ := id h3
  have hg : (chainL k)[k - 1]? = some (fnD k (k - 1)) := chain_get.2 ⟨by omega, rfl⟩
  obtain ⟨b, o, pv, cv, rfl, -⟩ := hrf (k - 1) _ hg
  have hPl : P.length = k := by
    have := congrArg List.length hP
    rw [List.length_map] at this
    rw [this]; exact chainL_length k
  obtain ⟨p, hp⟩ : ∃ p, P[k - 1]? = some p := ⟨_, List.getElem?_eq_getElem (by omega)⟩
  have hp1 : p.1 = fnD k (k - 1) := by
    have : (P.map Prod.fst)[k - 1]? = some p.1 := by rw [List.getElem?_map, hp]; rfl
    rw [hP] at this
    have e : (chainD k).funcs = chainL k := rfl
    rw [e, hg] at this
    exact (Option.some.inj this).symm
  have hp2 := hnil p (List.mem_of_getElem? hp) (by rw [hp1]; show (if k - 1 + 1 < k then [callI (k - 1)] else []) = []; rw [if_neg (by omega)])
  obtain ⟨a2, c2, e2, hr⟩ := own_read hown
  have hx : (P.flatMap funCells)[(k - 1) * 5 + 2]? = some p.2.2 := by rw [flat_get funCells 5 (fun _ => rfl) P (k - 1) 2 p hp (by omega)]; rfl
  obtain ⟨g, e3, -, hcell⟩ := hr _ _ hx
  simp only [Value.slice.injEq] at e2
  obtain ⟨e4, -, -⟩ := e2
  rw [e3] at e4
  simp only [Option.some.injEq, Addr.mk.injEq, and_true] at e4
  obtain ⟨rfl, rfl⟩ := e4
  rw [hp2] at hcell
  have e : (chainD k).funcs.length = k := chainL_length k
  rw [e] at h3
  refine ⟨ac, kc, aa, ka, b, 0, kf, am, km, ?_, RdFuncs.same h3 (fun _ _ _ => rfl) (fun x hx hw => ⟨hw.1, hx⟩), hcell⟩
  show Value.agg #[.int .i64 8, .slice ac 0 kc, .slice aa 0 ka, .slice (some ⟨b, 0, none⟩) (chainD k).funcs.length kf, .slice am 0 km] = _
  rw [e]
/-- A function gets code. -/
theorem loop_rd {k q lo hi : Nat} {w : World} {b o kf : Nat} {cv : Value} {G : Nat → Prop} (hG : ∀ x, within lo hi x → G x) (hk : 1 ≤ k) (h : RdFuncs (some (within lo hi)) w (.slice (some ⟨b, o, none⟩) k kf) (chainL k)) (hc : RdInstrs (some G) (w.setCell ⟨b, o + (k - 1) * 5 + 2, none⟩ cv) cv [callT q]) :
    RdFuncs (some G) (w.setCell ⟨b, o + (k - 1) * 5 + 2, none⟩ cv) (.slice (some ⟨b, o, none⟩) k kf) (loopL k q) := by
  obtain ⟨a, c, e, hl, hr⟩ := h
  simp only [Value.slice.injEq] at e
  obtain ⟨rfl, -, rfl⟩ := e
  have hll : (loopL k q).length = k := by simp [loopL, chainL]
  rw [chainL_length] at hl
  refine ⟨_, kf, by rw [hll], by rw [hll]; exact hl, fun i s hs => ?_⟩
  obtain ⟨hi', rfl⟩ := (loop_get (by omega)).1 hs
  obtain ⟨b', o', pv, cv0, e, hf, c0, c1, c2, c3, c4, h1, h2, h3, h4, h5⟩ := hr i _ (chain_get.2 ⟨hi', rfl⟩)
  simp only [Option.some.injEq, Addr.mk.injEq, and_true] at e
  obtain ⟨rfl, rfl⟩ := e
  have hFb : Free (some G) 52 (w.setCell ⟨b, o + (k - 1) * 5 + 2, none⟩ cv) b := by
    obtain ⟨g1, cs, g2⟩ := hf _ rfl
    exact Free.of (hG _ g1) (heap_setCell_same _ _ (o + (k - 1) * 5 + 2) _ _ cv g2)
  have hmF : ∀ T x, T ≠ 52 → x < w.heap.size → Free (some (within lo hi)) T w x → Free (some G) T (w.setCell ⟨b, o + (k - 1) * 5 + 2, none⟩ cv) x := by
    intro T x hT _ hfx
    obtain ⟨g1, cs, g2⟩ := hfx _ rfl
    refine Free.of (hG _ g1) ((heap_setCell_other _ _ _ _ ?_).trans g2)
    intro e
    have e : b = x := e.symm
    subst e
    obtain ⟨_, cs', g3⟩ := hf _ rfl
    rw [g2] at g3
    simp at g3
    exact hT g3.2
  have hmC : ∀ T x y v, T ≠ 52 → Free (some (within lo hi)) T w x → w.cell? ⟨x, y, none⟩ = some v → (w.setCell ⟨b, o + (k - 1) * 5 + 2, none⟩ cv).cell? ⟨x, y, none⟩ = some v := by
    intro T x y v hT hfx hcx
    rw [World.cell?_setCell_other]
    · exact hcx
    · intro e
      simp only [Addr.mk.injEq, and_true] at e
      obtain ⟨rfl, -⟩ := e
      obtain ⟨_, cs, g1⟩ := hfx _ rfl
      obtain ⟨_, cs', g2⟩ := hf _ rfl
      rw [g1] at g2
      simp at g2
      exact hT g2.2
  have ho : ∀ t v, o + i * 5 + t ≠ o + (k - 1) * 5 + 2 → w.cell? ⟨b, o + i * 5 + t, none⟩ = some v → (w.setCell ⟨b, o + (k - 1) * 5 + 2, none⟩ cv).cell? ⟨b, o + i * 5 + t, none⟩ = some v := by
    intro t v hne hcx
    rw [World.cell?_setCell_other]
    · exact hcx
    · intro e
      simp only [Addr.mk.injEq, and_true, true_and] at e
      exact hne e.symm
  have hpar := RdStrs.map (S := fun T => T ≠ 52) hmF hmC (by decide) h1
  have hcod := RdInstrs.map (S := fun T => T ≠ 52) hmF hmC (by decide) (by decide) h2
  by_cases he : i = k - 1
  · subst he
    rw [if_pos rfl]
    refine ⟨b, o, pv, cv, rfl, hFb, ?_, ho 1 _ (by omega) c1, World.cell?_setCell_same (w := w) (a := ⟨b, o + (k - 1) * 5 + 2, none⟩) (v := cv) c2, ?_, ho 4 _ (by omega) c4, hpar, hc, h3, h4, h5⟩
    · exact ho 0 _ (by omega) c0
    · exact ho 3 _ (by omega) c3
  · rw [if_neg he]
    exact ⟨b, o, pv, cv0, rfl, hFb, ho 0 _ (by omega) c0, ho 1 _ (by omega) c1, ho 2 _ (by omega) c2, ho 3 _ (by omega) c3, ho 4 _ (by omega) c4, hpar, hcod, h3, h4, h5⟩
theorem rdFuncs_block {g : Nat → Prop} {w : World} {b o n c i : Nat} {l : List FuncD} {x : FuncD} (h : RdFuncs (some g) w (.slice (some ⟨b, o, none⟩) n c) l) (hx : l[i]? = some x) : g b := by
  obtain ⟨a, c', e, _, hr⟩ := h
  simp only [Value.slice.injEq] at e
  obtain ⟨rfl, -, -⟩ := e
  obtain ⟨b', o', pv, cv, e, hf, -⟩ := hr i x hx
  simp only [Option.some.injEq, Addr.mk.injEq, and_true] at e
  obtain ⟨rfl, -⟩ := e
  exact (hf g rfl).1
theorem ok_callT (lo : Option (Nat → Prop)) (w : World) (q : Nat) : RdInstr lo w (callT q) (.slice none 0 0) :=
  ⟨rdArgs_nil _ _, by simp [callT, ins]; decide, by simp [callT, ins]; decide, by simp [callT, ins]; decide, by simp [callT, ins]; decide, by simp [callT, ins]; decide, cName_size q⟩
theorem rdStrs_none (w : World) (a : Option Addr) (c : Nat) : RdStrs none w (.slice a 0 c) [] := ⟨a, c, rfl, by simp, fun i s h => by simp at h⟩
theorem rdArrs_none (w : World) (a : Option Addr) (c : Nat) : RdArrs none w (.slice a 0 c) [] := ⟨a, c, rfl, by simp, fun i s h => by simp at h⟩
theorem rdInstrs_none (w : World) (a : Option Addr) (c : Nat) : RdInstrs none w (.slice a 0 c) [] := ⟨a, c, rfl, by simp, fun i s h => by simp at h⟩
end Go.Proofs.YtjdbdoeopobciaaDoor
