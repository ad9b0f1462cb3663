/- What the bound of a second form gives of a program that comes in: how long its functions are. Condition: none. -/
import Derived.Test.YtfdinncgncbmfaaGreatDoorOpq
set_option linter.unusedVariables false
set_option linter.unusedSimpArgs false
namespace Go.Proofs.YtfdinncgncbmfaaGreatDoor
open Go.ChangeShapes Go.WideShapes Go.ChangeAt Go.RowKit
theorem bulk_one {H : Type} (d : DataW H) : 1 ≤ Rows.uptoBulk d := by
  cases d with
  | lit l => cases l <;> simp [Rows.uptoBulk]
  | nil => simp [Rows.uptoBulk]
  | ptr d => simp [Rows.uptoBulk]
  | slice elems spare => simp [Rows.uptoBulk]
  | agg parts => simp [Rows.uptoBulk]
  | iface t d => simp [Rows.uptoBulk]
  | map entries => simp [Rows.uptoBulk]
  | held h => simp [Rows.uptoBulk]
theorem bulk_part {H : Type} {d : DataW H} {l : List (DataW H)} (h : d ∈ l) : Rows.uptoBulk d ≤ Rows.uptoBulkAll l := by
  induction l with
  | nil => cases h
  | cons x r ih =>
    simp only [Rows.uptoBulkAll]
    cases List.mem_cons.1 h with
    | inl e => subst e; omega
    | inr e => have := ih e; omega
theorem bulk_length {H : Type} (l : List (DataW H)) : l.length ≤ Rows.uptoBulkAll l := by
  induction l with
  | nil => simp [Rows.uptoBulkAll]
  | cons x r ih => have := bulk_one x; simp only [Rows.uptoBulkAll, List.length_cons]; omega
theorem bulk_bound {H : Type} {l : List (DataW H)} (hk : Rows.uptoSmall H l = true) : Rows.uptoBulkAll l ≤ 1048576 := of_decide_eq_true hk
section
variable {H : Type} {enc : TypeId × Value → H} {P : Program} {w : World} {base : Nat} {sp : Nat → Bool} {held : Bool} {fuel : Nat} {t : TypeId} {x : DataW H × List MemPlace}
theorem slice_bulk {e : TypeId} {v : Value} (ht : P.underlying t = some (.slice e)) (h : DataW.trod enc P w base sp held fuel t [v] = some x) : ∃ a len cap, v = .slice a len cap ∧ len ≤ Rows.uptoBulk x.1 := by
  rcases DataW.trod_slice ht h with ⟨hv, _⟩ | ⟨a, len, cap, elems, rest, n, _, hv, rfl, _, _, _, hl, _, _, _⟩
  · simp only [List.cons.injEq, and_true] at hv
    exact ⟨none, 0, 0, hv, Nat.zero_le _⟩
  · simp only [List.cons.injEq, and_true] at hv
    refine ⟨some a, len, cap, hv, ?_⟩
    have h1 := bulk_length (elems.map (·.1))
    rw [List.length_map] at h1
    simp only [Rows.uptoBulk]
    omega
theorem field_bulk {fs : Array Field} {row : List Value} (ht : P.underlying t = some (.struct fs)) (h : DataW.trod enc P w base sp held fuel t row = some x) (i : Nat) (ft : TypeId) (off c : Nat) (hf : (fs[i]?).map (fun f => (f.type, f.offset)) = some (ft, off)) (hc : P.cellsOf ft = c) :
    ∃ n z, DataW.trod enc P w base sp held n ft ((row.drop off).take c) = some z ∧ Rows.uptoBulk z.1 ≤ Rows.uptoBulk x.1 := by
  obtain ⟨xs, n, _, rfl, _, hl, hx⟩ := DataW.trod_struct ht h
  obtain ⟨f, hf1, hf2⟩ := Option.map_eq_some_iff.1 hf
  simp only [Prod.mk.injEq] at hf2
  obtain ⟨rfl, rfl⟩ := hf2
  have hi := (Array.getElem?_eq_some_iff.1 hf1).1
  obtain ⟨z, hz⟩ : ∃ z, xs[i]? = some z := ⟨_, List.getElem?_eq_getElem (by omega)⟩
  refine ⟨n, z, by rw [← hc, hx i f hf1, hz], ?_⟩
  have h1 := bulk_part (List.mem_map.2 ⟨z, List.mem_of_getElem? hz, rfl⟩ : z.1 ∈ xs.map (·.1))
  simp only [Rows.uptoBulk]
  omega
theorem rows_bulk {e : TypeId} {sz : Nat} {v : Value} (ht : P.underlying t = some (.slice e)) (hce : P.cellsOf e = sz) (h : DataW.trod enc P w base sp held fuel t [v] = some x) :
    ∃ (a : Option Addr) (len cap n : Nat), v = .slice a len cap ∧ ∀ i, i < len → ∃ ad row y, a = some ad ∧ row.length = sz ∧ (∀ j u, row[j]? = some u → w.cell? ((ad.add (i * sz)).add j) = some u) ∧ DataW.trod enc P w base sp held n e row = some y ∧ Rows.uptoBulk y.1 ≤ Rows.uptoBulk x.1 := by
  rcases DataW.trod_slice ht h with ⟨hv, _⟩ | ⟨a, len, cap, elems, rest, n, _, hv, rfl, _, _, _, hl, hel, _, _⟩
  · simp only [List.cons.injEq, and_true] at hv
    exact ⟨none, 0, 0, 0, hv, fun i hi => by omega⟩
  · simp only [List.cons.injEq, and_true] at hv
    refine ⟨some a, len, cap, n, hv, fun i hi => ?_⟩
    obtain ⟨y, hy⟩ : ∃ y, elems[i]? = some y := ⟨_, List.getElem?_eq_getElem (by omega)⟩
    have h1 := hel i hi
    rw [hy, hce, Option.bind_eq_some_iff] at h1
    obtain ⟨row, hr, htr⟩ := h1
    unfold World.cells? at hr
    split at hr
    · have hrl : row.length = sz := by simpa using Lib.mapM_length hr
      refine ⟨a, row, y, rfl, hrl, fun j u hu => ?_, htr, ?_⟩
      · have hj := (List.getElem?_eq_some_iff.1 hu).1
        have hrg : (List.range sz)[j]? = some j := List.getElem?_range (by omega)
        obtain ⟨b, hb, hf⟩ := Lib.mapM_at hr j j hrg
        rw [hu] at hb; cases hb; exact hf
      · have h2 := bulk_part (List.mem_map.2 ⟨y, List.mem_of_getElem? hy, rfl⟩ : y.1 ∈ elems.map (·.1))
        simp only [Rows.uptoBulk]
        omega
    · cases hr
end
section
variable {H : Type} {enc : TypeId × Value → H} {w : World} {base : Nat} {sp : Nat → Bool} {held : Bool} {fuel : Nat} {x : DataW H × List MemPlace}
theorem func_codes {v : Value} {l : List FuncD} (h : DataW.trod enc Tryz.prog w base sp held fuel 25 [v] = some x) (hr : RdFuncs none w v l) : ∀ f ∈ l, f.code.length ≤ Rows.uptoBulk x.1 := by
  intro f hf
  obtain ⟨i, hi⟩ := List.mem_iff_getElem?.1 hf
  have hil := (List.getElem?_eq_some_iff.1 hi).1
  obtain ⟨a, c, rfl, -, hr⟩ := hr
  obtain ⟨a', len, cap, n, hv, each⟩ := rows_bulk Tryz.underlying25 cFun h
  simp only [Value.slice.injEq] at hv
  obtain ⟨rfl, rfl, rfl⟩ := hv
  obtain ⟨b, o, pv, cv, rfl, -, -, -, q2, -, -, hfun⟩ := hr i f hi
  obtain ⟨ad, row, y, had, hrl, hc, ht2, hb⟩ := each i hil
  simp only [Option.some.injEq] at had
  subst had
  obtain ⟨n2, z2, h2, hb2⟩ := field_bulk Tryz.underlying56 ht2 2 26 2 1 rfl cLIns
  obtain ⟨cv', e2, e2'⟩ := one_cell (row := row) (off := 2) (by omega)
  rw [e2] at h2
  obtain ⟨a2, len2, cap2, rfl, hlen⟩ := slice_bulk Tryz.underlying26 h2
  have hq := hc 2 _ e2'
  rw [add_none, add_none, q2] at hq
  obtain ⟨a3, c3, rfl, -, -⟩ := hfun.2.1
  simp only [Option.some.injEq, Value.slice.injEq] at hq
  omega
theorem prog_codes {p : ProgD} {k cv av fv mv : Value} (h : DataW.trod enc Tryz.prog w base sp held fuel 28 (#[k, cv, av, fv, mv] : Array Value).toList = some x) (hr : RdProg none w p cv av fv mv) : ∀ f ∈ p.funcs, f.code.length ≤ Rows.uptoBulk x.1 := by
  obtain ⟨n3, z3, h3, hb3⟩ := field_bulk Tryz.underlying28 h 3 25 3 1 rfl cLFun
  have h4 := func_codes (v := fv) h3 hr.2.2.1
  exact fun f hf => Nat.le_trans (h4 f hf) hb3
end
end Go.Proofs.YtfdinncgncbmfaaGreatDoor
