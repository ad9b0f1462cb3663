/- The contract of flat.Of: it returns the flat program of the plain model, in memory of its own. Conditions: the argument reads as a program, and the tables are laid. -/
import Derived.Test.YtgcfdbhpophnjaaDoorFlD
import Derived.Test.YtgcfdbhpophnjaaDoorFlE
import Derived.Test.YtgcfdbhpophnjaaDoorFlI
set_option linter.unusedVariables false
set_option linter.unusedSimpArgs false
set_option linter.unnecessarySimpa false
namespace Go.Proofs.YtgcfdbhpophnjaaDoor
open Go.Maps (Keyed string_keyed int_keyed)
open Go.WideShapes Go.ChangeMaps Go.MapKept Go.WideMaps Go.ChangeAt Go.RowKit Go.ChangeShapes
/-! ### the body, however deep -/
theorem body_any (m : MkS) (H : m.Ok) (hs : EnvF.Small m.E.p) (hkd : Kinds m.E.p) : ∀ n, n ≤ 101 → ∀ f : Int, (f = -1 ∨ ∃ g : Nat, f = g ∧ g < m.E.p.funcs.length) → EnvF.Fits m.E.p n f → BodyC m n f
  | 0, _, _, _, h => h.elim
  | n + 1, hn, f, hf, h => body_step m H hs hkd n (by omega) f h hf (fun g hg hfit => body_any m H hs hkd n (by omega) g (.inr ⟨g, rfl, hg⟩) hfit)
theorem kinds_of {lo : Option (Nat → Prop)} {w : World} {p : ProgD} {cv av fv mv : Value} (h : RdProg lo w p cv av fv mv) (hc : checkF p = none) : Kinds p := by
  intro f x hx
  obtain ⟨main, code, hw⟩ := wf_body (wfP_of hc) f x hx
  have h1 := formB_kind hw.form
  have h2 : InU8 x.kind := by
    rcases bodyF_cases p f with e | e | ⟨g, fd, _, e1, e⟩
    · rw [e] at hx
      obtain ⟨i, hi⟩ := List.getElem?_of_mem hx
      obtain ⟨_, _, _, _, hr⟩ := h.2.2.2.1
      obtain ⟨_, _, _, _, _, _, _, _, _, _, _, _, hri⟩ := hr i x hi
      exact hri.2.1
    · rw [e] at hx; cases hx
    · rw [e] at hx
      obtain ⟨i, hi⟩ := List.getElem?_of_mem hx
      obtain ⟨_, _, _, _, hr⟩ := h.2.2.1
      obtain ⟨_, _, _, _, _, _, _, _, _, _, _, hf⟩ := hr g fd e1
      obtain ⟨_, _, _, _, hr2⟩ := hf.2.1
      obtain ⟨_, _, _, _, _, _, _, _, _, _, _, _, hri⟩ := hr2 i x hi
      exact hri.2.1
  unfold InU8 at h2
  omega
theorem own_upF {w : World} {base base' : Nat} {e : TypeId} {size : Nat} {v : Value} {n : Nat} {xs : List Value} (h : w.ownsRow base e size v n xs) (hb : base' ≤ base) : w.ownsRow base' e size v n xs := by
  obtain ⟨hl, h | ⟨g, cap, cur, rfl, hg, hr⟩⟩ := h
  · exact ⟨hl, .inl h⟩
  · exact ⟨hl, .inr ⟨g, cap, cur, rfl, Nat.le_trans hb hg, hr⟩⟩
theorem row_of_strs {lo : Option (Nat → Prop)} {w : World} {v : Value} {l : List ByteArray} (h : RdStrs lo w v l) : RdRow kStr lo w v l := by
  obtain ⟨a, c, rfl, hl, hr⟩ := h
  refine ⟨a, c, rfl, hl, fun i s hs => ?_⟩
  obtain ⟨b, o, rfl, hf, h0, hz⟩ := hr i s hs
  refine ⟨b, o, rfl, hf, fun j u hj => ?_, hz⟩
  have hj0 : j = 0 := by
    have := (List.getElem?_eq_some_iff.1 hj).1
    have e : (kStr.cells s).length = 1 := rfl
    omega
  subst hj0
  have : u = .string s := (Option.some.inj hj).symm
  subst this
  show w.cell? ⟨b, o + i * 1 + 0, none⟩ = _
  rw [Nat.mul_one, Nat.add_zero]
  exact h0
theorem rowNil {α : Type} (K : Kind α) (lo : Option (Nat → Prop)) (w : World) : RdRow K lo w (.slice none 0 0) [] := ⟨none, 0, rfl, ⟨by simp, by simp⟩, fun i x h => by simp at h⟩
theorem rdFlat_zero (lo : Option (Nat → Prop)) (w : World) : RdFlat lo w zeroFlat (.slice none 0 0) (.slice none 0 0) (.slice none 0 0) (.slice none 0 0) := ⟨rowNil _ _ _, rowNil _ _ _, rowNil _ _ _, rowNil _ _ _, i64_0, i64_0⟩
theorem locals_main {p : ProgD} (hc : checkF p = none) : localsF p (-1) = (localsL [] p.main [], 0) := by
  unfold localsF
  rw [hc]
  simp only
  rw [if_neg (by omega), bodyF_main]
theorem locals_bad {p : ProgD} {F : FaultD} (hc : checkF p = some F) (f : Int) : localsF p f = ([], F.e) := by
  unfold localsF; rw [hc]
/-! ### the parts of the registers -/
theorem placesF_append : ∀ (l m : List FuncD) (i : Nat), placesF i (l ++ m) = placesF i l ++ placesF (i + l.length) m
  | [], m, i => by simp [placesF]
  | x :: r, m, i => by
    rw [List.cons_append, placesF, placesF, placesF_append r m (i + 1), List.append_assoc, List.length_cons, show i + 1 + r.length = i + (r.length + 1) from by omega]
theorem places_split {p : ProgD} {k : Nat} {x : FuncD} (h : p.funcs[k]? = some x) : ∃ rest, placesP p = (placesOf (-1) (localsL [] p.main []) ++ placesF 0 (p.funcs.take k)) ++ (funPlaces k x ++ rest) := by
  have hq := List.getElem?_eq_some_iff.1 h
  have e : p.funcs = p.funcs.take k ++ x :: p.funcs.drop (k + 1) := by rw [← hq.2, List.getElem_cons_drop, List.take_append_drop]
  have hl : (p.funcs.take k).length = k := by rw [List.length_take]; have := hq.1; omega
  refine ⟨placesF (k + 1) (p.funcs.drop (k + 1)), ?_⟩
  unfold placesP
  conv => lhs; rw [e]
  rw [placesF_append, hl, Nat.zero_add, placesF, List.append_assoc]
theorem codes_take {l : List FuncD} {k : Nat} {x : FuncD} (h : l[k]? = some x) : codesOf (l.take (k + 1)) = codesOf (l.take k) ++ x.code := by
  rw [List.take_add_one, h]
  unfold codesOf
  rw [List.flatMap_append]
  simp
theorem codes_len {p : ProgD} (hc : checkF p = none) : ∀ k, (codesOf (p.funcs.take k)).length ≤ k * 1024 := by
  intro k
  induction k with
  | zero => simp [codesOf]
  | succ k ih =>
    cases h : p.funcs[k]? with
    | none =>
      have e : p.funcs.take (k + 1) = p.funcs.take k := by rw [List.take_add_one, h]; simp
      rw [e]
      exact Nat.le_trans ih (Nat.mul_le_mul_right _ (Nat.le_succ _))
    | some x =>
      rw [codes_take h, List.length_append]
      have := ((check_none hc).2 x (List.mem_of_getElem? h)).2.1
      rw [Nat.succ_mul]
      omega
end Go.Proofs.YtgcfdbhpophnjaaDoor
