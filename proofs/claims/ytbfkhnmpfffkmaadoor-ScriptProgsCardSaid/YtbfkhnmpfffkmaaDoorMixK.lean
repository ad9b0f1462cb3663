/- A drawn region by segments, whose writers leave one block as it is. Plain lemmas over any program. -/
import Derived.Test.YtbfkhnmpfffkmaaDoorMix
import Derived.Test.YtbfkhnmpfffkmaaDoorOwn
set_option linter.unusedVariables false
set_option linter.unusedSimpArgs false
namespace Go.Proofs.YtbfkhnmpfffkmaaDoor
open Go.ChangeShapes Go.WideShapes Go.ChangeAt Go.RowKit
open Classical in
/-- Some world in which the block b is as in W. -/
noncomputable def keepB (W : World) (b : Nat) (x : World) : World := if x.heap[b]? = W.heap[b]? then x else W
theorem keepB_is (W : World) (b : Nat) (x : World) : (keepB W b x).heap[b]? = W.heap[b]? := by
  unfold keepB
  split
  · assumption
  · rfl
theorem keepB_of {W x : World} {b : Nat} (h : x.heap[b]? = W.heap[b]?) : x = keepB W b x := by unfold keepB; rw [if_pos h]
theorem keepB_cell {W : World} {b o : Nat} {v : Value} (h : W.cell? ⟨b, o, none⟩ = some v) (x : World) : (keepB W b x).cell? ⟨b, o, none⟩ = some v := (World.cell?_of_block (keepB_is W b x)).trans h
theorem wp_region_mixK {P : Program} {Q : Exit → Act → World → Prop} (b : Nat) {id : Nat} {a : Act} {w : World} {l : List Oper} (t : Mix) (E : Nat → Bool) (hm : P.follows .mixedOrders = true) (hs : Region.noSelect l.toArray = true)
    (hl : t.size = l.length) (hok : mixOk .any l.toArray E t (Array.replicate l.length false) = true)
    (hQ : ∀ c (d : Option Tmp) v a w, Q (.panic c) (a.put d v) w → Q (.panic c) a w)
    (h : mixRun P l.toArray Q (fun w' => ∃ x, w' = keepB w b x) E t a w.drew) : (Code.region id l.toArray true).wp P Q a w := by
  refine wp_region_any hm (any_of_G (H := fun w' => ∃ x, w' = keepB w b x) (E := E) _ _ _ _ ?_)
  have := anyG_of_mix (md := .any) (C := fun w' => ∃ x, w' = keepB w b x) (Q := Q) (E := E) hs hQ t (Array.replicate l.length false) a w.drew (Closed.start _) hok h
  rw [hl] at this
  simpa using this
theorem mix_both {P : Program} {ops : Array Oper} {Q : Exit → Act → World → Prop} {C : World → Prop} {E : Nat → Bool} {j m : Nat} {k t : Mix} {w : World} {a : Act}
    (h1 : wpOp P ops Q j (fun a'' w'' => (E j = false → C w'') ∧ mixRun P ops Q C E k a'' w'') a w) (h2 : wpOp P ops Q m (fun a'' w'' => (E m = false → C w'') ∧ mixRun P ops Q C E t a'' w'') a w) : mixRun P ops Q C E (.two [] j m k t) a w := ⟨h1, h2⟩
theorem many_of {w : World} {g : Nat} {xs : List Value} {T : TypeId} (h : w.heap[g]? = some (.cells xs.toArray T (0, 0))) : ∀ j u, xs[j]? = some u → w.cell? ((⟨g, 0, none⟩ : Addr).add j) = some u := by
  intro j u hj
  have e : (⟨g, 0, none⟩ : Addr).add j = ⟨g, j, none⟩ := by simp [Addr.add]; omega
  rw [e]
  exact row_of h j u (by simpa using hj)
open Classical in
/-- Some world in which the blocks of S are as in W. -/
noncomputable def keepS (W : World) (S : List Nat) (x : World) : World := if ∀ b ∈ S, x.heap[b]? = W.heap[b]? then x else W
theorem keepS_is (W : World) (S : List Nat) (x : World) : ∀ b ∈ S, (keepS W S x).heap[b]? = W.heap[b]? := by
  unfold keepS
  split
  · assumption
  · intro b _; rfl
theorem keepS_of {W x : World} {S : List Nat} (h : ∀ b ∈ S, x.heap[b]? = W.heap[b]?) : x = keepS W S x := by unfold keepS; rw [if_pos h]
theorem keepS_cell {W : World} {S : List Nat} {b o : Nat} {v : Value} (hb : b ∈ S) (h : W.cell? ⟨b, o, none⟩ = some v) (x : World) : (keepS W S x).cell? ⟨b, o, none⟩ = some v := (World.cell?_of_block (keepS_is W S x b hb)).trans h
theorem wp_region_mixS {P : Program} {Q : Exit → Act → World → Prop} (S : List Nat) {id : Nat} {a : Act} {w : World} {l : List Oper} (t : Mix) (E : Nat → Bool) (hm : P.follows .mixedOrders = true) (hs : Region.noSelect l.toArray = true)
    (hl : t.size = l.length) (hok : mixOk .any l.toArray E t (Array.replicate l.length false) = true)
    (hQ : ∀ c (d : Option Tmp) v a w, Q (.panic c) (a.put d v) w → Q (.panic c) a w)
    (h : mixRun P l.toArray Q (fun w' => ∃ x, w' = keepS w S x) E t a w.drew) : (Code.region id l.toArray true).wp P Q a w := by
  refine wp_region_any hm (any_of_G (H := fun w' => ∃ x, w' = keepS w S x) (E := E) _ _ _ _ ?_)
  have := anyG_of_mix (md := .any) (C := fun w' => ∃ x, w' = keepS w S x) (Q := Q) (E := E) hs hQ t (Array.replicate l.length false) a w.drew (Closed.start _) hok h
  rw [hl] at this
  simpa using this
end Go.Proofs.YtbfkhnmpfffkmaaDoor
