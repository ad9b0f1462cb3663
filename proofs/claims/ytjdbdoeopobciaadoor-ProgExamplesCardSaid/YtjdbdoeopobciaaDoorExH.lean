/- What the walk of ProgExamples needs besides: a region that draws whose writers leave one block, strings of two bytes, rows of instructions that are filled in place, and what the check says of long programs. No condition of its own. -/
import Derived.Test.YtjdbdoeopobciaaDoorOne
import Derived.Test.YtjdbdoeopobciaaDoorOwn
set_option linter.unnecessarySimpa false
set_option linter.unusedVariables false
set_option linter.unusedSimpArgs false
namespace Go.Proofs.YtjdbdoeopobciaaDoor
open Go.ChangeShapes Go.WideShapes Go.ChangeAt Go.RowKit
open Classical in
/-- Some world in which the block b is as in W. -/
noncomputable def keepB (W : World) (b : Nat) (x : World) : World := if x.heap[b]? = W.heap[b]? then x else W
theorem keepB_is (W : World) (b : Nat) (x : World) : (keepB W b x).heap[b]? = W.heap[b]? := by
  unfold keepB
  split
  · assumption
  · rfl
theorem keepB_of {W x : World} {b : Nat} (h : x.heap[b]? = W.heap[b]?) : x = keepB W b x := by unfold keepB; rw [if_pos h]
theorem keepB_cell {W : World} {b o : Nat} {v : Value} (h : W.cell? ⟨b, o, none⟩ = some v) (x : World) : (keepB W b x).cell? ⟨b, o, none⟩ = some v := (World.cell?_of_block (keepB_is W b x)).trans h
theorem wp_region_mixK {P : Program} {Q : Exit → Act → World → Prop} (b : Nat) {id : Nat} {a : Act} {w : World} {l : List Oper} (t : Mix) (E : Nat → Bool) (hm : P.follows .mixedOrders = true) (hs : Region.noSelect l.toArray = true)
    (hl : t.size = l.length) (hok : mixOk .any l.toArray E t (Array.replicate l.length false) = true)
    (hQ : ∀ c (d : Option Tmp) v a w, Q (.panic c) (a.put d v) w → Q (.panic c) a w)
    (h : mixRun P l.toArray Q (fun w' => ∃ x, w' = keepB w b x) E t a w.drew) : (Code.region id l.toArray true).wp P Q a w := by
  refine wp_region_any hm (any_of_G (H := fun w' => ∃ x, w' = keepB w b x) (E := E) _ _ _ _ ?_)
  have := anyG_of_mix (md := .any) (C := fun w' => ∃ x, w' = keepB w b x) (Q := Q) (E := E) hs hQ t (Array.replicate l.length false) a w.drew (Closed.start _) hok h
  rw [hl] at this
  simpa using this
theorem mix_both {P : Program} {ops : Array Oper} {Q : Exit → Act → World → Prop} {C : World → Prop} {E : Nat → Bool} {j m : Nat} {k t : Mix} {w : World} {a : Act}
    (h1 : wpOp P ops Q j (fun a'' w'' => (E j = false → C w'') ∧ mixRun P ops Q C E k a'' w'') a w) (h2 : wpOp P ops Q m (fun a'' w'' => (E m = false → C w'') ∧ mixRun P ops Q C E t a'' w'') a w) : mixRun P ops Q C E (.two [] j m k t) a w := ⟨h1, h2⟩
theorem many_of {w : World} {g : Nat} {xs : List Value} {T : TypeId} (h : w.heap[g]? = some (.cells xs.toArray T (0, 0))) : ∀ j u, xs[j]? = some u → w.cell? ((⟨g, 0, none⟩ : Addr).add j) = some u := by
  intro j u hj
  have e : (⟨g, 0, none⟩ : Addr).add j = ⟨g, j, none⟩ := by simp [Addr.add]; omega
  rw [e]
  exact row_of h j u (by simpa using hj)
theorem conv2 (w : World) (g : Nat) (a b : Int) (ha : 0 ≤ a ∧ a ≤ 255) (hb : 0 ≤ b ∧ b ≤ 255) (hg : w.heap[g]? = some (.cells #[.int .u8 a, .int .u8 b] 5 (0, 0))) : (convert 48 9 (.slice (some ⟨g, 0, none⟩) 2 2)).run Tryd.prog w = .ok (.string (bs [UInt8.ofNat a.toNat, UInt8.ofNat b.toNat])) w :=
  run_convert_bytes_back w 48 9 5 ⟨g, 0, none⟩ 2 [UInt8.ofNat a.toNat, UInt8.ofNat b.toNat] (by kernel_rfl) (by kernel_rfl) (by kernel_rfl) (fun j hj => by
    have hj' : j < 2 := by simpa using hj
    match j, hj' with
    | 0, _ =>
      have e : ([UInt8.ofNat a.toNat, UInt8.ofNat b.toNat][0].toNat : Int) = a := by simp; omega
      rw [e]; exact row_of hg 0 _ rfl
    | 1, _ =>
      have e : ([UInt8.ofNat a.toNat, UInt8.ofNat b.toNat][1].toNat : Int) = b := by simp; omega
      rw [e]; exact row_of hg 1 _ rfl)
theorem n_size (a b : UInt8) : ((⟨#[110]⟩ : ByteArray) ++ bs [a, b]).size ≤ 3 := by
  rw [ByteArray.size_append]
  show 1 + 2 ≤ 3
  omega
/-- A row stays behind an append to a row of another type. -/
theorem own_other {w w' : World} {base base' : Nat} {e e' : TypeId} {size size' : Nat} {v u : Value} {n m : Nat} {xs ys : List Value} (h : w.ownsRow base e size v n xs) (k : w.ownsRow base' e' size' u m ys) (he : e ≠ e') (hg : w.grownBy w' u.ownBlock) : w'.ownsRow base e size v n xs :=
  own_turn h (Turned.of_grown hg (fun b hb => hb)) (fun j hj hs => by
    obtain ⟨_, c1, h1⟩ := own_is h hj
    exact own_ne_cells k h1 he hs)
theorem flat_put {α : Type} (f : α → List Value) (sz : Nat) (hf : ∀ x, (f x).length = sz) (A B : List α) (z h : α) (v : Value) (r r' : List Value) (hz : f z = v :: r) (v1 : Value) (hh : f h = v1 :: r) :
    ((A ++ z :: B).flatMap f).toArray.setIfInBounds (A.length * sz) v1 = ((A ++ h :: B).flatMap f).toArray := by
  have hA : (A.flatMap f).length = A.length * sz := flat_length f sz hf A
  rw [List.setIfInBounds_toArray, List.flatMap_append, List.flatMap_append, List.flatMap_cons, List.flatMap_cons, hz, hh, ← hA, List.set_append_right _ _ (Nat.le_refl _), Nat.sub_self]
  rfl
theorem made_flat (p : InstrD × Value) (n : Nat) : (madeCells (insCells p).toArray (n * 7)).toList = (List.replicate n p).flatMap insCells := by
  have hlen : ((List.replicate n p).flatMap insCells).length = n * 7 := by rw [flat_length insCells 7 (fun _ => rfl), List.length_replicate]
  apply List.ext_getElem?
  intro j
  by_cases hj : j < n * 7
  · have h1 : (List.replicate n p)[j / 7]? = some p := by rw [List.getElem?_replicate, if_pos (by omega)]
    have h2 := flat_get insCells 7 (fun _ => rfl) (List.replicate n p) (j / 7) (j % 7) p h1 (by omega)
    have h3 : j / 7 * 7 + j % 7 = j := by omega
    rw [h3] at h2
    rw [h2]
    have h4 : j % 7 < 7 := by omega
    have h5 : (madeCells (insCells p).toArray (n * 7)).toList[j]? = some ((insCells p).toArray[j % 7]!) := by
      rw [Array.getElem?_toList]
      unfold madeCells
      simp [hj, insCells]
    rw [h5]
    generalize j % 7 = r at *
    match r, h4 with
    | 0, _ | 1, _ | 2, _ | 3, _ | 4, _ | 5, _ | 6, _ => rfl
  · rw [List.getElem?_eq_none (l := (madeCells (insCells p).toArray (n * 7)).toList) (by rw [Array.length_toList, size_madeCells]; omega), List.getElem?_eq_none (l := (List.replicate n p).flatMap insCells) (by rw [hlen]; omega)]
theorem own_of {w : World} {base g n size : Nat} {e : TypeId} {xs : List Value} (hg : w.heap[g]? = some (.cells xs.toArray e (0, 0))) (hb : base ≤ g) (hl : xs.length = n * size) (hn : n ≤ maxLen) : w.ownsRow base e size (.slice (some ⟨g, 0, none⟩) n n) n xs :=
  ⟨hl, .inr ⟨g, n, xs.toArray, rfl, hb, hg, Nat.le_refl _, hn, by simpa using hl, by show List.take (n * size) xs = xs; exact List.take_of_length_le (Nat.le_of_eq hl)⟩⟩
theorem own_full {w : World} {base g n size : Nat} {e : TypeId} {xs : List Value} (h : w.ownsRow base e size (.slice (some ⟨g, 0, none⟩) n n) n xs) : w.heap[g]? = some (.cells xs.toArray e (0, 0)) := by
  obtain ⟨hl, ⟨h1, h2⟩ | ⟨g', cap, cur, h1, _, hb, _, _, hs, ht⟩⟩ := h
  · cases h1
  · simp only [Value.slice.injEq, Option.some.injEq, Addr.mk.injEq, and_true, true_and] at h1
    obtain ⟨rfl, rfl⟩ := h1
    rw [hb]
    have : xs = cur.toList := by
      rw [← ht, List.take_of_length_le]
      rw [Array.length_toList, hs, ← hl]
      exact Nat.le_refl _
    rw [this]
/-! ### long programs -/
def iHalt : InstrD := ⟨11, 0, ⟨#[]⟩, ⟨#[]⟩, [], 0, 0⟩
theorem halt_form : formB iHalt = true := by kernel_rfl
theorem halts_code (n : Nat) : codeF [] [] true [] (List.replicate n iHalt) = none := by
  unfold codeF
  refine (firstF_none _ _ _).2 fun d x r hd => ?_
  have hx : x = iHalt := by
    have : x ∈ List.replicate n iHalt := by rw [hd]; simp
    exact List.eq_of_mem_replicate this
  subst hx
  unfold instrF
  rw [halt_form]
  rfl
theorem halts_ok {n : Nat} (h : n ≤ 1024) : checkF (pMain (List.replicate n iHalt)) = none := by
  have h1 : instrsF [] [] true [] (List.replicate n iHalt) 0 0 = none := by
    unfold instrsF
    rw [halts_code, List.length_replicate, decide_eq_true h]; rfl
  have h2 : targetsF [] (labelsOf (List.replicate n iHalt)) (List.replicate n iHalt) = none := by
    unfold targetsF
    refine (firstF_none _ _ _).2 fun d x r hd => ?_
    have hx : x = iHalt := by
      have : x ∈ List.replicate n iHalt := by rw [hd]; simp
      exact List.eq_of_mem_replicate this
    subst hx
    rfl
  rw [check_plain rfl]
  show (none.or (none.or (none.or (none.or (none.or (none.or (none.or ((instrsF [] [] true [] (List.replicate n iHalt) 0 0).or (none.or (targetsF [] (labelsOf (List.replicate n iHalt)) (List.replicate n iHalt)))))))))) : Option FaultD) = none
  rw [h1, h2]; rfl
theorem halts_long {n : Nat} (h : 1024 < n) : checkF (pMain (List.replicate n iHalt)) = some ⟨0, 0, 5⟩ := by
  have h1 : instrsF [] [] true [] (List.replicate n iHalt) 0 0 = some ⟨0, 0, 5⟩ := by
    unfold instrsF
    rw [List.length_replicate, decide_eq_false (by omega)]; rfl
  rw [check_plain rfl]
  show (none.or (none.or (none.or (none.or (none.or (none.or (none.or ((instrsF [] [] true [] (List.replicate n iHalt) 0 0).or (none.or (targetsF [] (labelsOf (List.replicate n iHalt)) (List.replicate n iHalt)))))))))) : Option FaultD) = _
  rw [h1]; rfl
def zI : InstrD := ⟨0, 0, ⟨#[]⟩, ⟨#[]⟩, [], 0, 0⟩
/-- A row of 1024 instructions of which the first k are halts. -/
def haltsP (k : Nat) : List (InstrD × Value) := List.replicate k (iHalt, .slice none 0 0) ++ List.replicate (1024 - k) (zI, .slice none 0 0)
theorem haltsP_at {k : Nat} (h : k < 1024) : haltsP k = List.replicate k (iHalt, Value.slice none 0 0) ++ (zI, .slice none 0 0) :: List.replicate (1024 - (k + 1)) (zI, Value.slice none 0 0) := by
  unfold haltsP
  rw [show 1024 - k = (1024 - (k + 1)) + 1 by omega, List.replicate_succ]
theorem haltsP_next {k : Nat} (_h : k < 1024) : haltsP (k + 1) = List.replicate k (iHalt, Value.slice none 0 0) ++ (iHalt, .slice none 0 0) :: List.replicate (1024 - (k + 1)) (zI, Value.slice none 0 0) := by
  unfold haltsP
  rw [List.replicate_succ', List.append_assoc]; rfl
theorem haltsP_put {k : Nat} (h : k < 1024) : ((haltsP k).flatMap insCells).toArray.setIfInBounds (k * 7) (.int .u8 11) = ((haltsP (k + 1)).flatMap insCells).toArray := by
  have := flat_put insCells 7 (fun _ => rfl) (List.replicate k (iHalt, Value.slice none 0 0)) (List.replicate (1024 - (k + 1)) (zI, Value.slice none 0 0)) (zI, .slice none 0 0) (iHalt, .slice none 0 0) (.int .u8 0) _ [] rfl (.int .u8 11) rfl
  rw [List.length_replicate] at this
  rw [haltsP_at h, haltsP_next h, this]
theorem haltsP_len {k : Nat} (h : k ≤ 1024) : (haltsP k).length = 1024 := by unfold haltsP; rw [List.length_append, List.length_replicate, List.length_replicate]; omega
theorem haltsP_cell {k : Nat} (h : k < 1024) : ((haltsP k).flatMap insCells)[k * 7]? = some (.int .u8 0) := by
  have h1 : (haltsP k)[k]? = some (zI, .slice none 0 0) := by
    rw [haltsP_at h, List.getElem?_append_right (by rw [List.length_replicate]; exact Nat.le_refl _), List.length_replicate, Nat.sub_self]; rfl
  have := flat_get insCells 7 (fun _ => rfl) (haltsP k) k 0 _ h1 (by omega)
  rw [Nat.add_zero] at this
  rw [this]; rfl
theorem haltsP_end : haltsP 1024 = List.replicate 1024 (iHalt, Value.slice none 0 0) := by unfold haltsP; rw [Nat.sub_self, List.replicate_zero, List.append_nil]
theorem halt_rd (lo : Option (Nat → Prop)) (w : World) : RdInstr lo w iHalt (.slice none 0 0) :=
  ⟨rdArgs_nil _ _, (by show InU8 11; unfold InU8; omega), (by show InU8 0; unfold InU8; omega), (by show InI64 0; unfold InI64; omega), (by show InI64 0; unfold InI64; omega), (by show (ByteArray.mk #[]).size ≤ maxLen; decide), (by show (ByteArray.mk #[]).size ≤ maxLen; decide)⟩
theorem halts_rd {w : World} {base : Nat} {v : Value} {n : Nat} (hn : n ≤ 2000) (h : w.ownsRow base 43 7 v n ((List.replicate n (iHalt, Value.slice none 0 0)).flatMap insCells)) : RdInstrs none w v (List.replicate n iHalt) :=
  (own_instrs (P := List.replicate n (iHalt, Value.slice none 0 0)) (by rw [List.map_replicate]) (by rw [List.length_replicate]; exact h) (by rw [List.length_replicate]; omega) (fun p hp => by rw [List.eq_of_mem_replicate hp]; exact halt_rd _ _)).forget
end Go.Proofs.YtjdbdoeopobciaaDoor
