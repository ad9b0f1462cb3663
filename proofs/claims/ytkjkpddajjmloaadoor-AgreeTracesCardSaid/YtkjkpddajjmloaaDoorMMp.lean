/- Plain lemmas on what New of the program lays: its inputs, its arrays, and the run before its first step. Conditions: where the parts lie. -/
import Derived.Test.YtkjkpddajjmloaaDoorMMm
set_option linter.unusedVariables false
set_option linter.unusedSimpArgs false
namespace Go.Proofs.YtkjkpddajjmloaaDoor
open Go.ChangeShapes Go.WideShapes Go.ChangeAt Go.RowKit
theorem RdRow.inside {α : Type} {K : Kind α} {n : Nat} {w : World} {v : Value} {l : List α} (h : RdRow K (some (upFrom n)) w v l) : RdRow K (some (within n w.heap.size)) w v l := RdRow.same h (fun _ _ _ => rfl) (fun _ hb hg => ⟨hg, hb⟩)
theorem Turn.below {B : Nat → Prop} {a w w' : World} (t : Turn B w w') (h : Below a.heap.size a w) (k : ∀ b, B b → a.heap.size ≤ b) : Below a.heap.size a w' :=
  ⟨t.os.trans h.os, t.tape.trans h.tape, t.output.trans h.output, Nat.le_trans h.size t.size, fun b hb => (t.block b (Nat.lt_of_lt_of_le hb h.size) (fun e => by have := k b e; omega)).trans (h.block b hb)⟩
theorem Turn.grownUp {B : Nat → Prop} {w w1 w' : World} {row : Option Nat} (h : Turn B w w1) (g : w1.grownBy w' row) (hr : ∀ b, row = some b → w.heap.size ≤ b) : Turn B w w' :=
  ⟨g.os.trans h.os, g.tape.trans h.tape, g.output.trans h.output, Nat.le_trans h.size g.size, fun b hb hB => (g.block b (Nat.lt_of_lt_of_le hb h.size) (fun e => by have := hr b e.symm; omega)).trans (h.block b hb hB)⟩
/-- The inputs that are laid so far: k of them, in memory from lo on. -/
def LaidIn (ib lo n : Nat) (L : List (List Int)) (k : Nat) (w : World) : Prop :=
  ∃ vs : List Value, vs.length = k ∧ w.heap[ib]? = some (.cells (vs ++ List.replicate (n - k) (Value.slice none 0 0)).toArray 54 (0, 0)) ∧ ∀ (j : Nat) (v : Value) (l : List Int), vs[j]? = some v → L[j]? = some l → RdRow kNum (some (within lo w.heap.size)) w v l
theorem LaidIn.step {ib lo n : Nat} {L : List (List Int)} {k : Nat} {w w1 : World} {v : Value} {l : List Int} (h : LaidIn ib lo n L k w) (hb : Below w.heap.size w w1) (hlo : ib < lo) (hlw : lo ≤ w.heap.size) (hk : k < n) (hl : L[k]? = some l) (hv : RdRow kNum (some (upFrom w.heap.size)) w1 v l) : LaidIn ib lo n L (k + 1) (w1.setCell ⟨ib, k, none⟩ v) := by
  obtain ⟨vs, rfl, hr, hx⟩ := h
  have hr1 := (hb.block _ (Array.getElem?_eq_some_iff.1 hr).1).trans hr
  have hoth : ∀ b, within lo w1.heap.size b → b < w1.heap.size → (w1.setCell ⟨ib, vs.length, none⟩ v).heap[b]? = w1.heap[b]? := fun b hb' _ => heap_setCell_other _ _ _ _ (by have := hb'.1; show b ≠ ib; omega)
  have hsz : (w1.setCell ⟨ib, vs.length, none⟩ v).heap.size = w1.heap.size := by simp
  refine ⟨vs ++ [v], by simp, ?_, ?_⟩
  · rw [heap_setCell_same _ _ _ _ _ _ hr1]
    congr 2
    obtain ⟨m, hm⟩ : ∃ m, n - vs.length = m + 1 := ⟨n - vs.length - 1, by omega⟩
    rw [show n - (vs.length + 1) = m by omega, hm, List.replicate_succ]
    simp
  · intro j u l' hj hl'
    rw [hsz]
    rw [List.getElem?_append] at hj
    split at hj
    · exact ((hx j u l' hj hl').keep hb).same (fun b hb' hlt => hoth b ⟨hb'.1, hlt⟩ hlt) (fun b hlt hb' => ⟨hb'.1, hlt⟩)
    · have hj0 : j = vs.length := by
        rcases Nat.lt_or_ge (j - vs.length) 1 with h1 | h1
        · omega
        · rw [List.getElem?_eq_none (by simpa using h1)] at hj; cases hj
      subst hj0
      simp only [Nat.sub_self, List.getElem?_cons_zero, Option.some.injEq] at hj
      subst hj
      rw [hl] at hl'
      cases hl'
      exact hv.same (fun b hb' hlt => hoth b ⟨by have : w.heap.size ≤ b := hb'; omega, hlt⟩ hlt) (fun b hlt hb' => ⟨by have : w.heap.size ≤ b := hb'; omega, hlt⟩)
/-- The arrays that are made so far: k of them, in the blocks bs, and the row of their slices. -/
structure MadeArr (lo : Nat) (A : List Int) (k : Nat) (w : World) (av : Value) (bs : List Nat) : Prop where
  len : bs.length = k
  own : w.ownsRow lo 54 1 av k ((bs.zip ((A.take k).map Int.toNat)).flatMap kSlc.cells)
  rows : ∀ (i : Nat) (b : Nat) (n : Int), bs[i]? = some b → A[i]? = some n → w.heap[b]? = some (.cells (u64s (List.replicate n.toNat 0)) 55 (0, 0))
  from_ : ∀ b ∈ bs, lo ≤ b
  nodup : bs.Nodup

/-- One more array is made, appended, and its row stored in the box. -/
theorem MadeArr.step {lo : Nat} {A : List Int} {k : Nat} {w w2 w4 : World} {av v' : Value} {bs : List Nat} (h : MadeArr lo A k w av bs) (hb : Below w.heap.size w w2) {x n : Nat} (hx0 : w.heap.size ≤ x) (hx : w2.heap[x]? = some (.cells (u64s (List.replicate n 0)) 55 (0, 0))) (hn : A[k]? = some (n : Int)) (hlo : lo ≤ w.heap.size)
    (hown : w4.ownsRow lo 54 1 v' (k + 1) (((bs.zip ((A.take k).map Int.toNat)).flatMap kSlc.cells) ++ kSlc.cells (x, n))) (hg : w2.grownBy w4 av.ownBlock) {bm : Nat} (hbm : bm < lo) (c : Nat) (u : Value) : MadeArr lo A (k + 1) (w4.setCell ⟨bm, c, none⟩ u) v' (bs ++ [x]) := by
  have hs : ∀ b, lo ≤ b → (w4.setCell ⟨bm, c, none⟩ u).heap[b]? = w4.heap[b]? := fun b hb' => heap_setCell_other _ _ _ _ (by show b ≠ bm; omega)
  have hk : ∀ b cs, w2.heap[b]? = some (.cells cs 55 (0, 0)) → lo ≤ b → (w4.setCell ⟨bm, c, none⟩ u).heap[b]? = some (.cells cs 55 (0, 0)) := fun b cs hb' hl => by
    rw [hs b hl, hg.block b (Array.getElem?_eq_some_iff.1 hb').1 (fun e => by obtain ⟨cs', hr⟩ := own_row (own_below h.own hb) e.symm; exact row_ne hb' hr (by decide) rfl)]; exact hb'
  refine ⟨by simp [h.len], ?_, ?_, ?_, ?_⟩
  · have e : ((bs ++ [x]).zip ((A.take (k + 1)).map Int.toNat)).flatMap kSlc.cells = ((bs.zip ((A.take k).map Int.toNat)).flatMap kSlc.cells) ++ kSlc.cells (x, n) := by
      rw [List.take_add_one, hn, List.map_append, List.zip_append]
      · simp
      · have := (List.getElem?_eq_some_iff.1 hn).1
        rw [h.len, List.length_map, List.length_take]; omega
    rw [e]
    exact own_same hown fun b hb' => hs b (own_row_le hown b hb')
  · intro i b m hi hm
    rw [List.getElem?_append] at hi
    split at hi
    · exact hk b _ ((hb.block b (Array.getElem?_eq_some_iff.1 (h.rows i b m hi hm)).1).trans (h.rows i b m hi hm)) (h.from_ b (List.mem_of_getElem? hi))
    · have hj : i = bs.length := by
        rcases Nat.lt_or_ge (i - bs.length) 1 with h1 | h1
        · omega
        · rw [List.getElem?_eq_none (by simpa using h1)] at hi; cases hi
      subst hj
      simp only [Nat.sub_self, List.getElem?_cons_zero, Option.some.injEq] at hi
      subst hi
      rw [h.len, hn] at hm
      cases hm
      exact hk x _ hx (by omega)
  · intro b hb'
    rcases List.mem_append.1 hb' with h1 | h1
    · exact h.from_ b h1
    · simp at h1; omega
  · rw [List.nodup_append]
    refine ⟨h.nodup, by simp, fun a ha b hb' e => ?_⟩
    simp only [List.mem_singleton] at hb'
    obtain ⟨i, hi⟩ := List.getElem?_of_mem ha
    have hil : i < A.length := by have := (List.getElem?_eq_some_iff.1 hi).1; have := h.len; have := (List.getElem?_eq_some_iff.1 hn).1; omega
    have := (Array.getElem?_eq_some_iff.1 (h.rows i a _ hi (List.getElem?_eq_getElem hil))).1
    omega
/-- A row that is one's own reads through its own block. -/
theorem own_block {α : Type} {K : Kind α} {w : World} {base : Nat} {v : Value} {l : List α} (h : w.ownsRow base K.T K.sz v l.length (l.flatMap K.cells)) (hl : l.length * K.bytes ≤ 140737488351232) (hs : ∀ s ∈ l, K.ok s) : RdRow K (some fun b => v.ownBlock = some b) w v l := by
  obtain ⟨a, c, rfl, hc, hr⟩ := own_rows h hl hs
  refine ⟨a, c, rfl, hc, fun i x hx => ?_⟩
  obtain ⟨b, o, rfl, hf, h0, hz⟩ := hr i x hx
  obtain ⟨g1, cs, g2⟩ := hf _ rfl
  exact ⟨b, o, rfl, Free.of rfl g2, h0, hz⟩
/-- The run before its first step. -/
theorem new_at {W : World} {f : FlatD} {L : List (List Int)} {c8 c9 c10 kv av : Value} {bs : List Nat} {vs : List Value} {a s2 s3 s8 s9 gb ib db bm rg : Nat} (hC : RdRow kCode (some (within s2 s3)) W kv f.code)
    (hib : W.heap[ib]? = some (.cells (vs ++ List.replicate (f.chans.length - L.length) (Value.slice none 0 0)).toArray 54 (0, 0))) (hvl : vs.length = L.length) (hn : L.length ≤ f.chans.length) (hcl : f.chans.length ≤ 1000000)
    (hvs : ∀ (j : Nat) (v : Value) (l : List Int), vs[j]? = some v → L[j]? = some l → RdRow kNum (some (within s8 s9)) W v l)
    (hg : W.heap[gb]? = some (.cells (u64s (List.replicate rg 0)) 55 (0, 0))) (hrg : f.regs.toNat = rg) (hd : W.heap[db]? = some (.cells (i64s (List.replicate f.chans.length 0)) 3 (0, 0)))
    (hm : MadeArr s9 f.arrays f.arrays.length W av bs) (hal : f.arrays.length ≤ 1000000)
    (hb : W.heap[bm]? = some (.cells #[.int .u8 2, .int .i64 0, .slice none 0 0, .slice none 0 0, .slice none 0 0, .slice (some ⟨db, 0, none⟩) f.chans.length f.chans.length, .int .i64 f.width, .int .i64 f.regs, c8, c9, c10, kv, .slice (some ⟨ib, 0, none⟩) f.chans.length f.chans.length, .slice (some ⟨gb, 0, none⟩) rg rg, av, .int .i64 0, .bool false] 141 (0, 0)))
    (h1 : a ≤ s2) (h2 : s2 ≤ s3) (h3 : s3 ≤ gb ∧ s3 ≤ ib ∧ s3 ≤ db ∧ s3 ≤ bm) (h8 : gb < s8 ∧ ib < s8 ∧ db < s8 ∧ bm < s8) (h9 : s8 ≤ s9) (h10 : s9 ≤ W.heap.size) :
    MachIn (fun b => a ≤ b ∧ b < W.heap.size) W bm f (L ++ List.replicate (f.chans.length - L.length) []) (newM f) := by
  subst hrg
  have hown := fun b (e : av.ownBlock = some b) => And.intro (own_row_le hm.own b e) (own_lt hm.own b e)
  have hnb : ∀ b ∈ bs, (s9 ≤ b ∧ b < W.heap.size) ∧ av.ownBlock ≠ some b := by
    intro b hb'
    obtain ⟨i, hi⟩ := List.getElem?_of_mem hb'
    have hil : i < f.arrays.length := by have := (List.getElem?_eq_some_iff.1 hi).1; have := hm.len; omega
    have hr := hm.rows i b _ hi (List.getElem?_eq_getElem hil)
    exact ⟨⟨hm.from_ b hb', (Array.getElem?_eq_some_iff.1 hr).1⟩, fun e => by obtain ⟨cs', hr'⟩ := own_row hm.own e; exact row_ne hr hr' (by decide) rfl⟩
  have hlt := (Array.getElem?_eq_some_iff.1 hib).1
  have hlen : (newM f).arrs.length = f.arrays.length := by simp [newM]
  refine ⟨fun b => within s2 s3 b ∨ b = ib ∨ within s8 s9 b ∨ av.ownBlock = some b, c8, c9, c10, kv, .slice (some ⟨ib, 0, none⟩) f.chans.length f.chans.length, av, .slice none 0 0, .slice none 0 0, .slice none 0 0, gb, db, bs, ?_, ?_, ?_⟩
  · refine ⟨?_, ?_, ?_, ?_, ?_, ?_, ?_, ?_, ?_, ?_, World.ownsRow_nil _ _ _ _, World.ownsRow_nil _ _ _ _, World.ownsRow_nil _ _ _ _, ?_⟩
    · rintro b (⟨k1, k2⟩ | rfl | ⟨k1, k2⟩ | e)
      · exact ⟨by omega, by omega⟩
      · exact ⟨by omega, by omega⟩
      · exact ⟨by omega, by omega⟩
      · have := hown b e; exact ⟨by omega, by omega⟩
    · exact hC.same (fun _ _ _ => rfl) (fun b _ hb' => .inl hb')
    · refine ⟨some ⟨ib, 0, none⟩, f.chans.length, ?_, ?_, fun i l hl => ?_⟩
      · rw [show (L ++ List.replicate (f.chans.length - L.length) ([] : List Int)).length = f.chans.length by simp; omega]
      · simp; omega
      · have hil := (List.getElem?_eq_some_iff.1 hl).1
        simp only [List.length_append, List.length_replicate] at hil
        refine ⟨ib, 0, (vs ++ List.replicate (f.chans.length - L.length) (Value.slice none 0 0)).getD i (.slice none 0 0), rfl, Free.of (.inr (.inl rfl)) hib, ?_, ?_⟩
        · refine row_of hib (0 + i) _ ?_
          rw [Nat.zero_add, List.getElem?_toArray, List.getD_eq_getElem?_getD, List.getElem?_eq_getElem (by simp; omega)]; rfl
        · rw [List.getElem?_append] at hl
          rw [List.getD_eq_getElem?_getD, List.getElem?_append]
          split at hl
          · rename_i hc
            rw [if_pos (by omega), List.getElem?_eq_getElem (by omega)]
            exact (hvs i _ l (List.getElem?_eq_getElem (by omega)) hl).same (fun _ _ _ => rfl) (fun b _ hb' => .inr (.inr (.inl hb')))
          · rename_i hc
            rw [List.getElem?_replicate] at hl
            split at hl
            · cases hl
              rw [if_neg (by omega), List.getElem?_replicate, if_pos (by omega)]
              exact ⟨none, 0, rfl, ⟨by simp, by simp⟩, fun i x hx => by simp at hx⟩
            · cases hl
    · exact hg
    · exact hd
    · have he : (newM f).arrs.map List.length = (f.arrays.take f.arrays.length).map Int.toNat := by
        rw [List.take_length]; simp [newM, Function.comp_def]
      rw [he]
      have hz : (bs.zip ((f.arrays.take f.arrays.length).map Int.toNat)).length = f.arrays.length := by simp [hm.len]
      have hmo := hm.own
      rw [← hz] at hmo
      refine (own_block (K := kSlc) (base := s9) ?_ (by rw [hz]; show f.arrays.length * 24 ≤ _; omega) (fun _ _ => trivial)).same (fun _ _ _ => rfl) (fun b _ hb' => .inr (.inr (.inr hb')))
      rw [hz] at hmo ⊢
      exact hmo
    · intro i b l hi hl
      simp only [newM, List.getElem?_map, Option.map_eq_some_iff] at hl
      obtain ⟨n, hn', rfl⟩ := hl
      exact hm.rows i b n hi hn'
    · rw [hlen, hm.len]
    · exact List.nodup_cons.2 ⟨fun hb' => by have := (hnb gb hb').1.1; omega, hm.nodup⟩
    · refine ⟨⟨by omega, (Array.getElem?_eq_some_iff.1 hg).1⟩, ?_, ⟨by omega, (Array.getElem?_eq_some_iff.1 hd).1⟩, ?_, fun b hb' => ⟨⟨by have := (hnb b hb').1; omega, (hnb b hb').1.2⟩, ?_⟩⟩
      · rintro (⟨k1, k2⟩ | e | ⟨k1, k2⟩ | e)
        · omega
        · exact row_ne hg hib (by decide) e
        · omega
        · have := hown _ e; omega
      · rintro (⟨k1, k2⟩ | e | ⟨k1, k2⟩ | e)
        · omega
        · exact row_ne hd hib (by decide) e
        · omega
        · have := hown _ e; omega
      · have := hnb b hb'
        rintro (⟨k1, k2⟩ | e | ⟨k1, k2⟩ | e)
        · omega
        · omega
        · omega
        · exact this.2 e
    · exact ⟨fun b e => by simp [Value.ownBlock] at e, fun b e => by simp [Value.ownBlock] at e, fun b e => by simp [Value.ownBlock] at e⟩
  · rw [hb]; simp [cellsP, newM]
  · refine ⟨⟨by omega, (Array.getElem?_eq_some_iff.1 hb).1⟩, ?_⟩
    rintro (⟨k1, k2⟩ | e | ⟨k1, k2⟩ | e)
    · omega
    · exact row_ne hb hib (by decide) e
    · omega
    · have := hown _ e; omega
end Go.Proofs.YtkjkpddajjmloaaDoor
