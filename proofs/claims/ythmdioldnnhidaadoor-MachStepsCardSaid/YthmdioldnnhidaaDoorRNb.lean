/- Contract of the reference's New where the flat program is not valid or there are too many inputs: nil and the fault. Condition: what comes in reads as the flat program. Plain lemma: the reference's run before its first step. Conditions: where the parts lie. -/
import Derived.Test.YthmdioldnnhidaaDoorRMc
import Derived.Test.YthmdioldnnhidaaDoorMRc
import Derived.Test.YthmdioldnnhidaaDoorLMd
import Derived.Test.YthmdioldnnhidaaDoorMMp
import Derived.Test.YthmdioldnnhidaaDoorKMb
set_option linter.unnecessarySimpa false
set_option linter.unusedVariables false
set_option linter.unusedSimpArgs false
namespace Go.Proofs.YthmdioldnnhidaaDoor
open Go.ChangeShapes Go.WideShapes Go.ChangeAt Go.RowKit
set_option maxRecDepth 100000 in
set_option maxHeartbeats 1600000 in
theorem refNewBad (f : FlatD) (cv sv av kv : Value) (ia : Option Addr) (n ic : Nat) (w : World) (hF : RdFlat none w f cv sv av kv) (hn : n ≤ 1000000) (hb : flatOk f = false ∨ f.chans.length < n) :
    Calls Tryd.prog 14 #[flatV f cv sv av kv, .slice ia n ic] w fun e w' => e = .returned (.tuple #[.pointer none, .int .i64 (if flatOk f then 5 else 2)]) ∧ Below w.heap.size w w' := by
  obtain ⟨r, hr⟩ : ∃ r : Int, (if flatOk f = true then (5 : Int) else 2) = r := ⟨_, rfl⟩
  rw [hr]
  obtain ⟨ca, cc, rfl⟩ := hF.1.is
  obtain ⟨sa, sc, rfl⟩ := hF.2.1.is
  obtain ⟨aa, ac, rfl⟩ := hF.2.2.1.is
  obtain ⟨ka, kc, rfl⟩ := hF.2.2.2.1.is
  have hcl : f.chans.length * 16 ≤ 140737488351232 := hF.1.size
  have hal := (Below.refl w.heap.size w).alloc (Nat.le_refl _) (.cells #[.int .i64 f.width, .int .i64 f.regs, .slice ca f.chans.length cc, .slice sa f.sites.length sc, .slice aa f.arrays.length ac, .slice ka f.code.length kc] 26)
  have hg := heap_alloc_new w (.cells #[.int .i64 f.width, .int .i64 f.regs, .slice ca f.chans.length cc, .slice sa f.sites.length sc, .slice aa f.arrays.length ac, .slice ka f.code.length kc] 26)
  have HF := Lib.hid (hF.keep hal)
  clear hF
  go_enter Tryd.func14, Tryd.ntmps14
  go_upto_region 1 with fail
  have HB := Lib.hid hal
  have HG := Lib.hid hg
  have y0 := row_of hg 0 (.int .i64 f.width) rfl
  have y1 := row_of hg 1 (.int .i64 f.regs) rfl
  have y2 := row_of hg 2 (.slice ca f.chans.length cc) rfl
  have y3 := row_of hg 3 (.slice sa f.sites.length sc) rfl
  have y4 := row_of hg 4 (.slice aa f.arrays.length ac) rfl
  have y5 := row_of hg 5 (.slice ka f.code.length kc) rfl
  clear hal hg
  generalize w.alloc (.cells #[.int .i64 f.width, .int .i64 f.regs, .slice ca f.chans.length cc, .slice sa f.sites.length sc, .slice aa f.arrays.length ac, .slice ka f.code.length kc] 26) = W at *
  have HC := Lib.hid (refCheck f _ _ _ _ W HF.out)
  cases hok : flatOk f <;> rw [hok] at hr
  · have he : flatE f = 2 := by rw [flatE, hok]; rfl
    rw [he] at HC
    obtain rfl : r = 2 := hr.symm
    clear he hok hb hr
    go_wp2_with (go_at_call 37; refine HC.out.mono ?_; rintro e w2 ⟨rfl, hb2⟩)
    go_ret2
    exact ⟨rfl, bcomp HB.out hb2⟩
  · have he : flatE f = 0 := by rw [flatE, hok]; rfl
    rw [he] at HC
    have hlt : (f.chans.length : Int) < (n : Int) := by rcases hb with h | h; exact absurd hok (by rw [h]; decide); omega
    obtain rfl : r = 5 := hr.symm
    clear he hok hb hr
    go_upto_region 4 with (go_at_call 37; refine HC.out.mono ?_; rintro e w2 ⟨rfl, hb2⟩)
    have z2 := cell_keep hb2 y2
    clear y2
    go_wp2
    go_ret2
    exact ⟨rfl, bcomp HB.out hb2⟩
open Go.ChangeShapes Go.WideShapes Go.ChangeAt Go.RowKit
theorem ref_new_at {W : World} {f : FlatD} {L : List (List Int)} {c2 c3 c4 kv iv av : Value} {bs : List Nat} {a l1 h1 l3 h3 s9 gb db bm rg : Nat} (hF : RdFlat (some (within l1 h1)) W f c2 c3 c4 kv) (hI : RdLists (some (within l3 h3)) W iv L)
    (hg : W.heap[gb]? = some (.cells (u64s (List.replicate rg 0)) 40 (0, 0))) (hrg : f.regs.toNat = rg) (hd : W.heap[db]? = some (.cells (i64s (List.replicate f.chans.length 0)) 3 (0, 0)))
    (hm : MadeArr s9 f.arrays f.arrays.length W av bs) (hal : f.arrays.length ≤ 1000000)
    (hb : W.heap[bm]? = some (.cells #[.int .i64 f.width, .int .i64 f.regs, c2, c3, c4, kv, iv, .slice (some ⟨gb, 0, none⟩) rg rg, av, .int .i64 0, .int .u8 2, .int .i64 0, .slice none 0 0, .slice none 0 0, .slice none 0 0, .slice (some ⟨db, 0, none⟩) f.chans.length f.chans.length] 53 (0, 0)))
    (hl : a ≤ l1 ∧ h1 ≤ s9 ∧ a ≤ l3 ∧ h3 ≤ s9) (hgb : a ≤ gb ∧ gb < s9 ∧ ¬ within l1 h1 gb ∧ ¬ within l3 h3 gb) (hbm : a ≤ bm ∧ bm < s9 ∧ ¬ within l1 h1 bm ∧ ¬ within l3 h3 bm) (hdb : s9 ≤ db) (ha9 : a ≤ s9) (h10 : s9 ≤ W.heap.size) :
    RefIn0 (fun b => a ≤ b ∧ b < W.heap.size) W bm f L (newM f) := by
  subst hrg
  have hown := fun b (e : av.ownBlock = some b) => And.intro (own_row_le hm.own b e) (own_lt hm.own b e)
  have hnb : ∀ b ∈ bs, (s9 ≤ b ∧ b < W.heap.size) ∧ av.ownBlock ≠ some b := by
    intro b hb'
    obtain ⟨i, hi⟩ := List.getElem?_of_mem hb'
    have hil : i < f.arrays.length := by have := (List.getElem?_eq_some_iff.1 hi).1; have := hm.len; omega
    have hr := hm.rows i b _ hi (List.getElem?_eq_getElem hil)
    exact ⟨⟨hm.from_ b hb', (Array.getElem?_eq_some_iff.1 hr).1⟩, fun e => by obtain ⟨cs', hr'⟩ := own_row hm.own e; exact row_ne hr hr' (by decide) rfl⟩
  have hlen : (newM f).arrs.length = f.arrays.length := by simp [newM]
  have hdlt := (Array.getElem?_eq_some_iff.1 hd).1
  refine ⟨fun b => within l1 h1 b ∨ within l3 h3 b ∨ av.ownBlock = some b, c2, c3, c4, kv, iv, av, .slice none 0 0, .slice none 0 0, .slice none 0 0, gb, db, bs, ?_, ?_, ?_, ?_⟩
  · refine ⟨?_, hF.2.2.2.1.same (fun _ _ _ => rfl) (fun b _ hb' => .inl hb'), hI.same (fun _ _ _ => rfl) (fun b _ hb' => .inr (.inl hb')), hg, hd, ?_, ?_, ?_, ?_, ?_, World.ownsRow_nil _ _ _ _, World.ownsRow_nil _ _ _ _, World.ownsRow_nil _ _ _ _, ?_⟩
    · rintro b (⟨k1, k2⟩ | ⟨k1, k2⟩ | e)
      · exact ⟨by omega, by omega⟩
      · exact ⟨by omega, by omega⟩
      · have := hown b e; exact ⟨by omega, by omega⟩
    · have he : (newM f).arrs.map List.length = (f.arrays.take f.arrays.length).map Int.toNat := by
        rw [List.take_length]; simp [newM, Function.comp_def]
      rw [he]
      have hz : (bs.zip ((f.arrays.take f.arrays.length).map Int.toNat)).length = f.arrays.length := by simp [hm.len]
      have hmo := hm.own
      rw [← hz] at hmo
      refine (own_block (K := kSlc) (base := s9) ?_ (by rw [hz]; show f.arrays.length * 24 ≤ _; omega) (fun _ _ => trivial)).same (fun _ _ _ => rfl) (fun b _ hb' => .inr (.inr hb'))
      rw [hz] at hmo ⊢
      exact hmo
    · intro i b l hi hl'
      simp only [newM, List.getElem?_map, Option.map_eq_some_iff] at hl'
      obtain ⟨n, hn', rfl⟩ := hl'
      exact hm.rows i b n hi hn'
    · rw [hlen, hm.len]
    · exact List.nodup_cons.2 ⟨fun hb' => by have := (hnb gb hb').1.1; omega, hm.nodup⟩
    · refine ⟨⟨by omega, (Array.getElem?_eq_some_iff.1 hg).1⟩, ?_, ⟨by omega, hdlt⟩, ?_, fun b hb' => ⟨⟨by have := (hnb b hb').1; omega, (hnb b hb').1.2⟩, ?_⟩⟩
      · rintro (k | k | e)
        · exact hgb.2.2.1 k
        · exact hgb.2.2.2 k
        · have := hown _ e; omega
      · rintro (⟨k1, k2⟩ | ⟨k1, k2⟩ | e)
        · omega
        · omega
        · obtain ⟨cs', hr'⟩ := own_row hm.own e; exact row_ne hd hr' (by decide) rfl
      · have := hnb b hb'
        rintro (⟨k1, k2⟩ | ⟨k1, k2⟩ | e)
        · omega
        · omega
        · exact this.2 e
    · exact ⟨fun b e => by simp [Value.ownBlock] at e, fun b e => by simp [Value.ownBlock] at e, fun b e => by simp [Value.ownBlock] at e⟩
  · exact RdFlat.same hF (fun _ _ _ => rfl) (fun b _ hb' => .inl hb')
  · rw [hb]; simp [cellsR, newM]
  · refine ⟨⟨by omega, (Array.getElem?_eq_some_iff.1 hb).1⟩, ?_⟩
    rintro (k | k | e)
    · exact hbm.2.2.1 k
    · exact hbm.2.2.2 k
    · have := hown _ e; omega
end Go.Proofs.YthmdioldnnhidaaDoor
