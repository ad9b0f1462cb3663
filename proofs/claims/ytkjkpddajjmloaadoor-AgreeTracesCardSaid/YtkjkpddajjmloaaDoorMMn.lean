/- Contract of the program's New where the flat program is not valid or there are too many inputs: nil and the fault. Conditions: what comes in reads as the flat program and the inputs; the tables hold what they are laid with. -/
import Derived.Test.YtkjkpddajjmloaaDoorMMm
import Derived.Test.YtkjkpddajjmloaaDoorMFc
set_option linter.unusedVariables false
set_option linter.unusedSimpArgs false
namespace Go.Proofs.YtkjkpddajjmloaaDoor
open Go.ChangeShapes Go.WideShapes Go.ChangeAt Go.RowKit
theorem made_rep {α : Type} (z : Value) (g : α → Value) (x : α) (hz : g x = z) (n : Nat) : madeCells #[z] (n * 1) = ((List.replicate n x).map g).toArray := by
  rw [Nat.mul_one, List.map_replicate, hz]
  apply Array.ext_getElem?
  intro i
  simp only [madeCells, Array.getElem?_map, Array.getElem?_range, List.getElem?_toArray, List.getElem?_replicate]
  split
  · simp [Nat.mod_one]
  · rfl
theorem infoNumS : (Tryd.prog.info? 54).map (fun i => (i.zero, i.size, i.bytes)) = some (some (.slice none 0 0), 1, 24) := by kernel_rfl
theorem makeNums (n : Nat) (h : n ≤ 2097152) (w : World) : (Instr.makeSlice 54 (.int .i64 n) (.int .i64 n)).run Tryd.prog w = .ok (.slice (some ⟨w.heap.size, 0, none⟩) n n) (w.alloc (.cells (u64s (List.replicate n 0)) 55)) := by
  obtain ⟨i0, hi, hz0, hz1, hz2⟩ := info_parts infoNum
  have := run_make (P := Tryd.prog) w 54 55 i0 (.int .u64 0) Tryd.underlying54 hi hz0 .i64 .i64 n n (by omega) (Int.le_refl _) (by rw [hz2]; omega) (by omega)
  rw [hz1, Int.toNat_natCast, show (Value.int .u64 0).cells = #[Value.int .u64 0] from rfl, made_rep (Value.int .u64 0) (fun x : Int => Value.int .u64 x) 0 rfl] at this
  exact this
theorem makeInts (n : Nat) (h : n ≤ 2097152) (w : World) : (Instr.makeSlice 23 (.int .i64 n) (.int .i64 n)).run Tryd.prog w = .ok (.slice (some ⟨w.heap.size, 0, none⟩) n n) (w.alloc (.cells (i64s (List.replicate n 0)) 3)) := by
  obtain ⟨i0, hi, hz0, hz1, hz2⟩ := info_parts infoInt
  have := run_make (P := Tryd.prog) w 23 3 i0 (.int .i64 0) Tryd.underlying23 hi hz0 .i64 .i64 n n (by omega) (Int.le_refl _) (by rw [hz2]; omega) (by omega)
  rw [hz1, Int.toNat_natCast, show (Value.int .i64 0).cells = #[Value.int .i64 0] from rfl, made_rep (Value.int .i64 0) (fun x : Int => Value.int .i64 x) 0 rfl] at this
  exact this
theorem makeLists (n : Nat) (h : n ≤ 2097152) (w : World) : (Instr.makeSlice 47 (.int .i64 n) (.int .i64 n)).run Tryd.prog w = .ok (.slice (some ⟨w.heap.size, 0, none⟩) n n) (w.alloc (.cells (List.replicate n (Value.slice none 0 0)).toArray 54)) := by
  obtain ⟨i0, hi, hz0, hz1, hz2⟩ := info_parts infoNumS
  have := run_make (P := Tryd.prog) w 47 54 i0 (.slice none 0 0) Tryd.underlying47 hi hz0 .i64 .i64 n n (by omega) (Int.le_refl _) (by rw [hz2]; omega) (by omega)
  rw [hz1, Int.toNat_natCast, show (Value.slice none 0 0).cells = #[Value.slice none 0 0] from rfl, made_rep (Value.slice none 0 0) id (Value.slice none 0 0) rfl, List.map_id] at this
  exact this
set_option maxRecDepth 100000 in
set_option maxHeartbeats 1600000 in
theorem machNewBad (f : FlatD) (cv sv av kv : Value) (ia : Option Addr) (n ic : Nat) (w : World) (hF : RdFlat none w f cv sv av kv) (hL : Laid w) (hn : n ≤ 1000000) (hb : flatOk f = false ∨ f.chans.length < n) :
    Calls Tryd.prog 61 #[flatV f cv sv av kv, .slice ia n ic] w fun e w' => e = .returned (.tuple #[.pointer none, .int .i64 (if flatOk f then 5 else 2)]) ∧ Below w.heap.size w w' := by
  obtain ⟨r, hr⟩ : ∃ r : Int, (if flatOk f = true then (5 : Int) else 2) = r := ⟨_, rfl⟩
  rw [hr]
  obtain ⟨ca, cc, rfl⟩ := hF.1.is
  obtain ⟨sa, sc, rfl⟩ := hF.2.1.is
  obtain ⟨aa, ac, rfl⟩ := hF.2.2.1.is
  obtain ⟨ka, kc, rfl⟩ := hF.2.2.2.1.is
  have hcl : f.chans.length * 16 ≤ 140737488351232 := hF.1.size
  have hal := (Below.refl w.heap.size w).alloc (Nat.le_refl _) (.cells #[.int .i64 f.width, .int .i64 f.regs, .slice ca f.chans.length cc, .slice sa f.sites.length sc, .slice aa f.arrays.length ac, .slice ka f.code.length kc] 43)
  have hg := heap_alloc_new w (.cells #[.int .i64 f.width, .int .i64 f.regs, .slice ca f.chans.length cc, .slice sa f.sites.length sc, .slice aa f.arrays.length ac, .slice ka f.code.length kc] 43)
  have HF := Lib.hid (hF.keep hal)
  have HL := Lib.hid (hL.keep hal)
  clear hF hL
  go_enter Tryd.func61, Tryd.ntmps61
  go_upto_region 1 with fail
  have HB := Lib.hid hal
  have HG := Lib.hid hg
  have y0 := row_of hg 0 (.int .i64 f.width) rfl
  have y1 := row_of hg 1 (.int .i64 f.regs) rfl
  have y2 := row_of hg 2 (.slice ca f.chans.length cc) rfl
  have y3 := row_of hg 3 (.slice sa f.sites.length sc) rfl
  have y4 := row_of hg 4 (.slice aa f.arrays.length ac) rfl
  have y5 := row_of hg 5 (.slice ka f.code.length kc) rfl
  clear hal hg
  generalize w.alloc (.cells #[.int .i64 f.width, .int .i64 f.regs, .slice ca f.chans.length cc, .slice sa f.sites.length sc, .slice aa f.arrays.length ac, .slice ka f.code.length kc] 43) = W at *
  have HC := Lib.hid (flatCheck f _ _ _ _ W HF.out HL.out)
  cases hok : flatOk f <;> rw [hok] at hr
  · have he : flatE f = 2 := by rw [flatE, hok]; rfl
    rw [he] at HC
    obtain rfl : r = 2 := hr.symm
    clear he hok hb hr
    go_wp2_with (go_at_call 75; refine HC.out.mono ?_; rintro e w2 ⟨rfl, hb2⟩)
    go_ret2
    exact ⟨rfl, bcomp HB.out hb2⟩
  · have he : flatE f = 0 := by rw [flatE, hok]; rfl
    rw [he] at HC
    have hlt : (f.chans.length : Int) < (n : Int) := by rcases hb with h | h; exact absurd hok (by rw [h]; decide); omega
    obtain rfl : r = 5 := hr.symm
    clear he hok hb hr
    go_upto_region 2 with (go_at_call 75; refine HC.out.mono ?_; rintro e w2 ⟨rfl, hb2⟩)
    trace_state
    have z2 := cell_keep hb2 y2
    clear y2
    go_wp2
    go_ret2
    exact ⟨rfl, bcomp HB.out hb2⟩
end Go.Proofs.YtkjkpddajjmloaaDoor
