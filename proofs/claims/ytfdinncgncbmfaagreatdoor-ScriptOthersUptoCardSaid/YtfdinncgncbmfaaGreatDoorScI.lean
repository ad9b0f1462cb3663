/- Contracts of strconv.Itoa for small numbers, and of package script's take and name. Conditions: the number is less than 100; the block of bytes reads as the list. -/
import Derived.Test.YtfdinncgncbmfaaGreatDoorProg
import Derived.Test.YtfdinncgncbmfaaGreatDoorScB
import Derived.Shelf.Strconv.Itoa1
set_option linter.unusedVariables false
set_option linter.unusedSimpArgs false
namespace Go.Proofs.YtfdinncgncbmfaaGreatDoor
open Go.ChangeShapes Go.WideShapes Go.ChangeAt Go.RowKit
set_option maxRecDepth 100000 in
theorem small_any (i : Nat) (h : i < 100) (w : World) :
    Calls Tryz.prog 91 #[.int .i64 i] w fun e w' => e = .returned (.string ⟨(Lib.decDigits i).toArray⟩) ∧ w' = w := by
  go_enter Tryz.func91, Tryz.ntmps91
  go_name_bytes_deep 45 SM hSM
  have eSM : SM = Lib.smalls := by rw [← hSM]; decide +kernel
  subst eSM
  clear hSM
  go_name_bytes_deep 30 DG hDG
  have eDG : DG = Lib.digits36 := by rw [← hDG]; decide +kernel
  subst eDG
  clear hDG
  by_cases h10 : i < 10
  · have hsl : ∀ w, (Instr.slice 9 (.string Lib.digits36) (some (.int .i64 (i : Int))) (some (.int .i64 ((i : Int) + 1))) none).run Tryz.prog w = .ok (.string (Lib.digits36.extract i (i + 1))) w := fun w => by
      rw [run_slice_string w 9 Lib.digits36 .i64 .i64 _ _ Tryz.underlying9 (by omega) (by omega) (by rw [Lib.digits36_size]; omega), show ((i : Int)).toNat = i by omega, show ((i : Int) + 1).toNat = i + 1 by omega]
    go_wp2
    go_ret
    refine ⟨?_, rfl⟩
    show Ending.returned (Value.string (Lib.digits36.extract i (i + 1))) = _
    rw [AnyPlain.small_ba (Lib.digits36.extract i (i + 1)) (Lib.decDigits i) (by rw [Lib.extract_data]; exact Lib.digits36_piece h10)]
  · have hsl : ∀ w, (Instr.slice 9 (.string Lib.smalls) (some (.int .i64 ((i : Int) * 2))) (some (.int .i64 ((i : Int) * 2 + 2))) none).run Tryz.prog w = .ok (.string (Lib.smalls.extract (i * 2) (i * 2 + 2))) w := fun w => by
      rw [run_slice_string w 9 Lib.smalls .i64 .i64 _ _ Tryz.underlying9 (by omega) (by omega) (by rw [Lib.smalls_size]; omega), show ((i : Int) * 2).toNat = i * 2 by omega, show ((i : Int) * 2 + 2).toNat = i * 2 + 2 by omega]
    go_wp2
    go_ret
    refine ⟨?_, rfl⟩
    show Ending.returned (Value.string (Lib.smalls.extract (i * 2) (i * 2 + 2))) = _
    rw [AnyPlain.small_ba (Lib.smalls.extract (i * 2) (i * 2 + 2)) (Lib.decDigits i) (by rw [Lib.extract_data]; exact Lib.smalls_piece h10 h)]
set_option maxRecDepth 100000 in
theorem formatInt_any (i : Nat) (h : i < 100) (w : World) :
    Calls Tryz.prog 79 #[.int .i64 i, .int .i64 10] w fun e w' => e = .returned (.string ⟨(Lib.decDigits i).toArray⟩) ∧ w' = w := by
  have h1 : (i : Int) < 100 := by omega
  go_enter Tryz.func79, Tryz.ntmps79
  go_wp2_with (go_at_call 91; refine (small_any i h _).mono ?_; rintro e w' ⟨rfl, rfl⟩)
  go_ret
  exact ⟨rfl, rfl⟩
theorem itoa_any (i : Nat) (h : i < 100) (w : World) :
    Calls Tryz.prog 35 #[.int .i64 i] w fun e w' => e = .returned (.string ⟨(Lib.decDigits i).toArray⟩) ∧ w' = w := by
  have hI : ∀ w : World, Calls Tryz.prog 55 #[.int .i64 i] w fun e w' => e = .returned (.string ⟨(Lib.decDigits i).toArray⟩) ∧ w' = w := fun w => by
    go_enter Tryz.func55, Tryz.ntmps55
    go_wp2_with (go_at_call 79; refine (formatInt_any i h _).mono ?_; rintro e w' ⟨rfl, rfl⟩)
    go_ret
    exact ⟨rfl, rfl⟩
  go_enter Tryz.func35, Tryz.ntmps35
  go_wp2_with (go_at_call 55; refine (hI _).mono ?_; rintro e w' ⟨rfl, rfl⟩)
  go_ret
  exact ⟨rfl, rfl⟩
/-- The block of bytes. -/
def SrcAt (w : World) (g : Nat) (l : List UInt8) : Prop := w.heap[g]? = some (.cells #[.string ⟨l.toArray⟩] 72 (0, 0))
theorem SrcAt.lt {w : World} {g : Nat} {l : List UInt8} (h : SrcAt w g l) : g < w.heap.size := (Array.getElem?_eq_some_iff.1 h).1
/-- Of the blocks that were there only those of S have turned. -/
structure Trn (S : Nat → Prop) (w w' : World) : Prop where
  os : w'.os = w.os
  tape : w'.tape = w.tape
  output : w'.output = w.output
  size : w.heap.size ≤ w'.heap.size
  block : ∀ k, k < w.heap.size → ¬ S k → w'.heap[k]? = w.heap[k]?
theorem Trn.refl (S : Nat → Prop) (w : World) : Trn S w w := ⟨rfl, rfl, rfl, Nat.le_refl _, fun _ _ _ => rfl⟩
theorem Trn.of_below {S : Nat → Prop} {w w' : World} (h : Below w.heap.size w w') : Trn S w w' := ⟨h.1, h.2, h.3, h.size, fun k hk _ => h.block k hk⟩
theorem Trn.of_grown {S : Nat → Prop} {w w' : World} {row : Option Nat} (h : w.grownBy w' row) (hr : ∀ b, row = some b → S b) : Trn S w w' :=
  ⟨h.os, h.tape, h.output, h.size, fun k hk hs => h.block k hk (fun e => hs (hr k e.symm))⟩
/-- Behind it a step that turns, of the blocks that were there at first, only those of S. -/
theorem Trn.step {S T : Nat → Prop} {w a b : World} (h : Trn S w a) (k : Trn T a b) (hs : ∀ i, i < w.heap.size → T i → S i) : Trn S w b :=
  ⟨k.os.trans h.os, k.tape.trans h.tape, k.output.trans h.output, Nat.le_trans h.size k.size, fun i hi hn => (k.block i (Nat.lt_of_lt_of_le hi h.size) (fun e => hn (hs i hi e))).trans (h.block i hi hn)⟩
theorem Trn.trans {S : Nat → Prop} {w a b : World} (h : Trn S w a) (k : Trn S a b) : Trn S w b := h.step k fun _ _ x => x
theorem Trn.mono {S T : Nat → Prop} {w a : World} (h : Trn S w a) (hs : ∀ i, S i → T i) : Trn T w a := ⟨h.os, h.tape, h.output, h.size, fun i hi hn => h.block i hi (fun e => hn (hs i e))⟩
theorem Trn.below {S : Nat → Prop} {w a : World} (h : Trn S w a) (B : Nat) (hB : B ≤ w.heap.size) (hs : ∀ i, i < B → ¬ S i) : Below B w a :=
  ⟨h.os, h.tape, h.output, h.size, fun k hk => h.block k (by omega) (hs k hk)⟩
theorem setCell_trn (w : World) (a : Addr) (v : Value) : Trn (fun k => k = a.block) w (w.setCell a v) :=
  ⟨rfl, rfl, rfl, by simp, fun k _ hs => heap_setCell_other w a k v (fun e => hs e)⟩
theorem tmod_nat (a n : Nat) : Int.tmod (a : Int) (n : Int) = ((a % n : Nat) : Int) := by
  rw [Int.tmod_eq_emod_of_nonneg (by omega)]
  omega
theorem SrcAt.put {w : World} {g : Nat} {l : List UInt8} (h : SrcAt w g l) (r : List UInt8) : SrcAt (w.setCell ⟨g, 0, none⟩ (.string ⟨r.toArray⟩)) g r := by
  unfold SrcAt at *
  rw [heap_setCell_same _ _ _ _ _ _ h]
  rfl
set_option maxRecDepth 100000 in
theorem take_any (g : Nat) (l : List UInt8) (n : Nat) (w : World) (h : SrcAt w g l) (hn : 1 ≤ n) (hn2 : n ≤ 1000) :
    Calls Tryz.prog 21 #[.pointer (some ⟨g, 0, none⟩), .int .i64 n] w fun e w' => e = .returned (.int .i64 ((takeS n l).1 : Nat)) ∧ SrcAt w' g (takeS n l).2 ∧ Trn (fun k => k = g) w w' := by
  cases l with
  | nil =>
    have c0 := row_of h 0 _ rfl
    have H := Lib.hid h
    clear h
    go_enter Tryz.func21, Tryz.ntmps21
    go_wp2_with fail
    go_ret
    exact ⟨rfl, H.out, Trn.refl _ _⟩
  | cons b r =>
    have H := Lib.hid h
    have HP := Lib.hid (h.put r)
    unfold SrcAt at h
    obtain ⟨s, hs⟩ : ∃ s : ByteArray, (⟨(b :: r).toArray⟩ : ByteArray) = s := ⟨_, rfl⟩
    have hsz : s.size = r.length + 1 := by rw [← hs]; rfl
    have hne : s.toList.isEmpty = false := by
      rw [Lib.toList_data, ← hs]
      rfl
    have hix : ∀ w : World, (Instr.index 9 (.string s) (.int .i64 0)).run Tryz.prog w = .ok (.int .u8 (b.toNat : Nat)) w := fun w => by
      rw [run_index_string w 9 s .i64 0 Tryz.underlying9, dif_pos ⟨by omega, by omega⟩]
      congr 2
      subst hs
      rfl
    have hsl : ∀ w : World, (Instr.slice 9 (.string s) (some (.int .i64 1)) none none).run Tryz.prog w = .ok (.string ⟨r.toArray⟩) w := fun w => by
      rw [run_slice_string_l w 9 s Tryz.underlying9 .i64 1 (by omega) (by omega)]
      congr 2
      have e : (s.extract (1 : Int).toNat s.size).data.toList = r := by
        rw [Lib.extract_data, hsz, ← hs]
        simp
      generalize s.extract (1 : Int).toNat s.size = u at e
      obtain ⟨d⟩ := u
      have e' : d.toList = r := e
      rw [← e']
    rw [hs] at h
    have c0 := row_of h 0 _ rfl
    have f0 := frozen_of_row w g 0 _ _ h
    have hn0 : (n : Int) ≠ 0 := by omega
    have htm := tmod_nat b.toNat n
    have hbn : b.toNat < 256 := b.toNat_lt
    clear hs h
    go_enter Tryz.func21, Tryz.ntmps21
    go_wp2_with fail
    go_ret
    exact ⟨by first | rfl | (rw [← htm]; rfl) | (simp [takeS, ← htm]), HP.out, setCell_trn w ⟨g, 0, none⟩ _⟩
end Go.Proofs.YtfdinncgncbmfaaGreatDoor
