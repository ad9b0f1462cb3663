/- The machine's methods where the machine is nil. No condition. Plain lemmas on runs: the run of the long loop. No program. -/
import Derived.Test.YthmdioldnnhidaaDoorMMq
set_option linter.unusedVariables false
set_option linter.unusedSimpArgs false
set_option linter.unnecessarySimpa false
namespace Go.Proofs.YthmdioldnnhidaaDoor
open Go.ChangeShapes Go.WideShapes Go.ChangeAt Go.RowKit
set_option maxRecDepth 100000 in
set_option maxHeartbeats 800000 in
theorem nilStep (w : World) : Calls Tryd.prog 23 #[.pointer none] w fun e w' => e = .returned (.bool false) ∧ Below w.heap.size w w' := by
  go_enter Tryd.func23, Tryd.ntmps23
  go_wp2_with fail
  go_ret
  exact ⟨rfl, Below.refl _ _⟩
set_option maxRecDepth 100000 in
set_option maxHeartbeats 800000 in
theorem nilReg (w : World) : Calls Tryd.prog 21 #[.pointer none, .int .i64 0] w fun e w' => e = .returned (.int .u64 0) ∧ Below w.heap.size w w' := by
  go_enter Tryd.func21, Tryd.ntmps21
  go_wp2_with fail
  go_ret
  exact ⟨rfl, Below.refl _ _⟩
set_option maxRecDepth 100000 in
set_option maxHeartbeats 800000 in
theorem nilAt (w : World) : Calls Tryd.prog 20 #[.pointer none] w fun e w' => e = .returned (.int .i64 0) ∧ Below w.heap.size w w' := by
  go_enter Tryd.func20, Tryd.ntmps20
  go_wp2_with fail
  go_ret
  exact ⟨rfl, Below.refl _ _⟩
set_option maxRecDepth 100000 in
set_option maxHeartbeats 800000 in
theorem nilTrace (w : World) : Calls Tryd.prog 18 #[.pointer none] w fun e w' => e = .returned (traceV zeroT (.slice none 0 0) (.slice none 0 0) (.slice none 0 0) (.slice none 0 0)) ∧ Below w.heap.size w w' := by
  have hal := Lib.hid ((Below.refl w.heap.size w).alloc (Nat.le_refl _) (.cells #[.int .u8 0, .int .i64 0, .slice none 0 0, .slice none 0 0, .slice none 0 0, .slice none 0 0] 49))
  have hg := Lib.hid (heap_alloc_new w (.cells #[.int .u8 0, .int .i64 0, .slice none 0 0, .slice none 0 0, .slice none 0 0, .slice none 0 0] 49))
  go_enter Tryd.func18, Tryd.ntmps18
  go_upto_region 1 with fail
  generalize w.alloc (.cells #[.int .u8 0, .int .i64 0, .slice none 0 0, .slice none 0 0, .slice none 0 0, .slice none 0 0] 49) = W at *
  go_wp2_with (refine wpList_store_row rfl 49 (.tmp 2) (.tmp 6) rfl w.heap.size #[.int .u8 0, .int .i64 0, .slice none 0 0, .slice none 0 0, .slice none 0 0, .slice none 0 0] rfl rfl 49 #[.int .u8 0, .int .i64 0, .slice none 0 0, .slice none 0 0, .slice none 0 0, .slice none 0 0] ?h1 (by as_aux_lemma => kernel_rfl) (by as_aux_lemma => kernel_rfl) (by as_aux_lemma => kernel_rfl) ?_; exact hg.out)
  refine bodyPost_ret (v := .agg #[.int .u8 0, .int .i64 0, .slice none 0 0, .slice none 0 0, .slice none 0 0, .slice none 0 0]) ?_ rfl ⟨rfl, below_row hal.out (Nat.le_refl _) _⟩
  exact results_cell_row (P := Tryd.prog) (fn := Tryd.f18) rfl _ _ w.heap.size 49 #[.int .u8 0, .int .i64 0, .slice none 0 0, .slice none 0 0, .slice none 0 0, .slice none 0 0] (0, 0) _ rfl (setRow_heap _ _ _ _ _ _ hg.out) Tryd.underlying49 rfl (by as_aux_lemma => kernel_rfl)
open Go.ChangeShapes Go.WideShapes Go.ChangeAt Go.RowKit
/-- The program of the long loop: a register counts, and a branch goes back as long as it is not zero. -/
def loopD : FlatD := ⟨16, 1, [], [], [], [⟨1, 4, 0, 0, ⟨0, 0⟩, ⟨-1, 1⟩⟩, ⟨8, 0, 0, 0, ⟨0, 0⟩, ⟨0, 0⟩⟩, ⟨9, 0, 0, 0, ⟨0, 0⟩, ⟨0, 0⟩⟩]⟩
def loopM (k : Nat) : MachD := ⟨[(k : Int)], [], 0, ⟨2, 2 * (k : Int), [], [], List.replicate k true, []⟩⟩
theorem loop_add (k : Nat) (hk : k < 32768) : opZ 4 16 (k : Int) 1 = ((k + 1 : Nat) : Int) := by
  show IntKind.u64.wrap ((k : Int) % 2 ^ 16 + 1 % 2 ^ 16) % 2 ^ 16 = _
  rw [IntKind.wrap_u64]
  have e : ((2 : Int) ^ 16) = 65536 := by decide
  rw [e]
  omega
theorem loop_two (ins : List (List Int)) (k : Nat) (hk : k < 32768) : stepM loopD ins (stepM loopD ins (loopM k)) = loopM (k + 1) := by
  have h1 : stepM loopD ins (loopM k) = ⟨[((k + 1 : Nat) : Int)], [], 1, ⟨2, 2 * (k : Int) + 1, [], [], List.replicate k true, []⟩⟩ := by
    have : stepM loopD ins (loopM k) = ⟨[opZ 4 16 (k : Int) 1], [], 0 + 1, ⟨2, 2 * (k : Int) + 1, [], [], List.replicate k true, []⟩⟩ := rfl
    rw [this, loop_add k hk]; rfl
  rw [h1]
  have h2 : stepM loopD ins ⟨[((k + 1 : Nat) : Int)], [], 1, ⟨2, 2 * (k : Int) + 1, [], [], List.replicate k true, []⟩⟩ = ⟨[((k + 1 : Nat) : Int)], [], if ((k + 1 : Nat) : Int) = 0 then 1 + 1 else 0, ⟨2, 2 * (k : Int) + 1 + 1, [], [], List.replicate k true ++ [((k + 1 : Nat) : Int) != 0], []⟩⟩ := rfl
  have h3 : ((((k + 1 : Nat) : Int)) != 0) = true := by simp; omega
  rw [h2, if_neg (by omega), h3, ← List.replicate_succ']
  show (MachD.mk _ _ _ _) = MachD.mk _ _ _ _
  congr 2
theorem loop_iter (ins : List (List Int)) : ∀ k : Nat, k ≤ 32768 → iterM loopD ins (2 * k) (newM loopD) = loopM k
  | 0, _ => rfl
  | k + 1, h => by
    rw [show 2 * (k + 1) = 2 * k + 1 + 1 by omega, iterM_succ, iterM_succ, loop_iter ins k (by omega), loop_two ins k (by omega)]
theorem loop_ok : flatOk loopD = true := by decide +kernel
/-- What the law says of the long loop. -/
theorem loop_long : ∃ t : TraceD, runT loopD [] 65536 = t ∧ errRun loopD 0 65536 = 0 ∧ t.status = 2 ∧ t.steps = 65536 ∧ t.brs.length = 32768 ∧ errRun loopD 0 65537 = 3 := by
  have he : errRun loopD 0 65536 = 0 := by rw [errRun, if_neg (by omega), errNew, if_pos loop_ok]; rfl
  refine ⟨_, rfl, he, ?_⟩
  have hr : runT loopD [] 65536 = (loopM 32768).t := by
    rw [runT]
    show (if errRun loopD 0 65536 = 0 then (runM loopD [] (65536 : Int).toNat).t else zeroT) = _
    rw [if_pos he, runM, show (65536 : Int).toNat = 2 * 32768 from rfl, loop_iter _ 32768 (Nat.le_refl _)]
  rw [hr]
  exact ⟨rfl, rfl, List.length_replicate, rfl⟩
end Go.Proofs.YthmdioldnnhidaaDoor
