/- What is so of every instruction that is taken: its numbers and names are small. Plain lemmas. Condition: the numbers of channels, arrays and functions are at most 100. -/
import Derived.Test.YtfdinncgncbmfaaGreatDoorScB
set_option linter.unusedVariables false
namespace Go.Proofs.YtfdinncgncbmfaaGreatDoor
open Go.ChangeShapes Go.WideShapes Go.ChangeAt Go.RowKit
theorem dec_le : ∀ n : Nat, (Lib.decDigits n).length ≤ n + 1 := by
  intro n
  induction n using Nat.strongRecOn with
  | _ n ih =>
    unfold Lib.decDigits
    split
    · simp
    · have := ih (n / 10) (by omega)
      simp only [List.length_append, List.length_cons, List.length_nil]
      omega
/-- A name that is short. -/
def NmOk (b : ByteArray) : Prop := b.size ≤ 1000
theorem nm_ok (c : UInt8) {n : Nat} (h : n ≤ 900) : NmOk (nmS c n) := by
  have := dec_le n
  show (nmS c n).data.size ≤ 1000
  unfold nmS
  simp
  omega
theorem nm_empty : NmOk .empty := by unfold NmOk; decide
theorem AllS.bind2 {α β : Type} {p : PS α} {q : α → PS β} {P0 : α → Prop} {P : β → Prop} (hp : AllS p P0) (h : ∀ a, P0 a → AllS (q a) P) : AllS (bindS p q) P := fun l => h _ (hp l) _
theorem all_take (n : Nat) (hn : n ≤ 800) : AllS (takeS n) (fun v => v ≤ 800) := fun l => by
  cases l with
  | nil => simp [takeS]
  | cons b r =>
    show b.toNat % n ≤ 800
    have hb := b.toNat_lt
    rcases Nat.eq_zero_or_pos n with h | h
    · subst h; rw [Nat.mod_zero]; omega
    · have := Nat.mod_lt b.toNat h; omega
theorem all_take19 : AllS (takeS 19) (fun v => v < 19) := fun l => by
  cases l with
  | nil => simp [takeS]
  | cons b r => exact Nat.mod_lt _ (by omega)
def ArgOk (a : ArgD) : Prop := NmOk a.name ∧ 0 ≤ a.num ∧ a.num ≤ 800
theorem all_opd (par : Nat) (hp : par ≤ 100) : AllS (opdS par) ArgOk :=
  (all_take 8 (by omega)).bind2 fun k hk => AllS.ite (AllS.pure ⟨nm_ok _ (by omega), by simp, by simp⟩)
    (AllS.ite ((all_take 8 (by omega)).bind2 fun v hv => AllS.pure ⟨nm_empty, by simp, by simp; omega⟩)
      (AllS.ite ((all_take par (by omega)).bind2 fun v hv => AllS.pure ⟨nm_ok _ (by omega), by simp, by simp⟩)
        ((all_take 256 (by omega)).bind2 fun v hv => AllS.pure ⟨nm_empty, by simp, by simp; omega⟩)))
theorem all_opds (par : Nat) (hp : par ≤ 100) : ∀ n, AllS (opdsS par n) (fun a => a.length = n ∧ ∀ x ∈ a, ArgOk x)
  | 0 => AllS.pure ⟨rfl, by simp⟩
  | n + 1 => (all_opd par hp).bind2 fun a ha => (all_opds par hp n).bind2 fun r hr => AllS.pure ⟨by simp [hr.1], fun x hx => by
      rcases List.mem_cons.1 hx with rfl | hx
      · exact ha
      · exact hr.2 x hx⟩
theorem all_dst : AllS dstS NmOk := (all_take 4 (by omega)).bind2 fun k hk => AllS.pure (nm_ok _ (by omega))
/-- What an instruction and its target are within. -/
structure GoodI (x : InstrD × Int) : Prop where
  kind : 0 ≤ x.1.kind ∧ x.1.kind ≤ 255
  op : 0 ≤ x.1.op ∧ x.1.op ≤ 255
  dst : NmOk x.1.dst
  name : NmOk x.1.name
  args : x.1.args.length ≤ 100 ∧ ∀ a ∈ x.1.args, ArgOk a
  line : x.1.line = 0
  col : x.1.col = 0
  t : -1 ≤ x.2 ∧ x.2 ≤ 800
theorem good_mk {k o : Int} {d n : ByteArray} {a : List ArgD} {t : Int} (hk : 0 ≤ k ∧ k ≤ 255) (ho : 0 ≤ o ∧ o ≤ 255) (hd : NmOk d) (hn : NmOk n) (ha : a.length ≤ 100 ∧ ∀ x ∈ a, ArgOk x) (ht : -1 ≤ t ∧ t ≤ 800) : GoodI (mkI k o d n a t) := ⟨hk, ho, hd, hn, ha, rfl, rfl, ht⟩
structure EnvOk (E : EnvS) : Prop where
  arrs : E.arrs ≤ 100
  chans : E.chans ≤ 100
  par : E.par ≤ 100
  calls : E.calls.length ≤ 100
  each : ∀ n ∈ E.calls, n ≤ 100
theorem good_copied {E : EnvS} (h : EnvOk E) : AllS (copiedS E) GoodI := all_dst.bind2 fun d hd => (all_opds _ h.par 1).bind2 fun a ha => AllS.pure (good_mk (by omega) (by omega) hd nm_empty ⟨by omega, ha.2⟩ (by omega))
theorem good_maker {E : EnvS} (h : EnvOk E) (n k : Nat) (hn : n ≤ 100) : AllS (makerS E n k) GoodI := by
  unfold makerS
  refine AllS.ite (good_copied h) (AllS.ite ?_ (AllS.ite ?_ (AllS.ite ?_ (AllS.ite ?_ (AllS.ite ?_ (AllS.ite ?_ (AllS.ite ?_ (AllS.ite ?_ (AllS.ite ?_ ?_)))))))))
  · exact all_dst.bind2 fun d hd => (all_take19).bind2 fun o ho => (all_opds _ h.par _).bind2 fun a ha => AllS.pure (good_mk (by omega) (by omega) hd nm_empty ⟨by have := ha.1; split at this <;> omega, ha.2⟩ (by omega))
  · exact AllS.ite (good_copied h) (all_dst.bind2 fun d hd => (all_take _ (by have := h.arrs; omega)).bind2 fun o ho => (all_opds _ h.par 1).bind2 fun a ha => AllS.pure (good_mk (by omega) (by omega) hd (nm_ok _ (by omega)) ⟨by omega, ha.2⟩ (by omega)))
  · exact AllS.ite (good_copied h) ((all_take _ (by have := h.arrs; omega)).bind2 fun o ho => (all_opds _ h.par 2).bind2 fun a ha => AllS.pure (good_mk (by omega) (by omega) nm_empty (nm_ok _ (by omega)) ⟨by omega, ha.2⟩ (by omega)))
  · refine AllS.ite (good_copied h) (all_dst.bind2 fun d hd => (all_take _ (by have := h.calls; omega)).bind2 fun o ho => (all_opds _ h.par _).bind2 fun a ha => AllS.pure (good_mk (by omega) (by omega) hd (nm_ok _ (by omega)) ⟨?_, ha.2⟩ (by omega)))
    rw [ha.1, List.getD_eq_getElem?_getD]
    cases hc : E.calls[o]? with
    | none => simp
    | some v => exact h.each v (List.mem_of_getElem? hc)
  · exact all_dst.bind2 fun d hd => (all_take _ (by have := h.chans; omega)).bind2 fun o ho => AllS.pure (good_mk (by omega) (by omega) hd (nm_ok _ (by omega)) ⟨by simp, by simp⟩ (by omega))
  · exact (all_take _ (by have := h.chans; omega)).bind2 fun o ho => (all_opds _ h.par 1).bind2 fun a ha => AllS.pure (good_mk (by omega) (by omega) nm_empty (nm_ok _ (by omega)) ⟨by omega, ha.2⟩ (by omega))
  · exact all_dst.bind2 fun d hd => (all_take _ (by omega)).bind2 fun o ho => (all_opds _ h.par 1).bind2 fun a ha => AllS.pure (good_mk (by omega) (by omega) hd (nm_ok _ (by omega)) ⟨by omega, ha.2⟩ (by omega))
  · exact (all_opds _ h.par 1).bind2 fun a ha => (all_take (n + 4) (by omega)).bind2 fun t ht => AllS.pure (good_mk (by omega) (by omega) nm_empty nm_empty ⟨by omega, ha.2⟩ (by omega))
  · exact (all_take (n + 4) (by omega)).bind2 fun t ht => AllS.pure (good_mk (by omega) (by omega) nm_empty nm_empty ⟨by simp, by simp⟩ (by omega))
  · exact AllS.ite (AllS.pure (good_mk (by omega) (by omega) nm_empty nm_empty ⟨by simp, by simp⟩ (by omega))) ((all_opds _ h.par 1).bind2 fun a ha => AllS.pure (good_mk (by omega) (by omega) nm_empty nm_empty ⟨by omega, ha.2⟩ (by omega)))
theorem good_instr {E : EnvS} (h : EnvOk E) (n : Nat) (hn : n ≤ 100) : AllS (instrS E n) GoodI := AllS.bind fun k => good_maker h n k hn
end Go.Proofs.YtfdinncgncbmfaaGreatDoor
