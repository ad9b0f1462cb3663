/- Whether a program is well formed, and why not, does not depend on positions. Plain. -/
import Derived.Test.YteeebofjlchndaaDoorLoc
set_option linter.unusedVariables false
set_option linter.unusedSimpArgs false
namespace Go.Proofs.YteeebofjlchndaaDoor
def bareI (x : InstrD) : InstrD := { x with line := 0, col := 0 }
def bareF (f : FuncD) : FuncD := { f with code := f.code.map bareI, line := 0, col := 0 }
def bareP (p : ProgD) : ProgD := { p with funcs := p.funcs.map bareF, main := p.main.map bareI }
def zF (F : FaultD) : FaultD := ⟨0, 0, F.e⟩
theorem needF_z (ok : Bool) (l c e : Int) : (needF ok l c e).map zF = needF ok 0 0 e := by cases ok <;> rfl
theorem or_z (a b : Option FaultD) : (a.or b).map zF = (a.map zF).or (b.map zF) := by cases a <;> rfl
theorem firstF_z {α β : Type} (b : α → β) (f : List α → α → Option FaultD) (g : List β → β → Option FaultD) (h : ∀ d x, g (d.map b) (b x) = (f d x).map zF) : ∀ (l d : List α), firstF g (d.map b) (l.map b) = (firstF f d l).map zF
  | [], _ => rfl
  | x :: r, d => by
    simp only [List.map_cons, firstF, or_z, h]
    rw [← firstF_z b f g h r (d ++ [x]), List.map_append]; rfl
theorem firstF_id {α : Type} (f g : List α → α → Option FaultD) (h : ∀ d x, g d x = (f d x).map zF) (l d : List α) : firstF g d l = (firstF f d l).map zF := by
  have := firstF_z id f g (fun d x => by simpa using h d x) l d
  simpa using this
theorem declF_z (acc : List ByteArray) (s : ByteArray) (l c : Int) : declF acc s 0 0 = (declF acc s l c).map zF := by
  unfold declF; rw [or_z, needF_z, needF_z]
theorem declsF_z (l : List ByteArray) (x y : Int) : declsF l 0 0 = (declsF l x y).map zF := firstF_id _ _ (fun d s => declF_z d s x y) l []
theorem labelsOf_z (l : List InstrD) : labelsOf (l.map bareI) = labelsOf l := by
  unfold labelsOf
  rw [List.filter_map, List.map_map]; rfl
theorem sitesOf_z (s : List ByteArray) (l : List InstrD) : sitesOf s (l.map bareI) = sitesOf s l := by
  unfold sitesOf
  rw [List.foldl_map]; rfl
theorem ite_z (c : Prop) [Decidable c] (a b : Option FaultD) : (if c then a else b).map zF = if c then a.map zF else b.map zF := by split <;> rfl
theorem restF_z (chans arrays labels sites : List ByteArray) (x : InstrD) : restF chans arrays labels sites (bareI x) = (restF chans arrays labels sites x).map zF := by
  unfold restF
  simp only [ite_z, needF_z, Option.map_none, bareI]
  rfl
theorem instrF_z (chans arrays : List ByteArray) (m : Bool) (labels sites : List ByteArray) (x : InstrD) : instrF chans arrays m labels sites (bareI x) = (instrF chans arrays m labels sites x).map zF := by
  unfold instrF
  rw [or_z, restF_z, needF_z]; rfl
theorem codeF_z (chans arrays : List ByteArray) (m : Bool) (sites : List ByteArray) (l : List InstrD) : codeF chans arrays m sites (l.map bareI) = (codeF chans arrays m sites l).map zF :=
  firstF_z bareI _ _ (fun d x => by rw [labelsOf_z, sitesOf_z, instrF_z]) l []
theorem instrsF_z (chans arrays : List ByteArray) (m : Bool) (sites : List ByteArray) (l : List InstrD) (x y : Int) : instrsF chans arrays m sites (l.map bareI) 0 0 = (instrsF chans arrays m sites l x y).map zF := by
  unfold instrsF
  rw [or_z, codeF_z, needF_z, List.length_map]
theorem targetF_z (ps : List (ByteArray × Int)) (labels : List ByteArray) (x : InstrD) : targetF ps labels (bareI x) = (targetF ps labels x).map zF := by
  unfold targetF
  simp only [ite_z, or_z, needF_z, Option.map_none, bareI]
  rfl
theorem targetsF_z (ps : List (ByteArray × Int)) (labels : List ByteArray) (l : List InstrD) : targetsF ps labels (l.map bareI) = (targetsF ps labels l).map zF :=
  firstF_z bareI _ _ (fun d x => targetF_z ps labels x) l []
theorem arrsF_z (l : List ArrD) : arrsF l = (arrsF l).map zF := firstF_id _ _ (fun d a => by unfold arrF; rw [or_z, ← declF_z, needF_z]) l []
theorem fNames_z (l : List FuncD) : fNames (l.map bareF) = fNames l := by unfold fNames; rw [List.map_map]; rfl
theorem paramsOf_z (l : List FuncD) : paramsOf (l.map bareF) = paramsOf l := by unfold paramsOf; rw [List.map_map]; rfl
theorem codesOf_z (l : List FuncD) : codesOf (l.map bareF) = (codesOf l).map bareI := by
  unfold codesOf
  induction l with
  | nil => rfl
  | cons x r ih => rw [List.map_cons, List.flatMap_cons, ih, List.flatMap_cons, List.map_append]; rfl
theorem funcF_z (chans arrays : List ByteArray) (d : List FuncD) (f : FuncD) : funcF chans arrays (d.map bareF) (bareF f) = (funcF chans arrays d f).map zF := by
  unfold funcF
  rw [or_z, or_z, or_z, fNames_z, codesOf_z, sitesOf_z, ← declF_z, needF_z, ← declsF_z, ← instrsF_z]; rfl
theorem funcsF_z (chans arrays : List ByteArray) (l : List FuncD) : funcsF chans arrays (l.map bareF) = (funcsF chans arrays l).map zF :=
  firstF_z bareF _ _ (funcF_z chans arrays) l []
theorem targsF_z (l : List FuncD) : targsF (l.map bareF) = (targsF l).map zF := by
  unfold targsF
  rw [paramsOf_z]
  exact firstF_z bareF _ _ (fun d f => by
    show targetsF _ (labelsOf (f.code.map bareI)) (f.code.map bareI) = _
    rw [labelsOf_z, targetsF_z]) l []
theorem callsOf_z (l : List InstrD) : callsOf (l.map bareI) = callsOf l := by
  unfold callsOf
  rw [List.filter_map, List.map_map]; rfl
theorem callsN_z (l : List FuncD) (a b : ByteArray) : CallsN (l.map bareF) a b ↔ CallsN l a b := by
  unfold CallsN
  rw [List.find?_map]
  constructor
  · rintro ⟨f, hf, hb⟩
    obtain ⟨g, hg, rfl⟩ := Option.map_eq_some_iff.1 hf
    refine ⟨g, hg, ?_⟩
    have : b ∈ callsOf (g.code.map bareI) := hb
    rwa [callsOf_z] at this
  · rintro ⟨g, hg, hb⟩
    refine ⟨bareF g, Option.map_eq_some_iff.2 ⟨g, hg, rfl⟩, ?_⟩
    show b ∈ callsOf (g.code.map bareI)
    rwa [callsOf_z]
theorem reach_z (l : List FuncD) (a b : ByteArray) : Reach (l.map bareF) a b ↔ Reach l a b := by
  constructor
  · intro h
    induction h with
    | one h => exact .one ((callsN_z _ _ _).1 h)
    | more _ h ih => exact .more ih ((callsN_z _ _ _).1 h)
  · intro h
    induction h with
    | one h => exact .one ((callsN_z _ _ _).2 h)
    | more _ h ih => exact .more ih ((callsN_z _ _ _).2 h)
theorem loopB_z (l : List FuncD) (a : ByteArray) : loopB (l.map bareF) a = loopB l a := by
  unfold loopB
  exact decide_eq_decide.2 (reach_z l a a)
theorem loopsF_z (l : List FuncD) : loopsF (l.map bareF) = (loopsF l).map zF := by
  unfold loopsF
  exact firstF_z bareF (fun _ f => needF (!loopB l f.name) f.line f.col 9) (fun _ f => needF (!loopB (l.map bareF) f.name) f.line f.col 9) (fun d f => by
    rw [loopB_z, needF_z]; rfl) l []
/-- **Positions do not matter.** -/
theorem checkF_z (p : ProgD) : checkF (bareP p) = (checkF p).map zF := by
  simp only [checkF, or_z, needF_z]
  rw [← declsF_z, ← arrsF_z, ← funcsF_z, ← instrsF_z, ← targsF_z, ← targetsF_z, ← loopsF_z]
  simp only [bareP, List.length_map, codesOf_z, sitesOf_z, paramsOf_z, labelsOf_z]
  rfl
end Go.Proofs.YteeebofjlchndaaDoor
