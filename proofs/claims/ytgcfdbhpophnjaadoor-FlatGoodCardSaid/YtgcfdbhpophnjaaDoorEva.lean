/- What the check answers for the chapter's examples. Plain. -/
import Derived.Test.YtgcfdbhpophnjaaDoorLoc
set_option linter.unusedVariables false
set_option linter.unusedSimpArgs false
namespace Go.Proofs.YtgcfdbhpophnjaaDoor
/-- All of the check but for the loops. -/
def checkA (p : ProgD) : Option FaultD :=
  (needF (decide (1 ≤ p.width) && decide (p.width ≤ 64)) 0 0 3).or <|
  (needF (decide (p.chans.length ≤ 32)) 0 0 5).or <|
  (declsF p.chans 0 0).or <|
  (needF (decide (p.arrays.length ≤ 32)) 0 0 5).or <|
  (arrsF p.arrays).or <|
  (needF (decide (p.funcs.length ≤ 32)) 0 0 5).or <|
  (funcsF p.chans (aNames p.arrays) p.funcs).or <|
  (instrsF p.chans (aNames p.arrays) true (sitesOf [] (codesOf p.funcs)) p.main 0 0).or <|
  (targsF p.funcs).or <|
  (targetsF (paramsOf p.funcs) (labelsOf p.main) p.main)
theorem check_split (p : ProgD) : checkF p = (checkA p).or (loopsF p.funcs) := by
  unfold checkF checkA
  simp only [Option.or_assoc]
theorem check_plain {p : ProgD} (h : p.funcs = []) : checkF p = checkA p := by
  rw [check_split, h]
  simp [loopsF, firstF]
def bs (l : List UInt8) : ByteArray := ⟨l.toArray⟩
def ins (kind op : Int) (dst name : ByteArray) (args : List ArgD) (line col : Int) : InstrD := ⟨kind, op, dst, name, args, line, col⟩
def pMain (l : List InstrD) : ProgD := ⟨1, [], [], [], l⟩
def e1 : ProgD := pMain []
def e2 : ProgD := ⟨0, [], [], [], []⟩
def iLabel : InstrD := ins 10 0 (bs []) (bs [76]) [] 0 0
def iJump : InstrD := ins 8 0 (bs []) (bs [76]) [] 0 0
def iThere : InstrD := ins 8 0 (bs []) (bs [76]) [] 3 1
def e3 : ProgD := pMain [iLabel, iJump]
def e4 : ProgD := pMain [iThere]
def iCall : InstrD := ins 4 0 (bs [120]) (bs [102]) [] 0 0
def fLoop : FuncD := ⟨bs [102], [], [iCall], 2, 1⟩
def e5 : ProgD := ⟨1, [], [], [fLoop], []⟩
def e6 : ProgD := ⟨1, [bs [97], bs [97]], [], [], []⟩
def e7 : ProgD := ⟨1, [bs [101, 110, 100]], [], [], []⟩
def aZero : ArgD := ⟨bs [], 0⟩
def iRet : InstrD := ins 12 0 (bs []) (bs []) [aZero] 2 1
def e8 : ProgD := pMain [iRet]
def iIte : InstrD := ins 1 21 (bs [120]) (bs []) [aZero, aZero, aZero] 2 1
def e9 : ProgD := pMain [iIte]
def iAdd : InstrD := ins 1 4 (bs [120]) (bs []) [⟨bs [121], 0⟩, ⟨bs [120], 0⟩] 0 0
def iRead : InstrD := ins 5 0 (bs [122]) (bs [99]) [] 0 0
def e10 : ProgD := ⟨1, [bs [99]], [], [], [iAdd, iRead]⟩
set_option maxRecDepth 100000
theorem ck1 : checkF e1 = none := by rw [check_plain rfl]; kernel_rfl
theorem ck2 : checkF e2 = some ⟨0, 0, 3⟩ := by rw [check_plain rfl]; kernel_rfl
theorem ck3 : checkF e3 = none := by rw [check_plain rfl]; kernel_rfl
theorem ck4 : checkF e4 = some ⟨3, 1, 6⟩ := by rw [check_plain rfl]; kernel_rfl
theorem ck6 : checkF e6 = some ⟨0, 0, 8⟩ := by rw [check_plain rfl]; kernel_rfl
theorem ck7 : checkF e7 = some ⟨0, 0, 4⟩ := by rw [check_plain rfl]; kernel_rfl
theorem ck8 : checkF e8 = some ⟨2, 1, 4⟩ := by rw [check_plain rfl]; kernel_rfl
theorem ck9 : checkF e9 = some ⟨2, 1, 4⟩ := by rw [check_plain rfl]; kernel_rfl
theorem ck10 : checkF e10 = none := by rw [check_plain rfl]; kernel_rfl
theorem ck5a : checkA e5 = none := by kernel_rfl
theorem ck5 : checkF e5 = some ⟨2, 1, 9⟩ := by
  rw [check_split, ck5a]
  have hr : Reach e5.funcs fLoop.name fLoop.name := .one ⟨fLoop, by kernel_rfl, by simp [callsOf, fLoop, iCall, ins]⟩
  have hl : loopB e5.funcs fLoop.name = true := by unfold loopB; simpa using hr
  show (loopsF e5.funcs) = _
  have : loopsF e5.funcs = (needF (!loopB e5.funcs fLoop.name) 2 1 9).or none := rfl
  rw [this, hl]; rfl
theorem lc1 : localsF e10 (-1) = ([bs [120], bs [121], bs [122]], 0) := by
  unfold localsF
  rw [ck10]
  kernel_rfl
theorem lc2 : localsF e10 0 = ([], 3) := by
  unfold localsF
  rw [ck10]
  kernel_rfl
end Go.Proofs.YtgcfdbhpophnjaaDoor
