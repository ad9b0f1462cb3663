/- What the check answers for the chapter's examples. Plain. Contracts of the small helpers of the statements: at, is, main. The walk of awake: the chapter's examples hold. Condition: the tables are laid. -/
import Derived.Test.YtgcfdbhpophnjaaDoorLoc
import Derived.Test.YtgcfdbhpophnjaaDoorKitE
import Derived.Test.YtgcfdbhpophnjaaDoorMix
set_option linter.all false
set_option maxRecDepth 1000000
set_option maxHeartbeats 12800000
namespace Go.Proofs.YtgcfdbhpophnjaaDoor
def checkA (p:ProgD):Option FaultD:=
 (needF (decide (1≤p.width)&&decide (p.width≤64)) 0 0 3).or <|
 (needF (decide (p.chans.length≤32)) 0 0 5).or <|
 (declsF p.chans 0 0).or <|
 (needF (decide (p.arrays.length≤32)) 0 0 5).or <|
 (arrsF p.arrays).or <|
 (needF (decide (p.funcs.length≤32)) 0 0 5).or <|
 (funcsF p.chans (aNames p.arrays) p.funcs).or <|
 (instrsF p.chans (aNames p.arrays) true (sitesOf [] (codesOf p.funcs)) p.main 0 0).or <|
 (targsF p.funcs).or <|
 (targetsF (paramsOf p.funcs) (labelsOf p.main) p.main)
theorem check_split (p:ProgD):checkF p=(checkA p).or (loopsF p.funcs):=by
 unfold checkF checkA
 simp only[Option.or_assoc]
theorem check_plain {p:ProgD} (h:p.funcs=[]):checkF p=checkA p:=by
 rw[check_split,h]
 simp[loopsF,firstF]
def bs (l:List UInt8):ByteArray:=⟨l.toArray⟩
def ins (kind op:Int) (dst name:ByteArray) (args:List ArgD) (line col:Int):InstrD:=⟨kind,op,dst,name,args,line,col⟩
def pMain (l:List InstrD):ProgD:=⟨1,[],[],[],l⟩
def e1:ProgD:=pMain []
def e2:ProgD:=⟨0,[],[],[],[]⟩
def iLabel:InstrD:=ins 10 0 (bs []) (bs [76]) [] 0 0
def iJump:InstrD:=ins 8 0 (bs []) (bs [76]) [] 0 0
def iThere:InstrD:=ins 8 0 (bs []) (bs [76]) [] 3 1
def e3:ProgD:=pMain [iLabel,iJump]
def e4:ProgD:=pMain [iThere]
def iCall:InstrD:=ins 4 0 (bs [120]) (bs [102]) [] 0 0
def fLoop:FuncD:=⟨bs [102],[],[iCall],2,1⟩
def e5:ProgD:=⟨1,[],[],[fLoop],[]⟩
def e6:ProgD:=⟨1,[bs [97],bs [97]],[],[],[]⟩
def e7:ProgD:=⟨1,[bs [101,110,100]],[],[],[]⟩
def aZero:ArgD:=⟨bs [],0⟩
def iRet:InstrD:=ins 12 0 (bs []) (bs []) [aZero] 2 1
def e8:ProgD:=pMain [iRet]
def iIte:InstrD:=ins 1 21 (bs [120]) (bs []) [aZero,aZero,aZero] 2 1
def e9:ProgD:=pMain [iIte]
def iAdd:InstrD:=ins 1 4 (bs [120]) (bs []) [⟨bs [121],0⟩,⟨bs [120],0⟩] 0 0
def iRead:InstrD:=ins 5 0 (bs [122]) (bs [99]) [] 0 0
def e10:ProgD:=⟨1,[bs [99]],[],[],[iAdd,iRead]⟩
open Go.ChangeShapes Go.WideShapes Go.ChangeAt Go.RowKit
instance (n:Int):Decidable (InI64 n):=by unfold InI64;infer_instance
instance (n:Int):Decidable (InU64 n):=by unfold InU64;infer_instance
instance (n:Int):Decidable (InU8 n):=by unfold InU8;infer_instance
theorem rdArrs_nil (lo:Option (Nat→Prop)) (w:World):RdArrs lo w (.slice none 0 0) []:=⟨none,0,rfl,by simp,fun i s h=>by simp at h⟩
theorem rdArgs_nil (lo:Option (Nat→Prop)) (w:World):RdArgs lo w (.slice none 0 0) []:=⟨none,0,rfl,by simp,fun i s h=>by simp at h⟩
theorem rdInstrs_nil (lo:Option (Nat→Prop)) (w:World):RdInstrs lo w (.slice none 0 0) []:=⟨none,0,rfl,by simp,fun i s h=>by simp at h⟩
theorem rdFuncs_nil (lo:Option (Nat→Prop)) (w:World):RdFuncs lo w (.slice none 0 0) []:=⟨none,0,rfl,by simp,fun i s h=>by simp at h⟩
theorem rdI {w:World} {g c:Nat} {l:List (InstrD × Value)} (hg:w.heap[g]?=some (.cells (l.flatMap insCells).toArray 60 (0,0))) (hl:l.length≤1000) (hx:∀ p∈l,RdInstr none w p.1 p.2) (hcap:l.length≤c:=by simp):RdInstrs none w (.slice (some ⟨g,0,none⟩) l.length c) (l.map Prod.fst):=by
 refine⟨some ⟨g,0,none⟩,c,by rw[List.length_map],by rw[List.length_map];omega,fun i s hs=>?_⟩
 rw[List.getElem?_map] at hs
 cases hp:l[i]? with
 | none=>rw[hp] at hs;cases hs
 | some p=>
  rw[hp] at hs
  cases hs
  have hcell:∀ j v,j<7→(insCells p)[j]?=some v→w.cell? ⟨g,0+i*7+j,none⟩=some v:=fun j v hj hv=>by
   refine row_of hg (0+i*7+j) v ?_
   have:=flat_get insCells 7 (fun _=>rfl) l i j p hp hj
   rw[Nat.zero_add,List.getElem?_toArray,this]
   exact hv
  exact⟨g,0,p.2,rfl,Free.none _ _ _,hcell 0 _ (by omega) rfl,hcell 1 _ (by omega) rfl,hcell 2 _ (by omega) rfl,hcell 3 _ (by omega) rfl,hcell 4 _ (by omega) rfl,hcell 5 _ (by omega) rfl,hcell 6 _ (by omega) rfl,hx p (List.mem_of_getElem? hp)⟩
theorem rdA {w:World} {g c:Nat} {l:List ArgD} (hg:w.heap[g]?=some (.cells (l.flatMap argCells).toArray 65 (0,0))) (hl:l.length≤1000) (hx:∀ s∈l,InU64 s.num∧s.name.size≤maxLen) (hcap:l.length≤c:=by simp):RdArgs none w (.slice (some ⟨g,0,none⟩) l.length c) l:=by
 refine⟨some ⟨g,0,none⟩,c,rfl,by omega,fun i s hs=>⟨g,0,rfl,Free.none _ _ _,row_of hg (0+i*2) _ ?_,row_of hg (0+i*2+1) _ ?_,hx s (List.mem_of_getElem? hs)⟩⟩
 ·have:=flat_get argCells 2 (fun _=>rfl) l i 0 s hs (by omega)
  rw[Nat.zero_add,List.getElem?_toArray,← Nat.add_zero (i*2),this];rfl
 ·have:=flat_get argCells 2 (fun _=>rfl) l i 1 s hs (by omega)
  rw[Nat.zero_add,List.getElem?_toArray,this];rfl
theorem rdS {w:World} {g c:Nat} {l:List ByteArray} (hg:w.heap[g]?=some (.cells (l.flatMap strCells).toArray 9 (0,0))) (hl:l.length≤1000) (hx:∀ s∈l,s.size≤maxLen) (hcap:l.length≤c:=by simp):RdStrs none w (.slice (some ⟨g,0,none⟩) l.length c) l:=by
 refine⟨some ⟨g,0,none⟩,c,rfl,by omega,fun i s hs=>⟨g,0,rfl,Free.none _ _ _,row_of hg (0+i) _ ?_,hx s (List.mem_of_getElem? hs)⟩⟩
 have:=flat_get strCells 1 (fun _=>rfl) l i 0 s hs (by omega)
 rw[Nat.mul_one,Nat.add_zero] at this
 rw[Nat.zero_add,List.getElem?_toArray,this];rfl
end Go.Proofs.YtgcfdbhpophnjaaDoor
