/- Contracts of the reference's names and Sites. Condition: what comes in reads. Contract of the reference's Sites: the different sites of all instructions. Condition: the program reads, and has at most 100000 instructions. Contract of the reference's refers: the first fault of what instructions refer to. Condition: the program reads. Contract of the reference's body: the first fault of the instructions of a function by themselves. Condition: the program reads, and has at most 100000 instructions. -/
import Derived.Test.YtgllkgedjplpdaaDoorFeP
import Derived.Test.YtgllkgedjplpdaaDoorSpec
import Derived.Test.YtgllkgedjplpdaaDoorLoc
import Derived.Test.YtgllkgedjplpdaaDoorMix
set_option linter.all false
set_option maxRecDepth 1000000
set_option maxHeartbeats 12800000
set_option linter.unusedVariables false
set_option linter.unusedSimpArgs false
namespace Go.Proofs.YtgllkgedjplpdaaDoor
open Go.ChangeShapes Go.WideShapes Go.ChangeAt Go.RowKit
theorem firstF_hit {α:Type} {f:List α→α→Option FaultD} {l:List α} {k:Nat} {x:α} {F:FaultD} (h:l[k]?=some x) (hn:firstF f [] (l.take k)=none) (hf:f (l.take k) x=some F):firstF f [] l=some F:=by
 have e:l=l.take k ++ x :: l.drop (k+1):=by
  have hk:k<l.length:=(List.getElem?_eq_some_iff.1 h).1
  rw [← (List.getElem?_eq_some_iff.1 h).2,List.getElem_cons_drop,List.take_append_drop]
 rw [e,firstF_append,hn,Option.none_or,List.nil_append,firstF,hf]
 rfl
theorem firstF_go {α:Type} {f:List α→α→Option FaultD} {l:List α} {k:Nat} {x:α} (h:l[k]?=some x) (hn:firstF f [] (l.take k)=none) (hf:f (l.take k) x=none):firstF f [] (l.take (k+1))=none:=by
 rw [List.take_add_one,h,firstF_append,hn,Option.none_or,List.nil_append]
 simp [firstF,hf]
def namesE (l:List ByteArray):Int:=if 32<l.length then 5 else errOf (declsF l 0 0)
def preC (p:ProgD) (i:Nat):List InstrD:=codesOf (p.funcs.take i) ++ (if p.funcs.length<i then p.main else [])
theorem codesOf_append (l m:List FuncD):codesOf (l ++ m)=codesOf l ++ codesOf m:=by unfold codesOf;rw [List.flatMap_append]
theorem preC_step {p:ProgD} {i:Nat} (hi:i≤p.funcs.length):preC p (i+1)=preC p i ++ codeAt p i:=by
 unfold preC codeAt
 by_cases h:i<p.funcs.length
 ·obtain ⟨f,hf⟩:∃ f,p.funcs[i]?=some f:=⟨_,List.getElem?_eq_getElem h⟩
  rw [if_neg (by omega),if_neg (by omega),List.take_add_one,hf,codesOf_append]
  simp [codesOf]
 ·obtain rfl:i=p.funcs.length:=by omega
  rw [if_pos (by omega),if_neg (by omega),List.take_of_length_le (by omega),List.take_length,List.getElem?_eq_none (by omega)]
  simp
theorem preC_len (p:ProgD) (i:Nat):(preC p i).length≤(codesOf p.funcs).length+p.main.length:=by
 unfold preC
 have h:codesOf p.funcs=codesOf (p.funcs.take i) ++ codesOf (p.funcs.drop i):=by rw [← codesOf_append,List.take_append_drop]
 have:=congrArg List.length h
 rw [List.length_append] at this
 rw [List.length_append]
 split <;> simp <;> omega
theorem sites_len:∀ (l:List InstrD) (s:List ByteArray),(sitesOf s l).length≤s.length+l.length
 | [],s=>by simp [sitesOf]
 | x :: l,s=>by
  have h:sitesOf s (x :: l)=sitesOf (if x.kind == 7 then putL x.name s else s) l:=rfl
  rw [h]
  have:=sites_len l (if x.kind == 7 then putL x.name s else s)
  have h2:(if x.kind == 7 then putL x.name s else s).length≤s.length+1:=by
   split
   ·unfold putL;split <;> simp
   ·omega
  simp only [List.length_cons]
  omega
theorem code_step (l:List InstrD) {k:Nat} {x:InstrD} (h:l[k]?=some x) (s:List ByteArray):sitesOf s (l.take (k+1))=if x.kind == 7 then putL x.name (sitesOf s (l.take k)) else sitesOf s (l.take k):=by
 rw [List.take_add_one,h]
 exact sitesOf_snoc _ _ _
theorem find_atL (s:ByteArray) (l:List FuncD):(∃ (j:Nat) (f:FuncD),findZ s l=j∧l[j]?=some f∧atL s (paramsOf l)=some (f.params.length:Int)) ∨ (findZ s l=-1∧atL s (paramsOf l)=none):=by
 unfold findZ atL paramsOf
 rw [List.find?_map]
 cases h:l.findIdx? (fun f=>decide (f.name=s)) with
 | none=>
  refine .inr ⟨rfl,?_⟩
  have:l.find? ((fun p:ByteArray × Int=>decide (p.1=s)) ∘ fun f=>(f.name,(f.params.length:Int)))=none:=by
   rw [List.find?_eq_none]
   intro x hx
   simpa using List.findIdx?_eq_none_iff.1 h x hx
  rw [this];rfl
 | some j=>
  refine .inl ⟨j,?_⟩
  obtain ⟨hj,h1,h2⟩:=List.findIdx?_eq_some_iff_getElem.1 h
  refine ⟨l[j],rfl,List.getElem?_eq_getElem hj,?_⟩
  have:l.find? ((fun p:ByteArray × Int=>decide (p.1=s)) ∘ fun f=>(f.name,(f.params.length:Int)))=some l[j]:=by
   rw [List.find?_eq_some_iff_getElem]
   exact ⟨h1,j,hj,rfl,fun i hi=>by simpa using h2 i hi⟩
  rw [this];rfl
theorem labR_step (l:List InstrD) {k:Nat} {x:InstrD} (h:l[k]?=some x):labelsOf (l.take (k+1))=if x.kind == 10 then labelsOf (l.take k) ++ [x.name] else labelsOf (l.take k):=by
 rw [List.take_add_one,h]
 exact labelsOf_snoc _ _
theorem inL_snocR (s x:ByteArray) (l:List ByteArray):inL s (l ++ [x])=(inL s l || decide (s=x)):=by
 unfold inL
 rw [List.any_append];simp
theorem target_jump {ps:List (ByteArray × Int)} {ls:List ByteArray} {x:InstrD} (h:x.kind=8 ∨ x.kind=9):targetF ps ls x=needF (inL x.name ls) x.line x.col 6:=by unfold targetF;rw [if_pos h]
theorem target_none {ps:List (ByteArray × Int)} {ls:List ByteArray} {x:InstrD} (h:¬ (x.kind=8 ∨ x.kind=9)) (h4:x.kind ≠ 4):targetF ps ls x=none:=by unfold targetF;rw [if_neg h,if_neg h4]
theorem target_call {ps:List (ByteArray × Int)} {ls:List ByteArray} {x:InstrD} (h4:x.kind=4):targetF ps ls x=(needF (atL x.name ps).isSome x.line x.col 6).or (needF (decide ((atL x.name ps).getD 0=x.args.length)) x.line x.col 4):=by
 unfold targetF;rw [if_neg (by omega),if_pos h4]
def refV (F:Option FaultD):Value:=.tuple #[.agg #[.int .i64 (posL F),.int .i64 (posC F)],.int .i64 (errOf F)]
theorem pos_row {w:World} {g:Nat} {l c l' c':Int} (hg:w.heap[g]?=some (.cells #[.int .i64 l,.int .i64 c] 46 (0,0))) :
  ((w.setCell ⟨g,0,none⟩ (.int .i64 l')).setCell ⟨g,1,none⟩ (.int .i64 c')).heap[g]?=some (.cells #[.int .i64 l',.int .i64 c'] 46 (0,0)):=
 heap_setCell_same _ _ 1 _ _ (.int .i64 c') (heap_setCell_same _ _ 0 _ _ (.int .i64 l') hg)
def bodyR (chans arrays:List ByteArray) (main:Bool) (S:List ByteArray) (labels:List ByteArray) (x:InstrD):Option FaultD:=
 if !formB x || (decide (x.kind=12) && main) then some ⟨x.line,x.col,4⟩
 else if (decide (x.kind=5) || decide (x.kind=6)) && !inL x.name chans then some ⟨x.line,x.col,6⟩
 else if (decide (x.kind=2) || decide (x.kind=3)) && !inL x.name arrays then some ⟨x.line,x.col,6⟩
 else if decide (x.kind=10) && inL x.name labels then some ⟨x.line,x.col,8⟩
 else if decide (x.kind=7) && !inL x.name S then some ⟨x.line,x.col,5⟩
 else none
def sitesP (p:ProgD):List ByteArray:=(sitesOf [] (preC p (p.funcs.length+1))).take 32
def codeR (p:ProgD) (i:Nat):Option FaultD:=firstF (fun d x=>bodyR p.chans (aNames p.arrays) (decide (i=p.funcs.length)) (sitesP p) (labelsOf d) x) [] (codeAt p i)
end Go.Proofs.YtgllkgedjplpdaaDoor
