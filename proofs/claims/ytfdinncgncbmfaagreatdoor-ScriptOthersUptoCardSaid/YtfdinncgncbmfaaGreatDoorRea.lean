/- The sites that there may be: the program's list cut at 32, against the list so far. Plain. The reference's check of declarations, arrays, functions and main is the check in order. Plain. What a search through calls, breadth first, has found when nothing is left to do: exactly what is reached. Plain. A queue of numbers: a slice that is cut at its front and appended to. Laws for the walk. Condition: it lies in memory of the call's own. Contract of the reference's reaches: which functions a function calls, directly or through others. Conditions: the program reads; its functions have different names. -/
import Derived.Test.YtfdinncgncbmfaaGreatDoorRefD
import Derived.Maps.AppendAt
import Derived.Deep.OwnRows
set_option linter.all false
set_option maxRecDepth 1000000
set_option maxHeartbeats 12800000
set_option linter.unusedVariables false
set_option linter.unusedSimpArgs false
namespace Go.Proofs.YtfdinncgncbmfaaGreatDoor
theorem putL_prefix (s:ByteArray) (l:List ByteArray):∃ r,putL s l=l ++ r:=by
 unfold putL
 split
 ·exact ⟨[],by simp⟩
 ·exact ⟨[s],rfl⟩
theorem sites_prefix:∀ (m:List InstrD) (s:List ByteArray),∃ r,sitesOf s m=s ++ r
 | [],s=>⟨[],by simp [sitesOf]⟩
 | x :: m,s=>by
  have h:sitesOf s (x :: m)=sitesOf (if x.kind == 7 then putL x.name s else s) m:=rfl
  rw [h]
  obtain ⟨r1,h1⟩:∃ r,(if x.kind == 7 then putL x.name s else s)=s ++ r:=by
   split
   ·exact putL_prefix _ _
   ·exact ⟨[],by simp⟩
  obtain ⟨r2,h2⟩:=sites_prefix m (if x.kind == 7 then putL x.name s else s)
  exact ⟨r1 ++ r2,by rw [h2,h1,List.append_assoc]⟩
theorem putL_nodup {s:ByteArray} {l:List ByteArray} (h:l.Nodup):(putL s l).Nodup:=by
 unfold putL
 split
 ·exact h
 ·rename_i hn
  rw [List.nodup_append]
  refine ⟨h,by simp,fun a ha b hb e=>?_⟩
  rw [List.mem_singleton] at hb
  subst hb;subst e
  exact hn (inL_iff.2 ha)
theorem sites_nodup:∀ (m:List InstrD) (s:List ByteArray),s.Nodup→(sitesOf s m).Nodup
 | [],s,h=>h
 | x :: m,s,h=>by
  have e:sitesOf s (x :: m)=sitesOf (if x.kind == 7 then putL x.name s else s) m:=rfl
  rw [e]
  refine sites_nodup m _ ?_
  split
  ·exact putL_nodup h
  ·exact h
theorem inL_append (s:ByteArray) (l m:List ByteArray):inL s (l ++ m)=(inL s l || inL s m):=by
 unfold inL;rw [List.any_append]
theorem site_take {s:List ByteArray} {x:InstrD} {m:List InstrD} (h7:x.kind=7) (hs:s.Nodup) (h32:s.length≤32) :
  inL x.name ((sitesOf s (x :: m)).take 32)=(inL x.name s || decide (s.length<32)):=by
 have e:sitesOf s (x :: m)=sitesOf (putL x.name s) m:=by
  have:(x.kind == 7)=true:=by simp [h7]
  show sitesOf (if x.kind == 7 then putL x.name s else s) m=_
  rw [this];rfl
 obtain ⟨r,hr⟩:=sites_prefix m (putL x.name s)
 have hnd:=sites_nodup m (putL x.name s) (putL_nodup hs)
 rw [e]
 rw [hr] at hnd ⊢
 cases hin:inL x.name s with
 | true=>
  have hp:putL x.name s=s:=by unfold putL;rw [if_pos hin]
  rw [hp,List.take_append,List.take_of_length_le h32,inL_append,hin];rfl
 | false=>
  have hp:putL x.name s=s ++ [x.name]:=by unfold putL;rw [if_neg (by rw [hin];simp)]
  rw [hp] at hnd ⊢
  rw [Bool.false_or]
  by_cases hl:s.length<32
  ·rw [decide_eq_true hl,inL_iff,List.take_append,List.mem_append]
   refine .inl ?_
   rw [List.take_of_length_le (by simp;omega)]
   simp
  ·have hl':s.length=32:=by omega
   rw [decide_eq_false hl]
   cases hq:inL x.name ((s ++ [x.name] ++ r).take 32) with
   | false=>rfl
   | true=>
    rw [List.append_assoc,List.take_append,hl',Nat.sub_self,List.take_zero,List.append_nil,List.take_of_length_le (by omega),hin] at hq
    cases hq
theorem body_is {chans arrays S s labels:List ByteArray} {main:Bool} {x:InstrD} (hS:x.kind=7→inL x.name S=(inL x.name s || decide (s.length<32))):bodyR chans arrays main S labels x=instrF chans arrays main labels s x:=by
 unfold bodyR instrF
 cases hf:formB x
 ·simp [needF]
 ·by_cases h12:x.kind=12
  ·cases main
   ·have:restF chans arrays labels s x=none:=by unfold restF;simp [h12]
    simp [h12,needF,this]
   ·simp [h12,needF]
  ·have e12:(x.kind == 12)=false:=by simp [h12]
   have e4:needF (true && !(main && x.kind == 12)) x.line x.col 4=none:=by rw [e12];simp [needF]
   rw [e4,Option.none_or]
   simp only [h12,decide_false,Bool.false_and,Bool.not_true,Bool.or_false,Bool.false_eq_true,if_false]
   unfold restF
   by_cases h5:x.kind=5
   ·cases h:inL x.name chans <;> simp [h5,needF,h]
   ·by_cases h6:x.kind=6
    ·cases h:inL x.name chans <;> simp [h6,needF,h]
    ·by_cases h2:x.kind=2
     ·cases h:inL x.name arrays <;> simp [h2,needF,h]
     ·by_cases h3:x.kind=3
      ·cases h:inL x.name arrays <;> simp [h3,needF,h]
      ·by_cases h10:x.kind=10
       ·cases h:inL x.name labels <;> simp [h10,needF,h]
       ·by_cases h7:x.kind=7
        ·rw [hS h7]
         cases h:(inL x.name s || decide (s.length<32)) <;> simp [h7,needF]
        ·simp [h5,h6,h2,h3,h10,h7]
theorem sites_bound {chans arrays S0:List ByteArray} {main:Bool}:∀ (l d:List InstrD),(sitesOf S0 d).length≤32→firstF (fun d x=>instrF chans arrays main (labelsOf d) (sitesOf S0 d) x) d l=none→(sitesOf S0 (d ++ l)).length≤32
 | [],d,h,_=>by simpa using h
 | x :: r,d,h,hf=>by
  simp only [firstF,Option.or_eq_none_iff] at hf
  have h1:(sitesOf S0 (d ++ [x])).length≤32:=by
   rw [sitesOf_snoc]
   split
   ·rename_i h7
    have h7':x.kind=7:=by simpa using h7
    unfold putL
    split
    ·exact h
    ·rename_i hin
     have hr:=(Option.or_eq_none_iff.1 hf.1).2
     unfold restF at hr
     simp only [h7'] at hr
     simp [needF] at hr
     have:inL x.name (sitesOf S0 d)=false:=by simpa using hin
     rw [this] at hr
     simp at hr
     simp;omega
   ·exact h
  have:=sites_bound r (d ++ [x]) h1 hf.2
  simpa using this
theorem code_is {chans arrays S0:List ByteArray} {main:Bool} {code post:List InstrD} (hn:S0.Nodup) (h0:S0.length≤32) :
  firstF (fun d x=>bodyR chans arrays main ((sitesOf S0 (code ++ post)).take 32) (labelsOf d) x) [] code=codeF chans arrays main S0 code:=by
 unfold codeF
 refine (firstF_congr _ _ code [] (fun d x r e _ hp=>?_)).symm
 simp only [List.nil_append,List.length_nil,Nat.sub_zero] at e hp
 have hd:code.take d.length=d:=by rw [e];simp
 rw [hd] at hp
 have hb:=sites_bound d [] (by simpa [sitesOf] using h0) hp
 rw [List.nil_append] at hb
 refine (body_is (fun h7=>?_)).symm
 rw [e,List.append_assoc,List.cons_append,sitesOf_append]
 exact site_take h7 (sites_nodup d S0 hn) hb
def atF (l c:Int) (F:FaultD):FaultD:=⟨l,c,F.e⟩
theorem needF_at (ok:Bool) (l c x y e:Int):(needF ok x y e).map (atF l c)=needF ok l c e:=by cases ok <;> rfl
theorem or_map (m:FaultD→FaultD) (a b:Option FaultD):(a.or b).map m=(a.map m).or (b.map m):=by cases a <;> rfl
theorem firstF_map {α:Type} (m:FaultD→FaultD) (f g:List α→α→Option FaultD) (h:∀ d x,g d x=(f d x).map m):∀ (l d:List α),firstF g d l=(firstF f d l).map m
 | [],_=>rfl
 | x :: r,d=>by
  simp only [firstF,or_map,h]
  rw [firstF_map m f g h r (d ++ [x])]
theorem declsF_at (l:List ByteArray) (x y:Int):(declsF l 0 0).map (atF x y)=declsF l x y:=by
 unfold declsF
 exact (firstF_map (atF x y) _ _ (fun d s=>by unfold declF;rw [or_map,needF_at,needF_at]) l []).symm
def namesF (l:List ByteArray) (x y:Int):Option FaultD:=if 32<l.length then some ⟨x,y,5⟩ else (declsF l 0 0).map (atF x y)
theorem namesF_is (l:List ByteArray) (x y:Int):namesF l x y=(needF (decide (l.length≤32)) x y 5).or (declsF l x y):=by
 unfold namesF
 by_cases h:32<l.length
 ·have:¬ l.length≤32:=by omega
  rw [if_pos h];simp [needF,this]
 ·have:l.length≤32:=by omega
  rw [if_neg h,declsF_at];simp [needF,this]
theorem namesF_err (l:List ByteArray) (x y:Int):errOf (namesF l x y)=namesE l:=by
 unfold namesF namesE
 by_cases h:32<l.length
 ·rw [if_pos h,if_pos h];rfl
 ·rw [if_neg h,if_neg h];cases declsF l 0 0 <;> rfl
theorem namesF_next {l:List ByteArray} {s:ByteArray} {x y:Int} (h:(l ++ [s]).length≤32) (hn:declsF l x y=none):namesF (l ++ [s]) x y=declF l s x y:=by
 rw [namesF_is,decide_eq_true h]
 unfold declsF at hn ⊢
 rw [firstF_append,hn]
 simp [needF,firstF]
theorem declsF_none_at {l:List ByteArray} {x y x' y':Int} (h:declsF l x y=none):declsF l x' y'=none:=by
 rw [← declsF_at] at h ⊢
 cases hd:declsF l 0 0 with
 | none=>rfl
 | some F=>rw [hd] at h;cases h
def refArrF (d:List ArrD) (a:ArrD):Option FaultD:=(namesF (aNames (d ++ [a])) 0 0).or (needF (decide (1≤a.size) && decide (a.size≤64)) 0 0 3)
theorem arrs_names:∀ (l d:List ArrD),declsF (aNames d) 0 0=none→firstF arrF d l=none→declsF (aNames (d ++ l)) 0 0=none
 | [],d,h,_=>by simpa using h
 | x :: r,d,h,hf=>by
  simp only [firstF,Option.or_eq_none_iff] at hf
  have h1:declsF (aNames (d ++ [x])) 0 0=none:=by
   have e:aNames (d ++ [x])=aNames d ++ [x.name]:=by simp [aNames]
   have hx:=(Option.or_eq_none_iff.1 hf.1).1
   rw [e]
   unfold declsF at h ⊢
   rw [firstF_append,h]
   simpa [firstF] using hx
  have:=arrs_names r (d ++ [x]) h1 hf.2
  simpa using this
theorem refArrs {l:List ArrD} (hl:l.length≤32):firstF refArrF [] l=arrsF l:=by
 unfold arrsF
 refine (firstF_congr _ _ l [] (fun d x r e _ hp=>?_)).symm
 simp only [List.nil_append,List.length_nil,Nat.sub_zero] at e hp
 have hd:l.take d.length=d:=by rw [e];simp
 rw [hd] at hp
 have h0:=arrs_names d [] rfl hp
 rw [List.nil_append] at h0
 unfold arrF refArrF
 have e2:aNames (d ++ [x])=aNames d ++ [x.name]:=by simp [aNames]
 have hlen:(aNames d ++ [x.name]).length≤32:=by
  have:=congrArg List.length e
  simp only [List.length_append,List.length_cons] at this
  simp [aNames];omega
 rw [e2,namesF_next hlen h0]
def refFunF (p:ProgD) (d:List FuncD) (f:FuncD):Option FaultD:=
 (namesF (fNames (d ++ [f])) f.line f.col).or ((namesF f.params f.line f.col).or ((needF (decide (f.code.length≤1024)) f.line f.col 5).or (codeR p d.length)))
theorem funcs_names {chans arrays:List ByteArray}:∀ (l d:List FuncD),declsF (fNames d) 0 0=none→firstF (funcF chans arrays) d l=none→declsF (fNames (d ++ l)) 0 0=none
 | [],d,h,_=>by simpa using h
 | x :: r,d,h,hf=>by
  simp only [firstF,Option.or_eq_none_iff] at hf
  have h1:declsF (fNames (d ++ [x])) 0 0=none:=by
   have e:fNames (d ++ [x])=fNames d ++ [x.name]:=by simp [fNames]
   have hx:=(Option.or_eq_none_iff.1 hf.1).1
   have h2:=declsF_none_at (x':=x.line) (y':=x.col) h
   refine declsF_none_at (x:=x.line) (y:=x.col) ?_
   rw [e]
   unfold declsF at h2 ⊢
   rw [firstF_append,h2]
   simpa [firstF] using hx
  have:=funcs_names r (d ++ [x]) h1 hf.2
  simpa using this
theorem funcs_sites {chans arrays:List ByteArray}:∀ (l d:List FuncD),(sitesOf [] (codesOf d)).length≤32→firstF (funcF chans arrays) d l=none→(sitesOf [] (codesOf (d ++ l))).length≤32
 | [],d,h,_=>by simpa using h
 | x :: r,d,h,hf=>by
  simp only [firstF,Option.or_eq_none_iff] at hf
  have hx:=hf.1
  unfold funcF instrsF at hx
  simp only [Option.or_eq_none_iff] at hx
  have h1:(sitesOf [] (codesOf (d ++ [x]))).length≤32:=by
   rw [codesOf_append,sitesOf_append]
   have:=sites_bound (S0:=sitesOf [] (codesOf d)) x.code [] (by simpa [sitesOf] using h) hx.2.2.2.2
   simpa [codesOf] using this
  have:=funcs_sites r (d ++ [x]) h1 hf.2
  simpa using this
theorem codeR_fun {p:ProgD} {d r:List FuncD} {f:FuncD} (e:p.funcs=d ++ f :: r) (h:(sitesOf [] (codesOf d)).length≤32) :
  codeR p d.length=codeF p.chans (aNames p.arrays) false (sitesOf [] (codesOf d)) f.code:=by
 have hlen:p.funcs.length=d.length+(r.length+1):=by rw [e];simp
 have h1:codeAt p d.length=f.code:=by
  unfold codeAt
  have:p.funcs[d.length]?=some f:=by rw [e];simp
  rw [this]
 have h2:sitesOf [] (preC p (p.funcs.length+1))=sitesOf (sitesOf [] (codesOf d)) (f.code ++ (codesOf r ++ p.main)):=by
  unfold preC
  rw [List.take_of_length_le (by omega),if_pos (by omega),e,codesOf_append,List.append_assoc,sitesOf_append]
  congr 1
  show codesOf (f :: r) ++ p.main=_
  simp [codesOf]
 have h3:decide (d.length=p.funcs.length)=false:=by simp;omega
 unfold codeR sitesP
 rw [h1,h2,h3]
 exact code_is (sites_nodup _ [] List.nodup_nil) h
theorem codeR_main {p:ProgD} (h:(sitesOf [] (codesOf p.funcs)).length≤32) :
  codeR p p.funcs.length=codeF p.chans (aNames p.arrays) true (sitesOf [] (codesOf p.funcs)) p.main:=by
 have h1:codeAt p p.funcs.length=p.main:=by unfold codeAt;rw [List.getElem?_eq_none (Nat.le_refl _)]
 have h2:sitesOf [] (preC p (p.funcs.length+1))=sitesOf (sitesOf [] (codesOf p.funcs)) (p.main ++ []):=by
  unfold preC
  rw [List.take_of_length_le (by omega),if_pos (by omega),sitesOf_append,List.append_nil]
 unfold codeR sitesP
 rw [h1,h2,decide_eq_true rfl]
 exact code_is (sites_nodup _ [] List.nodup_nil) h
theorem refFuncs {p:ProgD} (hl:p.funcs.length≤32):firstF (refFunF p) [] p.funcs=funcsF p.chans (aNames p.arrays) p.funcs:=by
 unfold funcsF
 refine (firstF_congr _ _ p.funcs [] (fun d x r e _ hp=>?_)).symm
 simp only [List.nil_append,List.length_nil,Nat.sub_zero] at e hp
 have hd:p.funcs.take d.length=d:=by rw [e];simp
 rw [hd] at hp
 have h0:=funcs_names d [] rfl hp
 have hs:=funcs_sites d [] (by simp [codesOf,sitesOf]) hp
 rw [List.nil_append] at h0 hs
 unfold funcF refFunF instrsF
 have e2:fNames (d ++ [x])=fNames d ++ [x.name]:=by simp [fNames]
 have hlen:(fNames d ++ [x.name]).length≤32:=by
  have:=congrArg List.length e
  simp only [List.length_append,List.length_cons] at this
  simp [fNames];omega
 rw [e2,namesF_next hlen (declsF_none_at h0),namesF_is,codeR_fun e hs,Option.or_assoc]
def refA (p:ProgD):Option FaultD:=
 (needF (decide (1≤p.width) && decide (p.width≤64)) 0 0 3).or <|
 (namesF p.chans 0 0).or <|
 (needF (decide (p.arrays.length≤32)) 0 0 5).or <|
 (firstF refArrF [] p.arrays).or <|
 (needF (decide (p.funcs.length≤32)) 0 0 5).or <|
 (firstF (refFunF p) [] p.funcs).or <|
 (needF (decide (p.main.length≤1024)) 0 0 5).or (codeR p p.funcs.length)
theorem refA_is (p:ProgD) (later:Option FaultD) (h:later=(targsF p.funcs).or ((targetsF (paramsOf p.funcs) (labelsOf p.main) p.main).or (loopsF p.funcs))):(refA p).or later=checkF p:=by
 unfold refA checkF
 rw [h,namesF_is]
 simp only [Option.or_assoc]
 congr 3
 by_cases ha:p.arrays.length≤32
 ·rw [refArrs ha]
  congr 2
  by_cases hf:p.funcs.length≤32
  ·rw [refFuncs hf]
   congr 1
   cases hq:funcsF p.chans (aNames p.arrays) p.funcs with
   | some F=>rfl
   | none=>
    have hs:=funcs_sites p.funcs [] (by simp [codesOf,sitesOf]) hq
    rw [List.nil_append] at hs
    rw [codeR_main hs]
    unfold instrsF
    simp only [Option.or_assoc]
  ·have:needF (decide (p.funcs.length≤32)) 0 0 5=some ⟨0,0,5⟩:=by simp [needF,hf]
   rw [this];rfl
 ·have:needF (decide (p.arrays.length≤32)) 0 0 5=some ⟨0,0,5⟩:=by simp [needF,ha]
  rw [this];rfl
def Distinct (fs:List FuncD):Prop:=∀ (i j:Nat) (f g:FuncD),fs[i]?=some f→fs[j]?=some g→f.name=g.name→i=j
def idxOf (fs:List FuncD) (s:ByteArray):Option Nat:=fs.findIdx? fun f=>decide (f.name=s)
def callees (fs:List FuncD) (x:Nat):List Nat:=match fs[x]? with|some f=>(callsOf f.code).filterMap (idxOf fs)|none=>[]
theorem idxOf_some {fs:List FuncD} {s:ByteArray} {j:Nat} (h:idxOf fs s=some j):∃ f,fs[j]?=some f∧f.name=s:=by
 obtain ⟨hj,h1,_⟩:=List.findIdx?_eq_some_iff_getElem.1 h
 exact ⟨fs[j],List.getElem?_eq_getElem hj,by simpa using h1⟩
theorem idxOf_at {fs:List FuncD} (hd:Distinct fs) {j:Nat} {f:FuncD} (h:fs[j]?=some f):idxOf fs f.name=some j:=by
 cases hi:idxOf fs f.name with
 | none=>
  have:=List.findIdx?_eq_none_iff.1 hi f (List.mem_of_getElem? h)
  simp at this
 | some i=>
  obtain ⟨g,hg,e⟩:=idxOf_some hi
  rw [hd i j g f hg h e]
theorem find_atD {fs:List FuncD} (hd:Distinct fs) {j:Nat} {f:FuncD} (h:fs[j]?=some f):fs.find? (fun g=>decide (g.name=f.name))=some f:=by
 cases hf:fs.find? (fun g=>decide (g.name=f.name)) with
 | none=>
  have:=List.find?_eq_none.1 hf f (List.mem_of_getElem? h)
  simp at this
 | some g=>
  obtain ⟨i,hi⟩:=List.mem_iff_getElem?.1 (List.mem_of_find?_eq_some hf)
  have hn:=List.find?_some hf
  simp only [decide_eq_true_eq] at hn
  have:=hd i j g f hi h hn
  subst this
  rw [h] at hi
  exact hi.symm
theorem calls_idx {fs:List FuncD} (hd:Distinct fs) {x y:Nat} {f g:FuncD} (hx:fs[x]?=some f) (hy:fs[y]?=some g):CallsN fs f.name g.name ↔ y ∈ callees fs x:=by
 unfold CallsN callees
 rw [find_atD hd hx,hx]
 simp only [Option.some.injEq,exists_eq_left',List.mem_filterMap]
 constructor
 ·intro h
  exact ⟨g.name,h,idxOf_at hd hy⟩
 ·rintro ⟨s,hs,hi⟩
  obtain ⟨g',hg',rfl⟩:=idxOf_some hi
  rw [hy] at hg'
  cases hg'
  exact hs
structure Search (fs:List FuncD) (f:FuncD) (i:Nat) (out:List Bool) (todo:List Nat) (X:Option Nat) (ds:List Nat):Prop where
 len:out.length=fs.length
 sound:∀ (j:Nat) (g:FuncD),fs[j]?=some g→out[j]?=some true→Reach fs f.name g.name
 left:∀ x:Nat,x ∈ todo→x<fs.length∧(x=i ∨ out[x]?=some true)
 all:∀ x:Nat,x<fs.length→(x=i ∨ out[x]?=some true)→x ∈ todo ∨ X=some x ∨ ∀ y:Nat,y ∈ callees fs x→out[y]?=some true
 cur:∀ x:Nat,X=some x→x<fs.length∧(x=i ∨ out[x]?=some true)∧∀ y:Nat,y ∈ ds→out[y]?=some true
section
variable {fs:List FuncD} {f:FuncD} {i:Nat} {out:List Bool} {todo:List Nat}
theorem Search.start (hi:fs[i]?=some f):Search fs f i (List.replicate fs.length false) [i] none [] where
 len:=by simp
 sound:=fun j g hj h=>by
  rw [List.getElem?_replicate] at h
  split at h <;> simp at h
 left:=fun x hx=>by
  rw [List.mem_singleton] at hx
  exact ⟨by rw [hx];exact (List.getElem?_eq_some_iff.1 hi).1,.inl hx⟩
 all:=fun x hx h=>by
  rcases h with h|h
  ·exact .inl (by simp [h])
  ·rw [List.getElem?_replicate] at h
   split at h <;> simp at h
 cur:=fun x h=>by cases h
theorem Search.pop {x:Nat} (h:Search fs f i out (x :: todo) none []):Search fs f i out todo (some x) [] where
 len:=h.len
 sound:=h.sound
 left:=fun y hy=>h.left y (List.mem_cons_of_mem _ hy)
 all:=fun y hy hr=>by
  rcases h.all y hy hr with h1|h1|h1
  ·rcases List.mem_cons.1 h1 with rfl|h2
   ·exact .inr (.inl rfl)
   ·exact .inl h2
  ·cases h1
  ·exact .inr (.inr h1)
 cur:=fun y hy=>by
  cases hy
  obtain ⟨h1,h2⟩:=h.left x List.mem_cons_self
  exact ⟨h1,h2,fun y hy=>nomatch hy⟩
theorem Search.skip {x y:Nat} {ds:List Nat} (h:Search fs f i out todo (some x) ds) (hy:out[y]?=some true):Search fs f i out todo (some x) (ds ++ [y]) where
 len:=h.len
 sound:=h.sound
 left:=h.left
 all:=h.all
 cur:=fun z hz=>by
  obtain ⟨h1,h2,h3⟩:=h.cur z hz
  refine ⟨h1,h2,fun u hu=>?_⟩
  rcases List.mem_append.1 hu with h4|h4
  ·exact h3 u h4
  ·rw [List.mem_singleton] at h4;subst h4;exact hy
theorem Search.push (hd:Distinct fs) (hi:fs[i]?=some f) {x y:Nat} {ds:List Nat} (h:Search fs f i out todo (some x) ds) (hy:y<fs.length) (hc:y ∈ callees fs x):Search fs f i (out.set y true) (todo ++ [y]) (some x) (ds ++ [y]):=by
 have hyl:y<out.length:=by rw [h.len];exact hy
 have keep:∀ z:Nat,out[z]?=some true→(out.set y true)[z]?=some true:=by
  intro z hz
  rw [List.getElem?_set]
  split
  ·rfl
  ·exact hz
 have new:(out.set y true)[y]?=some true:=by rw [List.getElem?_set_self hyl]
 obtain ⟨hx1,hx2,hx3⟩:=h.cur x rfl
 refine ⟨by rw [List.length_set];exact h.len,fun j g hj hr=>?_,fun z hz=>?_,fun z hz hr=>?_,fun z hz=>?_⟩
 ·rw [List.getElem?_set] at hr
  split at hr
  ·rename_i e
   subst e
   have hcall:CallsN fs (fs[x]).name g.name:=(calls_idx hd (List.getElem?_eq_getElem hx1) hj).2 hc
   rcases hx2 with rfl|hx2
   ·have:fs[x]=f:=by
     rw [List.getElem?_eq_getElem hx1] at hi
     exact Option.some.inj hi
    rw [this] at hcall
    exact .one hcall
   ·exact .more (h.sound x _ (List.getElem?_eq_getElem hx1) hx2) hcall
  ·exact h.sound j g hj hr
 ·rcases List.mem_append.1 hz with h4|h4
  ·obtain ⟨h5,h6⟩:=h.left z h4
   exact ⟨h5,h6.imp id (keep z)⟩
  ·rw [List.mem_singleton] at h4;subst h4
   exact ⟨hy,.inr new⟩
 ·by_cases e:z=y
  ·subst e
   exact .inl (List.mem_append_right _ (by simp))
  ·have hr':z=i ∨ out[z]?=some true:=by
    refine hr.imp id (fun hh=>?_)
    rw [List.getElem?_set,if_neg (Ne.symm e)] at hh
    exact hh
   rcases h.all z hz hr' with h4|h4|h4
   ·exact .inl (List.mem_append_left _ h4)
   ·exact .inr (.inl h4)
   ·exact .inr (.inr fun u hu=>keep u (h4 u hu))
 ·cases hz
  refine ⟨hx1,hx2.imp id (keep x),fun u hu=>?_⟩
  rcases List.mem_append.1 hu with h4|h4
  ·exact keep u (hx3 u h4)
  ·rw [List.mem_singleton] at h4;subst h4;exact new
theorem Search.finish {x:Nat} {ds:List Nat} (h:Search fs f i out todo (some x) ds) (hs:∀ y ∈ callees fs x,y ∈ ds):Search fs f i out todo none [] where
 len:=h.len
 sound:=h.sound
 left:=h.left
 all:=fun z hz hr=>by
  rcases h.all z hz hr with h4|h4|h4
  ·exact .inl h4
  ·cases h4
   exact .inr (.inr fun y hy=>(h.cur x rfl).2.2 y (hs y hy))
  ·exact .inr (.inr h4)
 cur:=fun z hz=>by cases hz
theorem Search.done (hd:Distinct fs) (hi:fs[i]?=some f) (h:Search fs f i out [] none []) {j:Nat} {g:FuncD} (hj:fs[j]?=some g):out[j]?=some true ↔ Reach fs f.name g.name:=by
 refine ⟨h.sound j g hj,fun hr=>?_⟩
 have hall:∀ b,Reach fs f.name b→∀ (j:Nat) (g:FuncD),fs[j]?=some g→g.name=b→out[j]?=some true:=by
  intro b hb
  induction hb with
  | one hc=>
   intro j g hj e
   subst e
   have hc':=(calls_idx hd hi hj).1 hc
   rcases h.all i (List.getElem?_eq_some_iff.1 hi).1 (.inl rfl) with h4|h4|h4
   ·cases h4
   ·cases h4
   ·exact h4 j hc'
  | more hb' hc ih=>
   intro j g hj e
   subst e
   obtain ⟨g',hg',hm⟩:=hc
   obtain ⟨k,hk⟩:=List.mem_iff_getElem?.1 (List.mem_of_find?_eq_some hg')
   have hn:=List.find?_some hg'
   simp only [decide_eq_true_eq] at hn
   have hk2:=ih k g' hk hn
   have hc':=(calls_idx hd hk hj).1 (by rw [hn];exact ⟨g',hg',hm⟩)
   rcases h.all k (List.getElem?_eq_some_iff.1 hk).1 (.inr hk2) with h4|h4|h4
   ·cases h4
   ·cases h4
   ·exact h4 j hc'
 exact hall _ hr j g hj rfl
end
open Go.ChangeShapes Go.WideShapes Go.ChangeAt Go.RowKit
theorem infoInt:(Tryz.prog.info? 3).map (fun i=>(i.zero,i.size,i.bytes))=some (some (.int .i64 0),1,8):=by kernel_rfl
theorem infoBool:(Tryz.prog.info? 4).map (fun i=>(i.zero,i.size,i.bytes))=some (some (.bool false),1,1):=by kernel_rfl
def Que (w:World) (base:Nat) (v:Value) (xs:List Nat):Prop:=
 ∃ g o cap cur,v=.slice (some ⟨g,o,none⟩) xs.length cap∧base≤g∧w.heap[g]?=some (.cells cur 3 (0,0))∧xs.length≤cap∧cap≤maxLen∧o+cap≤cur.size∧∀ j x,xs[j]?=some x→cur[o+j]?=some (.int .i64 (x:Nat))
theorem Que.start (w:World) {base:Nat} (hb:base≤w.heap.size) (i:Nat):Que (w.alloc (.cells #[.int .i64 i] 3)) base (.slice (some ⟨w.heap.size,0,none⟩) 1 1) [i]:=
 ⟨w.heap.size,0,1,_,rfl,hb,heap_alloc_new _ _,Nat.le_refl _,by unfold maxLen;omega,Nat.le_refl _,fun j x h=>by
  obtain ⟨hj,e⟩:=List.getElem?_eq_some_iff.1 h
  obtain rfl:j=0:=by simp at hj;omega
  simp at e;subst e;rfl⟩
theorem Que.pop {w:World} {base:Nat} {v:Value} {x:Nat} {xs:List Nat} (h:Que w base v (x :: xs)) :
  ∃ g o cap,v=.slice (some ⟨g,o,none⟩) (xs.length+1) cap∧xs.length+1≤cap∧w.cell? ⟨g,o,none⟩=some (.int .i64 x)∧base≤g∧Que w base (.slice (if cap=1 then some ⟨g,o,none⟩ else some ⟨g,o+1,none⟩) xs.length (cap - 1)) xs:=by
 obtain ⟨g,o,cap,cur,rfl,hg,hc,hn,hm,hs,hx⟩:=h
 simp only [List.length_cons] at hn
 refine ⟨g,o,cap,by rw [List.length_cons],by omega,?_,hg,?_⟩
 ·have:=hx 0 x rfl
  rw [cell_of_row w g o cur _ (0,0) hc];exact this
 ·by_cases h1:cap=1
  ·rw [if_pos h1]
   have:xs=[]:=List.eq_nil_of_length_eq_zero (by omega)
   subst this
   exact ⟨g,o,cap - 1,cur,rfl,hg,hc,by simp,by omega,by omega,fun j x h=>by simp at h⟩
  ·rw [if_neg h1]
   refine ⟨g,o+1,cap - 1,cur,rfl,hg,hc,by omega,by omega,by omega,fun j y h=>?_⟩
   have:=hx (j+1) y (by simpa using h)
   rw [show o+1+j=o+(j+1) by omega];exact this
theorem Que.keep {w w':World} {base:Nat} {v:Value} {xs:List Nat} (h:Que w base v xs) (hb:∀ g,v.ownBlock=some g→w'.heap[g]?=w.heap[g]?):Que w' base v xs:=by
 obtain ⟨g,o,cap,cur,rfl,hg,hc,hr⟩:=h
 exact ⟨g,o,cap,cur,rfl,hg,(hb g rfl).trans hc,hr⟩
theorem Que.lt {w:World} {base:Nat} {v:Value} {xs:List Nat} (h:Que w base v xs):∀ g,v.ownBlock=some g→base≤g∧g<w.heap.size:=by
 obtain ⟨g,o,cap,cur,rfl,hg,hc,hr⟩:=h
 intro k hk
 simp only [Value.ownBlock,Option.some.injEq] at hk
 subst hk
 exact ⟨hg,(Array.getElem?_eq_some_iff.1 hc).1⟩
theorem Que.shape {w:World} {base:Nat} {v:Value} {xs:List Nat} (h:Que w base v xs):∃ a c,v=.slice a xs.length c:=by
 obtain ⟨g,o,cap,cur,rfl,_⟩:=h
 exact ⟨_,_,rfl⟩
theorem Que.below {w w':World} {base:Nat} {v:Value} {xs:List Nat} (h:Que w base v xs) (hb:Below w.heap.size w w'):Que w' base v xs:=h.keep fun g hg=>hb.block g (h.lt g hg).2
theorem Que.turn {S:Nat→Prop} {w w':World} {base:Nat} {v:Value} {xs:List Nat} (h:Que w base v xs) (hb:Turned S w w') (hs:∀ k,S k→k<base):Que w' base v xs:=
 h.keep fun g hg=>hb.block g (h.lt g hg).2 (fun e=>by have:=hs g e;have:=(h.lt g hg).1;omega)
theorem run_que_append {P:Program} {w:World} {base:Nat} (t ty:TypeId) (i:TypeInfo) (ht:P.underlying t=some (.slice 3)) (hi:P.info? 3=some i) (hz:i.zero=some (.int .i64 0)) (hs:i.size=1) (hby:i.bytes=8)
  {v:Value} {xs:List Nat} (h:Que w base v xs) (ad:Addr) (c:Nat) (y:Nat) (hnew:w.cell? ad=some (.int .i64 y)) (hlen:xs.length+1≤1000000000) (hbase:base≤w.heap.size) :
  ∃ v' w',(Builtin.append_ #[t,t] ty #[v,.slice (some ad) 1 c]).run P w=.ok v' w'∧Que w' base v' (xs ++ [y])∧w.grownBy w' v.ownBlock:=by
 obtain ⟨g,o,cap,cur,rfl,hg,hc,hn,hm,hsz,hx⟩:=h
 have hnews:∀ j u,[Value.int .i64 (y:Nat)][j]?=some u→w.cell? (ad.add j)=some u:=by
  intro j u hu
  obtain ⟨hj,e⟩:=List.getElem?_eq_some_iff.1 hu
  obtain rfl:j=0:=by simp at hj;omega
  have:ad.add 0=ad:=by unfold Addr.add;split <;> simp_all
  rw [this,hnew];simpa using e
 have hcell:∀ j,w.cell? ⟨g,j,none⟩=cur[j]?:=fun j=>by rw [cell_of_row w g j cur _ (0,0) hc]
 by_cases hroom:xs.length+1≤cap
 ·have hr:=run_append_room_cells (P:=P) w t ty 3 i ht hi g o xs.length cap ad 1 c [.int .i64 y] (by rw [hs];rfl) hnews (fun u hu=>by simp at hu;subst hu;rfl) hroom
   (fun j hj=>by
    simp at hj;subst hj
    rw [hs,hcell,Array.getElem?_eq_getElem (by omega)];rfl)
   (fun j _=>frozen_of_row w g _ cur _ hc)
  refine ⟨_,_,hr,⟨g,o,cap,cur.setIfInBounds (o+xs.length) (.int .i64 y),by simp,hg,?_,by simp;omega,hm,by simpa using hsz,fun j x hj=>?_⟩,?_⟩
  ·rw [hs,Nat.mul_one]
   exact heap_setCell_same w g (o+xs.length) cur _ (.int .i64 y) hc
  ·rw [Array.getElem?_setIfInBounds]
   by_cases hj':j<xs.length
   ·rw [List.getElem?_append_left hj'] at hj
    rw [if_neg (by omega)]
    exact hx j x hj
   ·rw [List.getElem?_append_right (by omega)] at hj
    obtain ⟨hj2,e⟩:=List.getElem?_eq_some_iff.1 hj
    obtain rfl:j=xs.length:=by simp at hj2;omega
    simp at e;subst e
    rw [if_pos rfl,if_pos (by omega)]
  ·rw [hs,Nat.mul_one]
   exact ⟨rfl,rfl,rfl,by simp [World.setCells],fun k _ hk=>heap_setCell_other w ⟨g,o+xs.length,none⟩ k _ (fun e=>hk (by rw [e];rfl))⟩
 ·obtain ⟨v',w',hr,hown,hgr⟩:=run_append_arg_grows (P:=P) w t ty 3 i (.int .i64 0) 1 8 ht hi hz hs hby rfl (by decide) ⟨g,o,none⟩ xs.length cap (xs.map fun x:Nat=>.int .i64 x) (by simp)
   (fun j u hu=>by
    rw [Addr.add_lit,hcell]
    rw [List.getElem?_map,Option.map_eq_some_iff] at hu
    obtain ⟨x,hx',rfl⟩:=hu
    exact hx j x hx')
   ad 1 c [.int .i64 y] rfl hnews (by omega) (by unfold maxLen;omega) (by omega)
  refine ⟨v',w',hr,?_,⟨hgr.os,hgr.tape,hgr.output,hgr.size,fun k hk _=>hgr.block k hk (by simp)⟩⟩
  obtain ⟨hl,⟨h1,h2⟩|⟨g',cap',cur',rfl,hb',hc',hn',hm',hs',ht'⟩⟩:=hown
  ·omega
  ·refine ⟨g',0,cap',cur',by simp,by omega,hc',by simp;omega,hm',by omega,fun j x hj=>?_⟩
   have hjl:j<xs.length+1:=by have:=(List.getElem?_eq_some_iff.1 hj).1;simpa using this
   have:(cur'.toList.take ((xs.length+1) * 1))[j]?=some (.int .i64 (x:Nat)):=by
    rw [ht',show (xs.map fun x:Nat=>Value.int .i64 x) ++ [.int .i64 y]=(xs ++ [y]).map fun x:Nat=>Value.int .i64 x by simp,List.getElem?_map,hj]
    rfl
   rw [List.getElem?_take,if_pos (by omega),Array.getElem?_toList] at this
   rw [Nat.zero_add];exact this
theorem wpList_que_append {P:Program} {w:World} {ops:Array Oper} {rest:List Oper} {o:Oper} {a:Act} {Q:Exit→Act→World→Prop} (hgd:o.guard=none) (s x:Operand) (t:TypeId)
  (ho:o.op=.call { callee:=.builtin .append,args:=#[s,x],argTypes:=#[t,t] }) {base:Nat} (i:TypeInfo) (ht:P.underlying t=some (.slice 3)) (hi:P.info? 3=some i) (hz:i.zero=some (.int .i64 0)) (hs:i.size=1) (hby:i.bytes=8)
  {v:Value} {xs:List Nat} (hv:a.eval s=v) (h:Que w base v xs) (ad:Addr) (c:Nat) (y:Nat) (hx:a.eval x=.slice (some ad) 1 c) (hnew:w.cell? ad=some (.int .i64 y)) (hlen:xs.length+1≤1000000000) (hbase:base≤w.heap.size)
  (hK:∀ v' w',Que w' base v' (xs ++ [y])→w.grownBy w' v.ownBlock→wpList P ops Q rest (a.put o.dst v') w'):wpList P ops Q (o :: rest) a w:=by
 refine wpList_plain hgd fun K hK'=>?_
 obtain ⟨v',w',hrun,h1,h2⟩:=run_que_append (P:=P) t o.type i ht hi hz hs hby h ad c y hnew hlen hbase
 unfold Oper.wp
 simp [execOp,ho,resolve,invoke,builtin,hv,hx,hrun,Result.andThen]
 exact hK' _ _ (hK v' w' h1 h2)
theorem run_que_cut {P:Program} {t:TypeId} (ht:P.underlying t=some (.slice (P.elem t))) (hs:∀ w,(sizeOf (P.elem t)).run P w=.ok 1 w) (g o n cap:Nat) (hn:n+1≤cap) (w:World) :
  (Instr.sliceAt t (.slice (some ⟨g,o,none⟩) (n+1) cap) (some (.int .i64 1)) none none).run P w=.ok (.slice (if cap=1 then some ⟨g,o,none⟩ else some ⟨g,o+1,none⟩) n (cap - 1)) w:=by
 rw [run_sliceAt_slice w t _ _ _ _ ht,run_slice_l w t _ (n+1) cap ht .i64 1 (by decide) (by omega),hs]
 by_cases h:cap=1
 ·simp [Result.andThen,sliced,h]
 ·simp [Result.andThen,sliced,h,Addr.add_lit]
theorem findZ_idx (s:ByteArray) (l:List FuncD):(∃ y:Nat,idxOf l s=some y∧findZ s l=y∧y<l.length) ∨ (idxOf l s=none∧findZ s l=-1):=by
 unfold findZ idxOf
 cases h:l.findIdx? (fun f=>decide (f.name=s)) with
 | none=>exact .inr ⟨rfl,rfl⟩
 | some j=>exact .inl ⟨j,rfl,rfl,(List.findIdx?_eq_some_iff_getElem.1 h).1⟩
theorem count_cut {l:List Bool} {y:Nat} (h:l[y]?=some false):(l.set y true).count false+1=l.count false:=by
 obtain ⟨hy,e⟩:=List.getElem?_eq_some_iff.1 h
 have hpos:0<l.count false:=List.count_pos_iff.2 (e ▸ List.getElem_mem hy)
 rw [List.count_set hy,e]
 simp
 omega
def boolsO (O:List Bool):Array Value:=(O.map Value.bool).toArray
theorem boolsO_at {O:List Bool} {y:Nat} {b:Bool} (h:O[y]?=some b):(boolsO O)[y]?=some (.bool b):=by
 unfold boolsO;simp [h]
theorem boolsO_set (O:List Bool) (y:Nat):(boolsO O).setIfInBounds y (.bool true)=boolsO (O.set y true):=by
 unfold boolsO
 simp [List.map_set]
theorem made_bools (n:Nat):madeCells #[Value.bool false] n=boolsO (List.replicate n false):=by
 have:=toList_madeCells_one (.bool false) n
 unfold boolsO
 rw [List.map_replicate,← this]
theorem under_ints:Tryz.prog.underlying 60=some (.slice (Tryz.prog.elem 60)):=by kernel_rfl
theorem size_int (w:World):(sizeOf (Tryz.prog.elem 60)).run Tryz.prog w=.ok 1 w:=by kernel_rfl
theorem refReaches (p:ProgD) (cv av fv mv:Value) (i:Nat) (f:FuncD) (w:World) (h:RdProg none w p cv av fv mv) (hd:Distinct p.funcs) (hi:p.funcs[i]?=some f) (hl:p.funcs.length≤32) :
  Calls Tryz.prog 65 #[progV p cv av fv mv,.int .i64 i] w fun e w'=>∃ (b:Nat) (O:List Bool),e=.returned (.slice (some ⟨b,0,none⟩) p.funcs.length p.funcs.length)∧w'.heap[b]?=some (.cells (boolsO O) 4 (0,0))∧O.length=p.funcs.length∧(∀ (j:Nat) (g:FuncD),p.funcs[j]?=some g→(O[j]?=some true ↔ Reach p.funcs f.name g.name))∧Below w.heap.size w w':=by
 obtain ⟨hrc,hra,hrf,hrm,hrw⟩:=id h
 obtain ⟨ac,kc,rfl,-,-⟩:=id hrc
 obtain ⟨aa,ka,rfl,-,-⟩:=id hra
 obtain ⟨af,kf,rfl,-,hrfs⟩:=id hrf
 obtain ⟨am,km,rfl,-,-⟩:=id hrm
 obtain ⟨i0,hj,hz0,hz1,hz2⟩:=info_parts infoBool
 obtain ⟨i1,hj1,hy0,hy1,hy2⟩:=info_parts infoInt
 obtain ⟨fs,hfs⟩:∃ l,l=p.funcs:=⟨_,rfl⟩
 have H:=Lib.hid h
 have HD:=Lib.hid hd
 have HI:=Lib.hid hi
 have HR:=Lib.hid hrfs
 have hlen:=hl
 clear h hrc hra hrf hrm hrw hrfs hd hi hfs
 go_enter Tryz.func65,Tryz.ntmps65
 go_upto_region 1 with fail
 have hb0:=(Below.refl w.heap.size w).alloc (Nat.le_refl _) (.cells #[.int .i64 p.width,.slice ac p.chans.length kc,.slice aa p.arrays.length ka,.slice af p.funcs.length kf,.slice am p.main.length km] 28)
 have g0:=heap_alloc_new w (.cells #[.int .i64 p.width,.slice ac p.chans.length kc,.slice aa p.arrays.length ka,.slice af p.funcs.length kf,.slice am p.main.length km] 28)
 have e0:(w.alloc (.cells #[.int .i64 p.width,.slice ac p.chans.length kc,.slice aa p.arrays.length ka,.slice af p.funcs.length kf,.slice am p.main.length km] 28)).heap.size=w.heap.size+1:=by
  show (w.heap.push _).size=_
  simp
 generalize w.alloc (.cells #[.int .i64 p.width,.slice ac p.chans.length kc,.slice aa p.arrays.length ka,.slice af p.funcs.length kf,.slice am p.main.length km] 28)=W1 at *
 have l3:=row_of g0 3 _ rfl
 have G0:=Lib.hid g0
 have HB0:=Lib.hid hb0
 have HE0:=Lib.hid e0
 clear g0 hb0 e0
 go_upto_region 2 with (refine wpList_make_row _ rfl _ _ 123 rfl 4 i0 (.bool false) Tryz.underlying123 hj hz0 hz1 rfl .i64 .i64 p.funcs.length rfl rfl ?b1 ?b2 ?_)
 case b1=>rw [hz2];omega
 case b2=>omega
 have hb1:=(Below.refl W1.heap.size W1).alloc (Nat.le_refl _) (.cells (madeCells #[.bool false] p.funcs.length) 4)
 have g1:=heap_alloc_new W1 (.cells (madeCells #[.bool false] p.funcs.length) 4)
 have e1:(W1.alloc (.cells (madeCells #[.bool false] p.funcs.length) 4)).heap.size=W1.heap.size+1:=by
  show (W1.heap.push _).size=_
  simp
 generalize W1.alloc (.cells (madeCells #[.bool false] p.funcs.length) 4)=W2 at *
 rw [made_bools] at g1
 obtain ⟨B,hB⟩:∃ b,W1.heap.size=b:=⟨_,rfl⟩
 rw [hB] at g1 e1 ⊢
 have G0':=Lib.hid ((hb1.block w.heap.size (by have:=HE0.out;omega)).trans G0.out)
 have HB2:=Lib.hid (HB0.out.trans (hb1.mono (by have:=HE0.out;omega)))
 have G1:=Lib.hid g1
 have hB1:w.heap.size+1=B:=by rw [← hB];exact HE0.out.symm
 clear g1 hb1 l3 G0 HB0 HE0 hB
 go_wp2_with fail
 have HQ0:=Lib.hid (Que.start W2 (base:=B+1) (by omega) i)
 have hb3:=(Below.refl W2.heap.size W2).alloc (Nat.le_refl _) (.cells #[.int .i64 i] 3)
 rw [e1] at HQ0
 generalize W2.alloc (.cells #[.int .i64 i] 3)=W3 at *
 have G3:=Lib.hid ((hb3.block w.heap.size (by omega)).trans G0'.out)
 have K3:=Lib.hid ((hb3.block B (by omega)).trans G1.out)
 have HB3:=Lib.hid (HB2.out.trans (hb3.mono (by omega)))
 have hsz3:B+1≤W3.heap.size:=by have:=hb3.size;omega
 clear hb3 G0' G1 HB2
 go_loopg [6,7,8,9] (p.funcs.length+1) (fun gk todo _ _ _ wr=>∃ (T:List Nat) (O:List Bool),Search p.funcs f i O T none []∧Que wr (B+1) todo T∧wr.heap[B]?=some (.cells (boolsO O) 4 (0,0))∧wr.heap[w.heap.size]?=some (.cells #[.int .i64 p.width,.slice ac p.chans.length kc,.slice aa p.arrays.length ka,.slice af p.funcs.length kf,.slice am p.main.length km] 28 (0,0))∧Below w.heap.size w wr∧B+1≤wr.heap.size∧T.length+O.count false≤gk∧gk≤p.funcs.length+1)
 case atStart=>exact ⟨[i],List.replicate p.funcs.length false,Search.start HI.out,HQ0.out,K3.out,G3.out,HB3.out,hsz3,by simp [List.count_replicate_self];omega,Nat.le_refl _⟩
 case round=>
  obtain ⟨wo,rfl⟩:∃ x:World,x=wr:=⟨_,rfl⟩
  obtain ⟨go,rfl⟩:∃ x:Nat,x=gk:=⟨_,rfl⟩
  obtain ⟨T,O,hsr,hq,hrow,hbox,hb,hsz,hms,hgk⟩:=hrel
  have HS:=Lib.hid hsr
  have HQ:=Lib.hid hq
  have HRW:=Lib.hid hrow
  have HBX:=Lib.hid hbox
  have HB:=Lib.hid hb
  obtain ⟨ta,tc,hte⟩:=hq.shape
  clear hsr hq hrow hbox hb
  cases T with
  | nil=>
   subst hte
   have HV:Hid (∀ (j:Nat) (g:FuncD),p.funcs[j]?=some g→(O[j]?=some true ↔ Reach p.funcs f.name g.name)):=fun j g hg=>HS.out.done HD.out HI.out hg
   go_wp2_with fail
   go_ret
   exact ⟨B,O,rfl,HRW.out,HS.out.len,HV.out,HB.out⟩
  | cons x T=>
   obtain ⟨hxl,-⟩:=HS.out.left x List.mem_cons_self
   obtain ⟨fx,hfx⟩:∃ g,p.funcs[x]?=some g:=⟨_,List.getElem?_eq_getElem hxl⟩
   have HFX:=Lib.hid hfx
   have HP:=Lib.hid HS.out.pop
   obtain ⟨g,o,cap,e9,hcap,hcx,hgb,hq2⟩:=HQ.out.pop
   clear hte
   subst e9
   have HQ2:=Lib.hid hq2
   obtain ⟨fb,fo,pv9,cv9,rfl,-,-,-,y2,-,-,hf9⟩:=HR.out x fx hfx
   obtain ⟨xa,xc,rfl,hlx,-⟩:=id hf9.2.1
   have HCV:=Lib.hid hf9.2.1
   have y2':=cell_keep HB.out y2
   have l3:=row_of HBX.out 3 _ rfl
   have e2:=fun z=>ext_cell y2' z
   have e3:=fun z=>ext_cell l3 z
   have ex:=fun z=>ext_cell hcx z
   have hxl':(x:Int)<(p.funcs.length:Int):=by omega
   have hcut:=fun w=>run_que_cut under_ints size_int g o T.length cap hcap w
   clear hf9 y2 y2' l3 hfx hq2
   go_upto_region 4 with fail
   (refine wp_region_calm (by kernel_rfl) (by kernel_rfl) ?_; (repeat (go_big_quiet_step (fail))); refine wpQuiet_nil ?_; intro wc hwc)
   have HBC:=Lib.hid (bcomp HB.out hwc)
   have HQC:=Lib.hid (HQ2.out.below hwc)
   have HRC:=Lib.hid ((hwc.block B (by omega)).trans HRW.out)
   have HXC:=Lib.hid ((hwc.block w.heap.size (by omega)).trans HBX.out)
   have hszc:=hwc.size
   obtain ⟨a6,ha6⟩:∃ a:Option Addr,(if cap=1 then some ⟨g,o,none⟩ else some ⟨g,o+1,none⟩)=a:=⟨_,rfl⟩
   rw [ha6] at HQC hcut
   have HCD:Hid (callees p.funcs x=(callsOf fx.code).filterMap (idxOf p.funcs)):=by unfold Hid callees;rw [HFX.out]
   have hms':T.length+O.count false+1≤go:=by simp only [List.length_cons] at hms;omega
   clear e2 e3 ex HQ HQ2 HRW HBX HB hwc ha6 hcx hcap hgb hms HS HFX
   go_wp2_with fail
   clear hcut
   obtain ⟨code,hcode⟩:∃ c,fx.code=c:=⟨_,rfl⟩
   rw [hcode] at HCV HCD hlx ⊢
   clear hcode
   have HSZ:=Lib.hid hlx
   go_loopw [6,8,9] (fun todo kk _ wr=>∃ (k:Nat) (T2:List Nat) (O2:List Bool),k≤code.length∧kk=.int .i64 k∧Search p.funcs f i O2 T2 (some x) ((callsOf (code.take k)).filterMap (idxOf p.funcs))∧Que wr (B+1) todo T2∧wr.heap[B]?=some (.cells (boolsO O2) 4 (0,0))∧wr.heap[w.heap.size]?=some (.cells #[.int .i64 p.width,.slice ac p.chans.length kc,.slice aa p.arrays.length ka,.slice (some ⟨fb,fo,none⟩) p.funcs.length kf,.slice am p.main.length km] 28 (0,0))∧Below w.heap.size w wr∧B+1≤wr.heap.size∧T2.length+O2.count false+1≤go) (fun _ kk _ _=>code.length - (intOf kk).toNat)
   case atStart=>exact ⟨0,T,O,Nat.zero_le _,rfl,HP.out,HQC.out,HRC.out,HXC.out,HBC.out,by omega,hms'⟩
   case round=>
    obtain ⟨wi,rfl⟩:∃ y:World,y=wr:=⟨_,rfl⟩
    obtain ⟨k,T2,O2,hk,rfl,hs2,hq2,hr2,hx2,hb2,hsz2,hms2⟩:=hrel
    have HS2:=Lib.hid hs2
    have HQ2:=Lib.hid hq2
    have HR2:=Lib.hid hr2
    have HX2:=Lib.hid hx2
    have HB2:=Lib.hid hb2
    obtain ⟨a7,c7,rfl⟩:=hq2.shape
    clear hs2 hq2 hr2 hx2 hb2 HQC HRC HXC HBC HP hszc hms'
    by_cases hkl:k<code.length
    ·have hkl':(k:Int)<(code.length:Int):=by omega
     obtain ⟨y,hy⟩:∃ y,code[k]?=some y:=⟨_,List.getElem?_eq_getElem hkl⟩
     obtain ⟨xa',xc',e8,-,hrc⟩:=id HCV.out
     simp only [Value.slice.injEq] at e8
     obtain ⟨rfl,-,rfl⟩:=e8
     obtain ⟨b,o2,av2,rfl,-,c0,-,-,c3,-⟩:=hrc k y hy
     have d0:=cell_keep HB2.out c0
     have D3:=Lib.hid (cell_keep HB2.out c3)
     have HST:=Lib.hid (callsOf_step code y k hy)
     clear c0 c3 hrc
     by_cases h4:y.kind=4
     ·have h4b:(y.kind == 4)=true:=by simp [h4]
      rw [h4] at d0
      have hst:=HST.out
      rw [if_pos h4b] at hst
      have HC:=refFind p (.slice ac p.chans.length kc) (.slice aa p.arrays.length ka) (.slice (some ⟨fb,fo,none⟩) p.funcs.length kf) (.slice am p.main.length km) y.name
      have HRD:=Lib.hid (H.out.keep HB2.out)
      have e0:=fun z=>ext_cell (row_of HX2.out 0 _ rfl) z
      have e1:=fun z=>ext_cell (row_of HX2.out 1 _ rfl) z
      have e2:=fun z=>ext_cell (row_of HX2.out 2 _ rfl) z
      have e3:=fun z=>ext_cell (row_of HX2.out 3 _ rfl) z
      have e4:=fun z=>ext_cell (row_of HX2.out 4 _ rfl) z
      have e5:=fun z=>ext_cell D3.out z
      rcases findZ_idx y.name p.funcs with ⟨u,hu1,hu2,hu3⟩|⟨hu1,hu2⟩
      ·have HN:Hid ((callsOf (code.take (k+1))).filterMap (idxOf p.funcs)=(callsOf (code.take k)).filterMap (idxOf p.funcs) ++ [u]):=by
        unfold Hid
        rw [hst,List.filterMap_append]
        simp [hu1]
       have HCL:Hid (u ∈ callees p.funcs x):=by
        unfold Hid
        rw [HCD.out]
        refine List.mem_filterMap.2 ⟨y.name,?_,hu1⟩
        unfold callsOf
        exact List.mem_map.2 ⟨y,List.mem_filter.2 ⟨List.mem_of_getElem? hy,h4b⟩,rfl⟩
       rw [hu2] at HC
       have C:=Lib.hid (fun z=>HC (ext wi z) (HRD.out.keep (ext_below _ z)).2.2.1)
       have hul:(u:Int)<(p.funcs.length:Int):=by omega
       obtain ⟨bu,hbu⟩:∃ bb,O2[u]?=some bb:=⟨_,List.getElem?_eq_getElem (by rw [HS2.out.len];exact hu3)⟩
       have HBU:=Lib.hid hbu
       have hun:(0:Int)≤(u:Int):=by omega
       clear HC hu1 hu2 hst HST h4 h4b hbu hy
       go_upto_region 10 with fail
       (refine wp_region_calm (by kernel_rfl) (by kernel_rfl) ?_; (repeat (go_big_quiet_step ((go_at_call 88;exact calls_calm (C.out _))))); refine wpQuiet_nil ?_; intro wc hwc)
       have HBN:=Lib.hid (bcomp HB2.out hwc)
       have HQN:=Lib.hid (HQ2.out.below hwc)
       have hrn:=(hwc.block B (by omega)).trans HR2.out
       have HRN:=Lib.hid hrn
       have HXN:=Lib.hid ((hwc.block w.heap.size (by omega)).trans HX2.out)
       have hszn:=hwc.size
       have hcu:=row_of hrn u _ (boolsO_at HBU.out)
       have hfu:=frozen_of_row wc B u _ _ hrn
       clear e0 e1 e2 e3 e4 e5 hwc C hrn
       cases bu
       ·have HS3:=Lib.hid (HS2.out.push HD.out HI.out hu3 HCL.out)
        have HCT:=Lib.hid (count_cut HBU.out)
        have hO:T2.length+1+(O2.set u true).count false+1≤go:=by have:=HCT.out;omega
        have hT:T2.length≤33:=by omega
        have HT1:=Lib.hid (setCell_turned wc ⟨B,u,none⟩ (.bool true))
        have hsc:(wc.setCell ⟨B,u,none⟩ (.bool true)).heap.size=wc.heap.size:=by simp
        have HSC:=Lib.hid hsc
        have HR5:=Lib.hid (heap_setCell_same wc B u _ _ (.bool true) HRN.out)
        have HQ5:=Lib.hid (HQN.out.turn HT1.out (fun k e=>by change k=B at e;omega))
        have HB5:=Lib.hid (below_then HBN.out HT1.out (by omega) (fun k e=>by change k=B at e;omega))
        have HX5:=Lib.hid ((HT1.out.block w.heap.size (by omega) (by simp;omega)).trans HXN.out)
        clear hsc
        go_wp2_with (at_builtin;refine wpList_que_append rfl (.tmp 60) (.tmp 62) 60 rfl (base:=B+1) i1 Tryz.underlying60 hj1 hy0 hy1 hy2 rfl (HQ5.out.below ((Below.refl _ _).alloc (Nat.le_refl _) _)) ⟨wc.heap.size,0,none⟩ 1 u rfl ?n1 ?n2 ?n3 ?_)
        case n2=>omega
        case n3=>have:=HSC.out;simp;omega
        ·intro v' w6 hq6 hg6
         have HA:=(Below.refl (wc.setCell ⟨B,u,none⟩ (.bool true)).heap.size (wc.setCell ⟨B,u,none⟩ (.bool true))).alloc (Nat.le_refl _) (.cells #[.int .i64 u] 3)
         have HT6:Turned (fun k=>B+1≤k) (wc.setCell ⟨B,u,none⟩ (.bool true)) w6:=(Turned.of_below HA).trans (Turned.of_grown hg6 (fun k e=>(HQ5.out.lt k e).1))
         have hs5:=HSC.out
         have HR6:=Lib.hid ((HT6.block B (by omega) (by omega)).trans HR5.out)
         have HX6:=Lib.hid ((HT6.block w.heap.size (by omega) (by omega)).trans HX5.out)
         have HB6:=Lib.hid (below_then HB5.out HT6 (by omega) (fun k e=>by omega))
         have HQ6:=Lib.hid hq6
         have hz6:=HT6.size
         rw [boolsO_set] at HR6
         obtain ⟨a9,c9,rfl⟩:=hq6.shape
         clear hq6 hg6 HA HT6 hcu hfu
         go_wp2_with fail
         go_roundw
         case rel=>exact ⟨k+1,T2 ++ [u],O2.set u true,by omega,by go_num,by rw [HN.out];exact HS3.out,HQ6.out,HR6.out,HX6.out,HB6.out,by omega,by simp only [List.length_append,List.length_singleton];omega⟩
         case measure=>simp [intOf];omega
       ·have HS3:=Lib.hid (HS2.out.skip HBU.out)
        go_wp2_with fail
        go_roundw
        case rel=>exact ⟨k+1,T2,O2,by omega,by go_num,by rw [HN.out];exact HS3.out,HQN.out,HRN.out,HXN.out,HBN.out,by omega,hms2⟩
        case measure=>simp [intOf];omega
      ·have HN:Hid ((callsOf (code.take (k+1))).filterMap (idxOf p.funcs)=(callsOf (code.take k)).filterMap (idxOf p.funcs)):=by
        unfold Hid
        rw [hst,List.filterMap_append]
        simp [hu1]
       rw [hu2] at HC
       have C:=Lib.hid (fun z=>HC (ext wi z) (HRD.out.keep (ext_below _ z)).2.2.1)
       clear HC hu1 hu2 hst HST h4 h4b
       go_upto_region 10 with fail
       (refine wp_region_calm (by kernel_rfl) (by kernel_rfl) ?_; (repeat (go_big_quiet_step ((go_at_call 88;exact calls_calm (C.out _))))); refine wpQuiet_nil ?_; intro wc hwc)
       have HBN:=Lib.hid (bcomp HB2.out hwc)
       have HQN:=Lib.hid (HQ2.out.below hwc)
       have HRN:=Lib.hid ((hwc.block B (by omega)).trans HR2.out)
       have HXN:=Lib.hid ((hwc.block w.heap.size (by omega)).trans HX2.out)
       have hszn:=hwc.size
       clear e0 e1 e2 e3 e4 e5 hwc C
       go_wp2_with fail
       go_roundw
       case rel=>exact ⟨k+1,T2,O2,by omega,by go_num,by rw [HN.out];exact HS2.out,HQN.out,HRN.out,HXN.out,HBN.out,by omega,hms2⟩
       case measure=>simp [intOf];omega
     ·have h4b:(y.kind == 4)=false:=by simp [h4]
      have hst:=HST.out
      rw [h4b] at hst
      have HN:Hid ((callsOf (code.take (k+1))).filterMap (idxOf p.funcs)=(callsOf (code.take k)).filterMap (idxOf p.funcs)):=by
       unfold Hid;rw [hst];simp
      have h4n:(y.kind != 4)=true:=by simp [h4]
      clear hst HST h4
      go_wp2_with fail
      go_roundw
      case rel=>exact ⟨k+1,T2,O2,by omega,by go_num,by rw [HN.out];exact HS2.out,HQ2.out,HR2.out,HX2.out,HB2.out,hsz2,hms2⟩
      case measure=>simp [intOf];omega
    ·obtain rfl:k=code.length:=by omega
     have HF:Hid (Search p.funcs f i O2 T2 none []):=by
      have:=HS2.out
      rw [List.take_length] at this
      exact this.finish (fun y hy=>by rw [← HCD.out];exact hy)
     go_wp2_with fail
     go_roundg (go - 1)
     case measure=>omega
     case rel=>exact ⟨T2,O2,HF.out,HQ2.out,HR2.out,HX2.out,HB2.out,hsz2,by omega,by omega⟩
end Go.Proofs.YtfdinncgncbmfaaGreatDoor
