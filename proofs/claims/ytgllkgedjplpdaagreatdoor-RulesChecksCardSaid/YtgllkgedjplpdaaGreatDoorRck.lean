/- The sites that there may be: the program's list cut at 32, against the list so far. Condition: it lies in memory of the call's own. -/
import Derived.Test.YtgllkgedjplpdaaGreatDoorRefD
import Derived.Maps.AppendAt
import Derived.Deep.OwnRows
import Derived.Test.YtgllkgedjplpdaaGreatDoorLoc
import Derived.Test.YtgllkgedjplpdaaGreatDoorFeP
set_option linter.all false
set_option maxRecDepth 1000000
set_option maxHeartbeats 12800000
set_option linter.unusedVariables false
set_option linter.unusedSimpArgs false
namespace Go.Proofs.YtgllkgedjplpdaaGreatDoor
theorem putL_prefix (s:ByteArray) (l:List ByteArray):∃ r,putL s l=l ++ r:=by
 unfold putL
 split
 ·exact ⟨[],by simp⟩
 ·exact ⟨[s],rfl⟩
theorem sites_prefix:∀ (m:List InstrD) (s:List ByteArray),∃ r,sitesOf s m=s ++ r
 | [],s=>⟨[],by simp [sitesOf]⟩
 | x :: m,s=>by
  have h:sitesOf s (x :: m)=sitesOf (if x.kind == 7 then putL x.name s else s) m:=rfl
  rw [h]
  obtain ⟨r1,h1⟩:∃ r,(if x.kind == 7 then putL x.name s else s)=s ++ r:=by
   split
   ·exact putL_prefix _ _
   ·exact ⟨[],by simp⟩
  obtain ⟨r2,h2⟩:=sites_prefix m (if x.kind == 7 then putL x.name s else s)
  exact ⟨r1 ++ r2,by rw [h2,h1,List.append_assoc]⟩
theorem putL_nodup {s:ByteArray} {l:List ByteArray} (h:l.Nodup):(putL s l).Nodup:=by
 unfold putL
 split
 ·exact h
 ·rename_i hn
  rw [List.nodup_append]
  refine ⟨h,by simp,fun a ha b hb e=>?_⟩
  rw [List.mem_singleton] at hb
  subst hb;subst e
  exact hn (inL_iff.2 ha)
theorem sites_nodup:∀ (m:List InstrD) (s:List ByteArray),s.Nodup->(sitesOf s m).Nodup
 | [],s,h=>h
 | x :: m,s,h=>by
  have e:sitesOf s (x :: m)=sitesOf (if x.kind == 7 then putL x.name s else s) m:=rfl
  rw [e]
  refine sites_nodup m _ ?_
  split
  ·exact putL_nodup h
  ·exact h
theorem inL_append (s:ByteArray) (l m:List ByteArray):inL s (l ++ m)=(inL s l || inL s m):=by
 unfold inL;rw [List.any_append]
theorem site_take {s:List ByteArray} {x:InstrD} {m:List InstrD} (h7:x.kind=7) (hs:s.Nodup) (h32:s.length<=32) :
  inL x.name ((sitesOf s (x :: m)).take 32)=(inL x.name s || decide (s.length<32)):=by
 have e:sitesOf s (x :: m)=sitesOf (putL x.name s) m:=by
  have:(x.kind == 7)=true:=by simp [h7]
  show sitesOf (if x.kind == 7 then putL x.name s else s) m=_
  rw [this];rfl
 obtain ⟨r,hr⟩:=sites_prefix m (putL x.name s)
 have hnd:=sites_nodup m (putL x.name s) (putL_nodup hs)
 rw [e]
 rw [hr] at hnd ⊢
 cases hin:inL x.name s with
 | true=>
  have hp:putL x.name s=s:=by unfold putL;rw [if_pos hin]
  rw [hp,List.take_append,List.take_of_length_le h32,inL_append,hin];rfl
 | false=>
  have hp:putL x.name s=s ++ [x.name]:=by unfold putL;rw [if_neg (by rw [hin];simp)]
  rw [hp] at hnd ⊢
  rw [Bool.false_or]
  by_cases hl:s.length<32
  ·rw [decide_eq_true hl,inL_iff,List.take_append,List.mem_append]
   refine .inl ?_
   rw [List.take_of_length_le (by simp;omega)]
   simp
  ·have hl':s.length=32:=by omega
   rw [decide_eq_false hl]
   cases hq:inL x.name ((s ++ [x.name] ++ r).take 32) with
   | false=>rfl
   | true=>
    rw [List.append_assoc,List.take_append,hl',Nat.sub_self,List.take_zero,List.append_nil,List.take_of_length_le (by omega),hin] at hq
    cases hq
theorem body_is {chans arrays S s labels:List ByteArray} {main:Bool} {x:InstrD} (hS:x.kind=7->inL x.name S=(inL x.name s || decide (s.length<32))):bodyR chans arrays main S labels x=instrF chans arrays main labels s x:=by
 unfold bodyR instrF
 cases hf:formB x
 ·simp [needF]
 ·by_cases h12:x.kind=12
  ·cases main
   ·have:restF chans arrays labels s x=none:=by unfold restF;simp [h12]
    simp [h12,needF,this]
   ·simp [h12,needF]
  ·have e12:(x.kind == 12)=false:=by simp [h12]
   have e4:needF (true && !(main && x.kind == 12)) x.line x.col 4=none:=by rw [e12];simp [needF]
   rw [e4,Option.none_or]
   simp only [h12,decide_false,Bool.false_and,Bool.not_true,Bool.or_false,Bool.false_eq_true,if_false]
   unfold restF
   by_cases h5:x.kind=5
   ·cases h:inL x.name chans <;> simp [h5,needF,h]
   ·by_cases h6:x.kind=6
    ·cases h:inL x.name chans <;> simp [h6,needF,h]
    ·by_cases h2:x.kind=2
     ·cases h:inL x.name arrays <;> simp [h2,needF,h]
     ·by_cases h3:x.kind=3
      ·cases h:inL x.name arrays <;> simp [h3,needF,h]
      ·by_cases h10:x.kind=10
       ·cases h:inL x.name labels <;> simp [h10,needF,h]
       ·by_cases h7:x.kind=7
        ·rw [hS h7]
         cases h:(inL x.name s || decide (s.length<32)) <;> simp [h7,needF]
        ·simp [h5,h6,h2,h3,h10,h7]
theorem sites_bound {chans arrays S0:List ByteArray} {main:Bool}:∀ (l d:List InstrD),(sitesOf S0 d).length<=32->firstF (fun d x=>instrF chans arrays main (labelsOf d) (sitesOf S0 d) x) d l=none->(sitesOf S0 (d ++ l)).length<=32
 | [],d,h,_=>by simpa using h
 | x :: r,d,h,hf=>by
  simp only [firstF,Option.or_eq_none_iff] at hf
  have h1:(sitesOf S0 (d ++ [x])).length<=32:=by
   rw [sitesOf_snoc]
   split
   ·rename_i h7
    have h7':x.kind=7:=by simpa using h7
    unfold putL
    split
    ·exact h
    ·rename_i hin
     have hr:=(Option.or_eq_none_iff.1 hf.1).2
     unfold restF at hr
     simp only [h7'] at hr
     simp [needF] at hr
     have:inL x.name (sitesOf S0 d)=false:=by simpa using hin
     rw [this] at hr
     simp at hr
     simp;omega
   ·exact h
  have:=sites_bound r (d ++ [x]) h1 hf.2
  simpa using this
theorem code_is {chans arrays S0:List ByteArray} {main:Bool} {code post:List InstrD} (hn:S0.Nodup) (h0:S0.length<=32) :
  firstF (fun d x=>bodyR chans arrays main ((sitesOf S0 (code ++ post)).take 32) (labelsOf d) x) [] code=codeF chans arrays main S0 code:=by
 unfold codeF
 refine (firstF_congr _ _ code [] (fun d x r e _ hp=>?_)).symm
 simp only [List.nil_append,List.length_nil,Nat.sub_zero] at e hp
 have hd:code.take d.length=d:=by rw [e];simp
 rw [hd] at hp
 have hb:=sites_bound d [] (by simpa [sitesOf] using h0) hp
 rw [List.nil_append] at hb
 refine (body_is (fun h7=>?_)).symm
 rw [e,List.append_assoc,List.cons_append,sitesOf_append]
 exact site_take h7 (sites_nodup d S0 hn) hb
def atF (l c:Int) (F:FaultD):FaultD:=⟨l,c,F.e⟩
theorem needF_at (ok:Bool) (l c x y e:Int):(needF ok x y e).map (atF l c)=needF ok l c e:=by cases ok <;> rfl
theorem or_map (m:FaultD->FaultD) (a b:Option FaultD):(a.or b).map m=(a.map m).or (b.map m):=by cases a <;> rfl
theorem firstF_map {α:Type} (m:FaultD->FaultD) (f g:List α->α->Option FaultD) (h:∀ d x,g d x=(f d x).map m):∀ (l d:List α),firstF g d l=(firstF f d l).map m
 | [],_=>rfl
 | x :: r,d=>by
  simp only [firstF,or_map,h]
  rw [firstF_map m f g h r (d ++ [x])]
theorem declsF_at (l:List ByteArray) (x y:Int):(declsF l 0 0).map (atF x y)=declsF l x y:=by
 unfold declsF
 exact (firstF_map (atF x y) _ _ (fun d s=>by unfold declF;rw [or_map,needF_at,needF_at]) l []).symm
def namesF (l:List ByteArray) (x y:Int):Option FaultD:=if 32<l.length then some ⟨x,y,5⟩ else (declsF l 0 0).map (atF x y)
theorem namesF_is (l:List ByteArray) (x y:Int):namesF l x y=(needF (decide (l.length<=32)) x y 5).or (declsF l x y):=by
 unfold namesF
 by_cases h:32<l.length
 ·have:¬ l.length<=32:=by omega
  rw [if_pos h];simp [needF,this]
 ·have:l.length<=32:=by omega
  rw [if_neg h,declsF_at];simp [needF,this]
theorem namesF_err (l:List ByteArray) (x y:Int):errOf (namesF l x y)=namesE l:=by
 unfold namesF namesE
 by_cases h:32<l.length
 ·rw [if_pos h,if_pos h];rfl
 ·rw [if_neg h,if_neg h];cases declsF l 0 0 <;> rfl
theorem namesF_next {l:List ByteArray} {s:ByteArray} {x y:Int} (h:(l ++ [s]).length<=32) (hn:declsF l x y=none):namesF (l ++ [s]) x y=declF l s x y:=by
 rw [namesF_is,decide_eq_true h]
 unfold declsF at hn ⊢
 rw [firstF_append,hn]
 simp [needF,firstF]
theorem declsF_none_at {l:List ByteArray} {x y x' y':Int} (h:declsF l x y=none):declsF l x' y'=none:=by
 rw [<- declsF_at] at h ⊢
 cases hd:declsF l 0 0 with
 | none=>rfl
 | some F=>rw [hd] at h;cases h
def refArrF (d:List ArrD) (a:ArrD):Option FaultD:=(namesF (aNames (d ++ [a])) 0 0).or (needF (decide (1<=a.size) && decide (a.size<=64)) 0 0 3)
theorem arrs_names:∀ (l d:List ArrD),declsF (aNames d) 0 0=none->firstF arrF d l=none->declsF (aNames (d ++ l)) 0 0=none
 | [],d,h,_=>by simpa using h
 | x :: r,d,h,hf=>by
  simp only [firstF,Option.or_eq_none_iff] at hf
  have h1:declsF (aNames (d ++ [x])) 0 0=none:=by
   have e:aNames (d ++ [x])=aNames d ++ [x.name]:=by simp [aNames]
   have hx:=(Option.or_eq_none_iff.1 hf.1).1
   rw [e]
   unfold declsF at h ⊢
   rw [firstF_append,h]
   simpa [firstF] using hx
  have:=arrs_names r (d ++ [x]) h1 hf.2
  simpa using this
theorem refArrs {l:List ArrD} (hl:l.length<=32):firstF refArrF [] l=arrsF l:=by
 unfold arrsF
 refine (firstF_congr _ _ l [] (fun d x r e _ hp=>?_)).symm
 simp only [List.nil_append,List.length_nil,Nat.sub_zero] at e hp
 have hd:l.take d.length=d:=by rw [e];simp
 rw [hd] at hp
 have h0:=arrs_names d [] rfl hp
 rw [List.nil_append] at h0
 unfold arrF refArrF
 have e2:aNames (d ++ [x])=aNames d ++ [x.name]:=by simp [aNames]
 have hlen:(aNames d ++ [x.name]).length<=32:=by
  have:=congrArg List.length e
  simp only [List.length_append,List.length_cons] at this
  simp [aNames];omega
 rw [e2,namesF_next hlen h0]
def refFunF (p:ProgD) (d:List FuncD) (f:FuncD):Option FaultD:=
 (namesF (fNames (d ++ [f])) f.line f.col).or ((namesF f.params f.line f.col).or ((needF (decide (f.code.length<=1024)) f.line f.col 5).or (codeR p d.length)))
theorem funcs_names {chans arrays:List ByteArray}:∀ (l d:List FuncD),declsF (fNames d) 0 0=none->firstF (funcF chans arrays) d l=none->declsF (fNames (d ++ l)) 0 0=none
 | [],d,h,_=>by simpa using h
 | x :: r,d,h,hf=>by
  simp only [firstF,Option.or_eq_none_iff] at hf
  have h1:declsF (fNames (d ++ [x])) 0 0=none:=by
   have e:fNames (d ++ [x])=fNames d ++ [x.name]:=by simp [fNames]
   have hx:=(Option.or_eq_none_iff.1 hf.1).1
   have h2:=declsF_none_at (x':=x.line) (y':=x.col) h
   refine declsF_none_at (x:=x.line) (y:=x.col) ?_
   rw [e]
   unfold declsF at h2 ⊢
   rw [firstF_append,h2]
   simpa [firstF] using hx
  have:=funcs_names r (d ++ [x]) h1 hf.2
  simpa using this
theorem funcs_sites {chans arrays:List ByteArray}:∀ (l d:List FuncD),(sitesOf [] (codesOf d)).length<=32->firstF (funcF chans arrays) d l=none->(sitesOf [] (codesOf (d ++ l))).length<=32
 | [],d,h,_=>by simpa using h
 | x :: r,d,h,hf=>by
  simp only [firstF,Option.or_eq_none_iff] at hf
  have hx:=hf.1
  unfold funcF instrsF at hx
  simp only [Option.or_eq_none_iff] at hx
  have h1:(sitesOf [] (codesOf (d ++ [x]))).length<=32:=by
   rw [codesOf_append,sitesOf_append]
   have:=sites_bound (S0:=sitesOf [] (codesOf d)) x.code [] (by simpa [sitesOf] using h) hx.2.2.2.2
   simpa [codesOf] using this
  have:=funcs_sites r (d ++ [x]) h1 hf.2
  simpa using this
theorem codeR_fun {p:ProgD} {d r:List FuncD} {f:FuncD} (e:p.funcs=d ++ f :: r) (h:(sitesOf [] (codesOf d)).length<=32) :
  codeR p d.length=codeF p.chans (aNames p.arrays) false (sitesOf [] (codesOf d)) f.code:=by
 have hlen:p.funcs.length=d.length+(r.length+1):=by rw [e];simp
 have h1:codeAt p d.length=f.code:=by
  unfold codeAt
  have:p.funcs[d.length]?=some f:=by rw [e];simp
  rw [this]
 have h2:sitesOf [] (preC p (p.funcs.length+1))=sitesOf (sitesOf [] (codesOf d)) (f.code ++ (codesOf r ++ p.main)):=by
  unfold preC
  rw [List.take_of_length_le (by omega),if_pos (by omega),e,codesOf_append,List.append_assoc,sitesOf_append]
  congr 1
  show codesOf (f :: r) ++ p.main=_
  simp [codesOf]
 have h3:decide (d.length=p.funcs.length)=false:=by simp;omega
 unfold codeR sitesP
 rw [h1,h2,h3]
 exact code_is (sites_nodup _ [] List.nodup_nil) h
theorem codeR_main {p:ProgD} (h:(sitesOf [] (codesOf p.funcs)).length<=32) :
  codeR p p.funcs.length=codeF p.chans (aNames p.arrays) true (sitesOf [] (codesOf p.funcs)) p.main:=by
 have h1:codeAt p p.funcs.length=p.main:=by unfold codeAt;rw [List.getElem?_eq_none (nR _)]
 have h2:sitesOf [] (preC p (p.funcs.length+1))=sitesOf (sitesOf [] (codesOf p.funcs)) (p.main ++ []):=by
  unfold preC
  rw [List.take_of_length_le (by omega),if_pos (by omega),sitesOf_append,List.append_nil]
 unfold codeR sitesP
 rw [h1,h2,decide_eq_true rfl]
 exact code_is (sites_nodup _ [] List.nodup_nil) h
theorem refFuncs {p:ProgD} (hl:p.funcs.length<=32):firstF (refFunF p) [] p.funcs=funcsF p.chans (aNames p.arrays) p.funcs:=by
 unfold funcsF
 refine (firstF_congr _ _ p.funcs [] (fun d x r e _ hp=>?_)).symm
 simp only [List.nil_append,List.length_nil,Nat.sub_zero] at e hp
 have hd:p.funcs.take d.length=d:=by rw [e];simp
 rw [hd] at hp
 have h0:=funcs_names d [] rfl hp
 have hs:=funcs_sites d [] (by simp [codesOf,sitesOf]) hp
 rw [List.nil_append] at h0 hs
 unfold funcF refFunF instrsF
 have e2:fNames (d ++ [x])=fNames d ++ [x.name]:=by simp [fNames]
 have hlen:(fNames d ++ [x.name]).length<=32:=by
  have:=congrArg List.length e
  simp only [List.length_append,List.length_cons] at this
  simp [fNames];omega
 rw [e2,namesF_next hlen (declsF_none_at h0),namesF_is,codeR_fun e hs,Option.or_assoc]
def refAP (p:ProgD):Option FaultD:=
 (needF (decide (1<=p.width) && decide (p.width<=64)) 0 0 3).or <|
 (namesF p.chans 0 0).or <|
 (needF (decide (p.arrays.length<=32)) 0 0 5).or <|
 (firstF refArrF [] p.arrays).or <|
 (needF (decide (p.funcs.length<=32)) 0 0 5).or <|
 (firstF (refFunF p) [] p.funcs).or <|
 (needF (decide (p.main.length<=1024)) 0 0 5).or (codeR p p.funcs.length)
theorem refA_is (p:ProgD) (later:Option FaultD) (h:later=(targsF p.funcs).or ((targetsF (paramsOf p.funcs) (labelsOf p.main) p.main).or (loopsF p.funcs))):(refAP p).or later=checkF p:=by
 unfold refAP checkF
 rw [h,namesF_is]
 simp only [Option.or_assoc]
 congr 3
 by_cases ha:p.arrays.length<=32
 ·rw [refArrs ha]
  congr 2
  by_cases hf:p.funcs.length<=32
  ·rw [refFuncs hf]
   congr 1
   cases hq:funcsF p.chans (aNames p.arrays) p.funcs with
   | some F=>rfl
   | none=>
    have hs:=funcs_sites p.funcs [] (by simp [codesOf,sitesOf]) hq
    rw [List.nil_append] at hs
    rw [codeR_main hs]
    unfold instrsF
    simp only [Option.or_assoc]
  ·have:needF (decide (p.funcs.length<=32)) 0 0 5=some ⟨0,0,5⟩:=by simp [needF,hf]
   rw [this];rfl
 ·have:needF (decide (p.arrays.length<=32)) 0 0 5=some ⟨0,0,5⟩:=by simp [needF,ha]
  rw [this];rfl
def Distinct (fs:List FuncD):Prop:=∀ (i j:Nat) (f g:FuncD),fs[i]?=some f->fs[j]?=some g->f.name=g.name->i=j
def idxOf (fs:List FuncD) (s:ByteArray):Option Nat:=fs.findIdx? fun f=>decide (f.name=s)
def callees (fs:List FuncD) (x:Nat):List Nat:=match fs[x]? with|some f=>(callsOf f.code).filterMap (idxOf fs)|none=>[]
theorem idxOf_some {fs:List FuncD} {s:ByteArray} {j:Nat} (h:idxOf fs s=some j):∃ f,fs[j]?=some f/\f.name=s:=by
 obtain ⟨hj,h1,_⟩:=List.findIdx?_eq_some_iff_getElem.1 h
 exact ⟨fs[j],lG hj,by simpa using h1⟩
theorem idxOf_at {fs:List FuncD} (hd:Distinct fs) {j:Nat} {f:FuncD} (h:fs[j]?=some f):idxOf fs f.name=some j:=by
 cases hi:idxOf fs f.name with
 | none=>
  have:=List.findIdx?_eq_none_iff.1 hi f (List.mem_of_getElem? h)
  simp at this
 | some i=>
  obtain ⟨g,hg,e⟩:=idxOf_some hi
  rw [hd i j g f hg h e]
theorem find_atD {fs:List FuncD} (hd:Distinct fs) {j:Nat} {f:FuncD} (h:fs[j]?=some f):fs.find? (fun g=>decide (g.name=f.name))=some f:=by
 cases hf:fs.find? (fun g=>decide (g.name=f.name)) with
 | none=>
  have:=List.find?_eq_none.1 hf f (List.mem_of_getElem? h)
  simp at this
 | some g=>
  obtain ⟨i,hi⟩:=List.mem_iff_getElem?.1 (List.mem_of_find?_eq_some hf)
  have hn:=List.find?_some hf
  simp only [decide_eq_true_eq] at hn
  have:=hd i j g f hi h hn
  subst this
  rw [h] at hi
  exact hi.symm
theorem calls_idx {fs:List FuncD} (hd:Distinct fs) {x y:Nat} {f g:FuncD} (hx:fs[x]?=some f) (hy:fs[y]?=some g):CallsN fs f.name g.name ↔ y ∈ callees fs x:=by
 unfold CallsN callees
 rw [find_atD hd hx,hx]
 simp only [Option.some.injEq,exists_eq_left',List.mem_filterMap]
 constructor
 ·intro h
  exact ⟨g.name,h,idxOf_at hd hy⟩
 ·rintro ⟨s,hs,hi⟩
  obtain ⟨g',hg',rfl⟩:=idxOf_some hi
  rw [hy] at hg'
  cases hg'
  exact hs
structure Search (fs:List FuncD) (f:FuncD) (i:Nat) (out:List Bool) (todo:List Nat) (X:Option Nat) (ds:List Nat):Prop where
 len:out.length=fs.length
 sound:∀ (j:Nat) (g:FuncD),fs[j]?=some g->out[j]?=some true->Reach fs f.name g.name
 left:∀ x:Nat,x ∈ todo->x<fs.length/\(x=i \/ out[x]?=some true)
 all:∀ x:Nat,x<fs.length->(x=i \/ out[x]?=some true)->x ∈ todo \/ X=some x \/ ∀ y:Nat,y ∈ callees fs x->out[y]?=some true
 cur:∀ x:Nat,X=some x->x<fs.length/\(x=i \/ out[x]?=some true)/\∀ y:Nat,y ∈ ds->out[y]?=some true
section
variable {fs:List FuncD} {f:FuncD} {i:Nat} {out:List Bool} {todo:List Nat}
theorem Search.start (hi:fs[i]?=some f):Search fs f i (List.replicate fs.length false) [i] none [] where
 len:=by simp
 sound:=fun j g hj h=>by
  rw [List.getElem?_replicate] at h
  split at h <;> simp at h
 left:=fun x hx=>by
  rw [List.mem_singleton] at hx
  exact ⟨by rw [hx];exact (lE hi).1,.inl hx⟩
 all:=fun x hx h=>by
  rcases h with h|h
  ·exact .inl (by simp [h])
  ·rw [List.getElem?_replicate] at h
   split at h <;> simp at h
 cur:=fun x h=>by cases h
theorem Search.pop {x:Nat} (h:Search fs f i out (x :: todo) none []):Search fs f i out todo (some x) [] where
 len:=h.len
 sound:=h.sound
 left:=fun y hy=>h.left y (List.mem_cons_of_mem _ hy)
 all:=fun y hy hr=>by
  rcases h.all y hy hr with h1|h1|h1
  ·rcases List.mem_cons.1 h1 with rfl|h2
   ·exact .inr (.inl rfl)
   ·exact .inl h2
  ·cases h1
  ·exact .inr (.inr h1)
 cur:=fun y hy=>by
  cases hy
  obtain ⟨h1,h2⟩:=h.left x List.mem_cons_self
  exact ⟨h1,h2,fun y hy=>nomatch hy⟩
theorem Search.skip {x y:Nat} {ds:List Nat} (h:Search fs f i out todo (some x) ds) (hy:out[y]?=some true):Search fs f i out todo (some x) (ds ++ [y]) where
 len:=h.len
 sound:=h.sound
 left:=h.left
 all:=h.all
 cur:=fun z hz=>by
  obtain ⟨h1,h2,h3⟩:=h.cur z hz
  refine ⟨h1,h2,fun u hu=>?_⟩
  rcases List.mem_append.1 hu with h4|h4
  ·exact h3 u h4
  ·rw [List.mem_singleton] at h4;subst h4;exact hy
theorem Search.push (hd:Distinct fs) (hi:fs[i]?=some f) {x y:Nat} {ds:List Nat} (h:Search fs f i out todo (some x) ds) (hy:y<fs.length) (hc:y ∈ callees fs x):Search fs f i (out.set y true) (todo ++ [y]) (some x) (ds ++ [y]):=by
 have hyl:y<out.length:=by rw [h.len];exact hy
 have keep:∀ z:Nat,out[z]?=some true->(out.set y true)[z]?=some true:=by
  intro z hz
  rw [List.getElem?_set]
  split
  ·rfl
  ·exact hz
 have new:(out.set y true)[y]?=some true:=by rw [List.getElem?_set_self hyl]
 obtain ⟨hx1,hx2,hx3⟩:=h.cur x rfl
 refine ⟨by rw [List.length_set];exact h.len,fun j g hj hr=>?_,fun z hz=>?_,fun z hz hr=>?_,fun z hz=>?_⟩
 ·rw [List.getElem?_set] at hr
  split at hr
  ·rename_i e
   subst e
   have hcall:CallsN fs (fs[x]).name g.name:=(calls_idx hd (lG hx1) hj).2 hc
   rcases hx2 with rfl|hx2
   ·have:fs[x]=f:=by
     rw [lG hx1] at hi
     exact Option.some.inj hi
    rw [this] at hcall
    exact .one hcall
   ·exact .more (h.sound x _ (lG hx1) hx2) hcall
  ·exact h.sound j g hj hr
 ·rcases List.mem_append.1 hz with h4|h4
  ·obtain ⟨h5,h6⟩:=h.left z h4
   exact ⟨h5,h6.imp id (keep z)⟩
  ·rw [List.mem_singleton] at h4;subst h4
   exact ⟨hy,.inr new⟩
 ·by_cases e:z=y
  ·subst e
   exact .inl (List.mem_append_right _ (by simp))
  ·have hr':z=i \/ out[z]?=some true:=by
    refine hr.imp id (fun hh=>?_)
    rw [List.getElem?_set,if_neg (Ne.symm e)] at hh
    exact hh
   rcases h.all z hz hr' with h4|h4|h4
   ·exact .inl (List.mem_append_left _ h4)
   ·exact .inr (.inl h4)
   ·exact .inr (.inr fun u hu=>keep u (h4 u hu))
 ·cases hz
  refine ⟨hx1,hx2.imp id (keep x),fun u hu=>?_⟩
  rcases List.mem_append.1 hu with h4|h4
  ·exact keep u (hx3 u h4)
  ·rw [List.mem_singleton] at h4;subst h4;exact new
theorem Search.finish {x:Nat} {ds:List Nat} (h:Search fs f i out todo (some x) ds) (hs:∀ y ∈ callees fs x,y ∈ ds):Search fs f i out todo none [] where
 len:=h.len
 sound:=h.sound
 left:=h.left
 all:=fun z hz hr=>by
  rcases h.all z hz hr with h4|h4|h4
  ·exact .inl h4
  ·cases h4
   exact .inr (.inr fun y hy=>(h.cur x rfl).2.2 y (hs y hy))
  ·exact .inr (.inr h4)
 cur:=fun z hz=>by cases hz
theorem Search.done (hd:Distinct fs) (hi:fs[i]?=some f) (h:Search fs f i out [] none []) {j:Nat} {g:FuncD} (hj:fs[j]?=some g):out[j]?=some true ↔ Reach fs f.name g.name:=by
 refine ⟨h.sound j g hj,fun hr=>?_⟩
 have hall:∀ b,Reach fs f.name b->∀ (j:Nat) (g:FuncD),fs[j]?=some g->g.name=b->out[j]?=some true:=by
  intro b hb
  induction hb with
  | one hc=>
   intro j g hj e
   subst e
   have hc':=(calls_idx hd hi hj).1 hc
   rcases h.all i (lE hi).1 (.inl rfl) with h4|h4|h4
   ·cases h4
   ·cases h4
   ·exact h4 j hc'
  | more hb' hc ih=>
   intro j g hj e
   subst e
   obtain ⟨g',hg',hm⟩:=hc
   obtain ⟨k,hk⟩:=List.mem_iff_getElem?.1 (List.mem_of_find?_eq_some hg')
   have hn:=List.find?_some hg'
   simp only [decide_eq_true_eq] at hn
   have hk2:=ih k g' hk hn
   have hc':=(calls_idx hd hk hj).1 (by rw [hn];exact ⟨g',hg',hm⟩)
   rcases h.all k (lE hk).1 (.inr hk2) with h4|h4|h4
   ·cases h4
   ·cases h4
   ·exact h4 j hc'
 exact hall _ hr j g hj rfl
end
open Go.ChangeShapes Go.WideShapes Go.ChangeAt Go.RowKit
theorem infoInt:(Tryz.prog.info? 3).map (fun i=>(i.zero,i.size,i.bytes))=some (some (.int .i64 0),1,8):=by kernel_rfl
theorem infoBool:(Tryz.prog.info? 4).map (fun i=>(i.zero,i.size,i.bytes))=some (some (.bool false),1,1):=by kernel_rfl
def Que (w:World) (base:Nat) (v:Value) (xs:List Nat):Prop:=
 ∃ g o cap cur,v=.slice (some ⟨g,o,none⟩) xs.length cap/\base<=g/\w.heap[g]?=some (.cells cur 3 (0,0))/\xs.length<=cap/\cap<=maxLen/\o+cap<=cur.size/\∀ j x,xs[j]?=some x->cur[o+j]?=some (.int .i64 (x:Nat))
theorem Que.start (w:World) {base:Nat} (hb:base<=w.heap.size) (i:Nat):Que (w.alloc (.cells #[.int .i64 i] 3)) base (.slice (some ⟨w.heap.size,0,none⟩) 1 1) [i]:=
 ⟨w.heap.size,0,1,_,rfl,hb,heap_alloc_new _ _,nR _,by unfold maxLen;omega,nR _,fun j x h=>by
  obtain ⟨hj,e⟩:=lE h
  obtain rfl:j=0:=by simp at hj;omega
  simp at e;subst e;rfl⟩
theorem Que.pop {w:World} {base:Nat} {v:Value} {x:Nat} {xs:List Nat} (h:Que w base v (x :: xs)) :
  ∃ g o cap,v=.slice (some ⟨g,o,none⟩) (xs.length+1) cap/\xs.length+1<=cap/\w.cell? ⟨g,o,none⟩=some (.int .i64 x)/\base<=g/\Que w base (.slice (if cap=1 then some ⟨g,o,none⟩ else some ⟨g,o+1,none⟩) xs.length (cap - 1)) xs:=by
 obtain ⟨g,o,cap,cur,rfl,hg,hc,hn,hm,hs,hx⟩:=h
 simp only [List.length_cons] at hn
 refine ⟨g,o,cap,by rw [List.length_cons],by omega,?_,hg,?_⟩
 ·have:=hx 0 x rfl
  rw [cell_of_row w g o cur _ (0,0) hc];exact this
 ·by_cases h1:cap=1
  ·rw [if_pos h1]
   have:xs=[]:=List.eq_nil_of_length_eq_zero (by omega)
   subst this
   exact ⟨g,o,cap - 1,cur,rfl,hg,hc,by simp,by omega,by omega,fun j x h=>by simp at h⟩
  ·rw [if_neg h1]
   refine ⟨g,o+1,cap - 1,cur,rfl,hg,hc,by omega,by omega,by omega,fun j y h=>?_⟩
   have:=hx (j+1) y (by simpa using h)
   rw [show o+1+j=o+(j+1) by omega];exact this
theorem Que.keep {w w':World} {base:Nat} {v:Value} {xs:List Nat} (h:Que w base v xs) (hb:∀ g,v.ownBlock=some g->w'.heap[g]?=w.heap[g]?):Que w' base v xs:=by
 obtain ⟨g,o,cap,cur,rfl,hg,hc,hr⟩:=h
 exact ⟨g,o,cap,cur,rfl,hg,(hb g rfl).trans hc,hr⟩
theorem Que.lt {w:World} {base:Nat} {v:Value} {xs:List Nat} (h:Que w base v xs):∀ g,v.ownBlock=some g->base<=g/\g<w.heap.size:=by
 obtain ⟨g,o,cap,cur,rfl,hg,hc,hr⟩:=h
 intro k hk
 simp only [Value.ownBlock,Option.some.injEq] at hk
 subst hk
 exact ⟨hg,(aE hc).1⟩
theorem Que.shape {w:World} {base:Nat} {v:Value} {xs:List Nat} (h:Que w base v xs):∃ a c,v=.slice a xs.length c:=by
 obtain ⟨g,o,cap,cur,rfl,_⟩:=h
 exact ⟨_,_,rfl⟩
theorem Que.below {w w':World} {base:Nat} {v:Value} {xs:List Nat} (h:Que w base v xs) (hb:Below w.heap.size w w'):Que w' base v xs:=h.keep fun g hg=>hb.block g (h.lt g hg).2
theorem Que.turn {S:Nat->Prop} {w w':World} {base:Nat} {v:Value} {xs:List Nat} (h:Que w base v xs) (hb:Turned S w w') (hs:∀ k,S k->k<base):Que w' base v xs:=
 h.keep fun g hg=>hb.block g (h.lt g hg).2 (fun e=>by have:=hs g e;have:=(h.lt g hg).1;omega)
theorem run_que_append {P:Program} {w:World} {base:Nat} (t ty:TypeId) (i:TypeInfo) (ht:P.underlying t=some (.slice 3)) (hi:P.info? 3=some i) (hz:i.zero=some (.int .i64 0)) (hs:i.size=1) (hby:i.bytes=8)
  {v:Value} {xs:List Nat} (h:Que w base v xs) (ad:Addr) (c:Nat) (y:Nat) (hnew:w.cell? ad=some (.int .i64 y)) (hlen:xs.length+1<=1000000000) (hbase:base<=w.heap.size) :
  ∃ v' w',(Builtin.append_ #[t,t] ty #[v,.slice (some ad) 1 c]).run P w=.ok v' w'/\Que w' base v' (xs ++ [y])/\w.grownBy w' v.ownBlock:=by
 obtain ⟨g,o,cap,cur,rfl,hg,hc,hn,hm,hsz,hx⟩:=h
 have hnews:∀ j u,[Value.int .i64 (y:Nat)][j]?=some u->w.cell? (ad.add j)=some u:=by
  intro j u hu
  obtain ⟨hj,e⟩:=lE hu
  obtain rfl:j=0:=by simp at hj;omega
  have:ad.add 0=ad:=by unfold Addr.add;split <;> simp_all
  rw [this,hnew];simpa using e
 have hcell:∀ j,w.cell? ⟨g,j,none⟩=cur[j]?:=fun j=>by rw [cell_of_row w g j cur _ (0,0) hc]
 by_cases hroom:xs.length+1<=cap
 ·have hr:=run_append_room_cells (P:=P) w t ty 3 i ht hi g o xs.length cap ad 1 c [.int .i64 y] (by rw [hs];rfl) hnews (fun u hu=>by simp at hu;subst hu;rfl) hroom
   (fun j hj=>by
    simp at hj;subst hj
    rw [hs,hcell,Array.getElem?_eq_getElem (by omega)];rfl)
   (fun j _=>frozen_of_row w g _ cur _ hc)
  refine ⟨_,_,hr,⟨g,o,cap,cur.setIfInBounds (o+xs.length) (.int .i64 y),by simp,hg,?_,by simp;omega,hm,by simpa using hsz,fun j x hj=>?_⟩,?_⟩
  ·rw [hs,Nat.mul_one]
   exact heap_setCell_same w g (o+xs.length) cur _ (.int .i64 y) hc
  ·rw [Array.getElem?_setIfInBounds]
   by_cases hj':j<xs.length
   ·rw [List.getElem?_append_left hj'] at hj
    rw [if_neg (by omega)]
    exact hx j x hj
   ·rw [List.getElem?_append_right (by omega)] at hj
    obtain ⟨hj2,e⟩:=lE hj
    obtain rfl:j=xs.length:=by simp at hj2;omega
    simp at e;subst e
    rw [if_pos rfl,if_pos (by omega)]
  ·rw [hs,Nat.mul_one]
   exact ⟨rfl,rfl,rfl,by simp [World.setCells],fun k _ hk=>heap_setCell_other w ⟨g,o+xs.length,none⟩ k _ (fun e=>hk (by rw [e];rfl))⟩
 ·obtain ⟨v',w',hr,hown,hgr⟩:=run_append_arg_grows (P:=P) w t ty 3 i (.int .i64 0) 1 8 ht hi hz hs hby rfl (by decide) ⟨g,o,none⟩ xs.length cap (xs.map fun x:Nat=>.int .i64 x) (by simp)
   (fun j u hu=>by
    rw [Addr.add_lit,hcell]
    rw [List.getElem?_map,Option.map_eq_some_iff] at hu
    obtain ⟨x,hx',rfl⟩:=hu
    exact hx j x hx')
   ad 1 c [.int .i64 y] rfl hnews (by omega) (by unfold maxLen;omega) (by omega)
  refine ⟨v',w',hr,?_,⟨hgr.os,hgr.tape,hgr.output,hgr.size,fun k hk _=>hgr.block k hk (by simp)⟩⟩
  obtain ⟨hl,⟨h1,h2⟩|⟨g',cap',cur',rfl,hb',hc',hn',hm',hs',ht'⟩⟩:=hown
  ·omega
  ·refine ⟨g',0,cap',cur',by simp,by omega,hc',by simp;omega,hm',by omega,fun j x hj=>?_⟩
   have hjl:j<xs.length+1:=by have:=(lE hj).1;simpa using this
   have:(cur'.toList.take ((xs.length+1) * 1))[j]?=some (.int .i64 (x:Nat)):=by
    rw [ht',show (xs.map fun x:Nat=>Value.int .i64 x) ++ [.int .i64 y]=(xs ++ [y]).map fun x:Nat=>Value.int .i64 x by simp,List.getElem?_map,hj]
    rfl
   rw [List.getElem?_take,if_pos (by omega),Array.getElem?_toList] at this
   rw [Nat.zero_add];exact this
theorem wpList_que_append {P:Program} {w:World} {ops:Array Oper} {rest:List Oper} {o:Oper} {a:Act} {Q:Exit->Act->World->Prop} (hgd:o.guard=none) (s x:Operand) (t:TypeId)
  (ho:o.op=.call { callee:=.builtin .append,args:=#[s,x],argTypes:=#[t,t] }) {base:Nat} (i:TypeInfo) (ht:P.underlying t=some (.slice 3)) (hi:P.info? 3=some i) (hz:i.zero=some (.int .i64 0)) (hs:i.size=1) (hby:i.bytes=8)
  {v:Value} {xs:List Nat} (hv:a.eval s=v) (h:Que w base v xs) (ad:Addr) (c:Nat) (y:Nat) (hx:a.eval x=.slice (some ad) 1 c) (hnew:w.cell? ad=some (.int .i64 y)) (hlen:xs.length+1<=1000000000) (hbase:base<=w.heap.size)
  (hK:∀ v' w',Que w' base v' (xs ++ [y])->w.grownBy w' v.ownBlock->wpList P ops Q rest (a.put o.dst v') w'):wpList P ops Q (o :: rest) a w:=by
 refine wpList_plain hgd fun K hK'=>?_
 obtain ⟨v',w',hrun,h1,h2⟩:=run_que_append (P:=P) t o.type i ht hi hz hs hby h ad c y hnew hlen hbase
 unfold Oper.wp
 simp [execOp,ho,resolve,invoke,builtin,hv,hx,hrun,Result.andThen]
 exact hK' _ _ (hK v' w' h1 h2)
theorem run_que_cut {P:Program} {t:TypeId} (ht:P.underlying t=some (.slice (P.elem t))) (hs:∀ w,(sizeOf (P.elem t)).run P w=.ok 1 w) (g o n cap:Nat) (hn:n+1<=cap) (w:World) :
  (Instr.sliceAt t (.slice (some ⟨g,o,none⟩) (n+1) cap) (some (.int .i64 1)) none none).run P w=.ok (.slice (if cap=1 then some ⟨g,o,none⟩ else some ⟨g,o+1,none⟩) n (cap - 1)) w:=by
 rw [run_sliceAt_slice w t _ _ _ _ ht,run_slice_l w t _ (n+1) cap ht .i64 1 (by decide) (by omega),hs]
 by_cases h:cap=1
 ·simp [Result.andThen,sliced,h]
 ·simp [Result.andThen,sliced,h,Addr.add_lit]
theorem findZ_idx (s:ByteArray) (l:List FuncD):(∃ y:Nat,idxOf l s=some y/\findZ s l=y/\y<l.length) \/ (idxOf l s=none/\findZ s l=-1):=by
 unfold findZ idxOf
 cases h:l.findIdx? (fun f=>decide (f.name=s)) with
 | none=>exact .inr ⟨rfl,rfl⟩
 | some j=>exact .inl ⟨j,rfl,rfl,(List.findIdx?_eq_some_iff_getElem.1 h).1⟩
theorem count_cut {l:List Bool} {y:Nat} (h:l[y]?=some false):(l.set y true).count false+1=l.count false:=by
 obtain ⟨hy,e⟩:=lE h
 have hpos:0<l.count false:=List.count_pos_iff.2 (e ▸ List.getElem_mem hy)
 rw [List.count_set hy,e]
 simp
 omega
def boolsO (O:List Bool):Array Value:=(O.map Value.bool).toArray
theorem boolsO_at {O:List Bool} {y:Nat} {b:Bool} (h:O[y]?=some b):(boolsO O)[y]?=some (.bool b):=by
 unfold boolsO;simp [h]
theorem boolsO_set (O:List Bool) (y:Nat):(boolsO O).setIfInBounds y (.bool true)=boolsO (O.set y true):=by
 unfold boolsO
 simp [List.map_set]
theorem made_bools (n:Nat):madeCells #[Value.bool false] n=boolsO (List.replicate n false):=by
 have:=toList_madeCells_one (.bool false) n
 unfold boolsO
 rw [List.map_replicate,<- this]
theorem under_ints:Tryz.prog.underlying 60=some (.slice (Tryz.prog.elem 60)):=by kernel_rfl
theorem size_int (w:World):(sizeOf (Tryz.prog.elem 60)).run Tryz.prog w=.ok 1 w:=by kernel_rfl
theorem refReaches (p:ProgD) (cv av fv mv:Value) (i:Nat) (f:FuncD) (w:World) (h:RdProg none w p cv av fv mv) (hd:Distinct p.funcs) (hi:p.funcs[i]?=some f) (hl:p.funcs.length<=32) :
  Calls Tryz.prog 96 #[progV p cv av fv mv,.int .i64 i] w fun e w'=>∃ (b:Nat) (O:List Bool),e=.returned (.slice (some ⟨b,0,none⟩) p.funcs.length p.funcs.length)/\w'.heap[b]?=some (.cells (boolsO O) 4 (0,0))/\O.length=p.funcs.length/\(∀ (j:Nat) (g:FuncD),p.funcs[j]?=some g->(O[j]?=some true ↔ Reach p.funcs f.name g.name))/\Below w.heap.size w w':=by
 obtain ⟨hrc,hra,hrf,hrm,hrw⟩:=id h
 obtain ⟨ac,kc,rfl,-,-⟩:=id hrc
 obtain ⟨aa,ka,rfl,-,-⟩:=id hra
 obtain ⟨af,kf,rfl,-,hrfs⟩:=id hrf
 obtain ⟨am,km,rfl,-,-⟩:=id hrm
 obtain ⟨i0,hj,hz0,hz1,hz2⟩:=info_parts infoBool
 obtain ⟨i1,hj1,hy0,hy1,hy2⟩:=info_parts infoInt
 obtain ⟨fs,hfs⟩:∃ l,l=p.funcs:=⟨_,rfl⟩
 have H:=Hd h
 have HD:=Hd hd
 have HI:=Hd hi
 have HR:=Hd hrfs
 have hlen:=hl
 clear h hrc hra hrf hrm hrw hrfs hd hi hfs
 go_enter Tryz.func96,Tryz.ntmps96
 go_upto_region 1 with fail
 have hb0:=(bR w.heap.size w).alloc (nR _) (.cells #[.int .i64 p.width,.slice ac p.chans.length kc,.slice aa p.arrays.length ka,.slice af p.funcs.length kf,.slice am p.main.length km] 27)
 have g0:=heap_alloc_new w (.cells #[.int .i64 p.width,.slice ac p.chans.length kc,.slice aa p.arrays.length ka,.slice af p.funcs.length kf,.slice am p.main.length km] 27)
 have e0:(w.alloc (.cells #[.int .i64 p.width,.slice ac p.chans.length kc,.slice aa p.arrays.length ka,.slice af p.funcs.length kf,.slice am p.main.length km] 27)).heap.size=w.heap.size+1:=by
  show (w.heap.push _).size=_
  simp
 generalize w.alloc (.cells #[.int .i64 p.width,.slice ac p.chans.length kc,.slice aa p.arrays.length ka,.slice af p.funcs.length kf,.slice am p.main.length km] 27)=W1 at *
 have l3:=row_of g0 3 _ rfl
 have G0:=Hd g0
 have HB0:=Hd hb0
 have HE0:=Hd e0
 clear g0 hb0 e0
 go_upto_region 2 with (refine wpList_make_row _ rfl _ _ 156 rfl 4 i0 (.bool false) Tryz.underlying156 hj hz0 hz1 rfl .i64 .i64 p.funcs.length rfl rfl ?b1 ?b2 ?_)
 case b1=>rw [hz2];omega
 case b2=>omega
 have hb1:=(bR W1.heap.size W1).alloc (nR _) (.cells (madeCells #[.bool false] p.funcs.length) 4)
 have g1:=heap_alloc_new W1 (.cells (madeCells #[.bool false] p.funcs.length) 4)
 have e1:(W1.alloc (.cells (madeCells #[.bool false] p.funcs.length) 4)).heap.size=W1.heap.size+1:=by
  show (W1.heap.push _).size=_
  simp
 generalize W1.alloc (.cells (madeCells #[.bool false] p.funcs.length) 4)=W2 at *
 rw [made_bools] at g1
 obtain ⟨B,hB⟩:∃ b,W1.heap.size=b:=⟨_,rfl⟩
 rw [hB] at g1 e1 ⊢
 have G0':=Hd ((hb1.block w.heap.size (by have:=HE0.out;omega)).trans G0.out)
 have HB2:=Hd (HB0.out.trans (hb1.mono (by have:=HE0.out;omega)))
 have G1:=Hd g1
 have hB1:w.heap.size+1=B:=by rw [<- hB];exact HE0.out.symm
 clear g1 hb1 l3 G0 HB0 HE0 hB
 go_wp2_with fail
 have HQ0:=Hd (Que.start W2 (base:=B+1) (by omega) i)
 have hb3:=(bR W2.heap.size W2).alloc (nR _) (.cells #[.int .i64 i] 3)
 rw [e1] at HQ0
 generalize W2.alloc (.cells #[.int .i64 i] 3)=W3 at *
 have G3:=Hd ((hb3.block w.heap.size (by omega)).trans G0'.out)
 have K3:=Hd ((hb3.block B (by omega)).trans G1.out)
 have HB3:=Hd (HB2.out.trans (hb3.mono (by omega)))
 have hsz3:B+1<=W3.heap.size:=by have:=hb3.size;omega
 clear hb3 G0' G1 HB2
 go_loopg [6,7,8,9] (p.funcs.length+1) (fun gk todo _ _ _ wr=>∃ (T:List Nat) (O:List Bool),Search p.funcs f i O T none []/\Que wr (B+1) todo T/\wr.heap[B]?=some (.cells (boolsO O) 4 (0,0))/\wr.heap[w.heap.size]?=some (.cells #[.int .i64 p.width,.slice ac p.chans.length kc,.slice aa p.arrays.length ka,.slice af p.funcs.length kf,.slice am p.main.length km] 27 (0,0))/\Below w.heap.size w wr/\B+1<=wr.heap.size/\T.length+O.count false<=gk/\gk<=p.funcs.length+1)
 case atStart=>exact ⟨[i],List.replicate p.funcs.length false,Search.start HI.out,HQ0.out,K3.out,G3.out,HB3.out,hsz3,by simp [List.count_replicate_self];omega,nR _⟩
 case round=>
  obtain ⟨wo,rfl⟩:∃ x:World,x=wr:=⟨_,rfl⟩
  obtain ⟨go,rfl⟩:∃ x:Nat,x=gk:=⟨_,rfl⟩
  obtain ⟨T,O,hsr,hq,hrow,hbox,hb,hsz,hms,hgk⟩:=hrel
  have HS:=Hd hsr
  have HQ:=Hd hq
  have HRW:=Hd hrow
  have HBX:=Hd hbox
  have HB:=Hd hb
  obtain ⟨ta,tc,hte⟩:=hq.shape
  clear hsr hq hrow hbox hb
  cases T with
  | nil=>
   subst hte
   have HV:Hid (∀ (j:Nat) (g:FuncD),p.funcs[j]?=some g->(O[j]?=some true ↔ Reach p.funcs f.name g.name)):=fun j g hg=>HS.out.done HD.out HI.out hg
   go_wp2_with fail
   go_ret
   exact ⟨B,O,rfl,HRW.out,HS.out.len,HV.out,HB.out⟩
  | cons x T=>
   obtain ⟨hxl,-⟩:=HS.out.left x List.mem_cons_self
   obtain ⟨fx,hfx⟩:∃ g,p.funcs[x]?=some g:=⟨_,lG hxl⟩
   have HFX:=Hd hfx
   have HP:=Hd HS.out.pop
   obtain ⟨g,o,cap,e9,hcap,hcx,hgb,hq2⟩:=HQ.out.pop
   clear hte
   subst e9
   have HQ2:=Hd hq2
   obtain ⟨fb,fo,pv9,cv9,rfl,-,-,-,y2,-,-,hf9⟩:=HR.out x fx hfx
   obtain ⟨xa,xc,rfl,hlx,-⟩:=id hf9.2.1
   have HCV:=Hd hf9.2.1
   have y2':=cell_keep HB.out y2
   have l3:=row_of HBX.out 3 _ rfl
   have e2:=fun z=>ext_cell y2' z
   have e3:=fun z=>ext_cell l3 z
   have ex:=fun z=>ext_cell hcx z
   have hxl':(x:Int)<(p.funcs.length:Int):=by omega
   have hcut:=fun w=>run_que_cut under_ints size_int g o T.length cap hcap w
   clear hf9 y2 y2' l3 hfx hq2
   go_upto_region 4 with fail
   (refine wp_region_calm (by kernel_rfl) (by kernel_rfl) ?_; (repeat (go_big_quiet_step (fail))); refine wpQuiet_nil ?_; intro wc hwc)
   have HBC:=Hd (bcomp HB.out hwc)
   have HQC:=Hd (HQ2.out.below hwc)
   have HRC:=Hd ((hwc.block B (by omega)).trans HRW.out)
   have HXC:=Hd ((hwc.block w.heap.size (by omega)).trans HBX.out)
   have hszc:=hwc.size
   obtain ⟨a6,ha6⟩:∃ a:Option Addr,(if cap=1 then some ⟨g,o,none⟩ else some ⟨g,o+1,none⟩)=a:=⟨_,rfl⟩
   rw [ha6] at HQC hcut
   have HCD:Hid (callees p.funcs x=(callsOf fx.code).filterMap (idxOf p.funcs)):=by unfold Hid callees;rw [HFX.out]
   have hms':T.length+O.count false+1<=go:=by simp only [List.length_cons] at hms;omega
   clear e2 e3 ex HQ HQ2 HRW HBX HB hwc ha6 hcx hcap hgb hms HS HFX
   go_wp2_with fail
   clear hcut
   obtain ⟨code,hcode⟩:∃ c,fx.code=c:=⟨_,rfl⟩
   rw [hcode] at HCV HCD hlx ⊢
   clear hcode
   have HSZ:=Hd hlx
   go_loopw [6,8,9] (fun todo kk _ wr=>∃ (k:Nat) (T2:List Nat) (O2:List Bool),k<=code.length/\kk=.int .i64 k/\Search p.funcs f i O2 T2 (some x) ((callsOf (code.take k)).filterMap (idxOf p.funcs))/\Que wr (B+1) todo T2/\wr.heap[B]?=some (.cells (boolsO O2) 4 (0,0))/\wr.heap[w.heap.size]?=some (.cells #[.int .i64 p.width,.slice ac p.chans.length kc,.slice aa p.arrays.length ka,.slice (some ⟨fb,fo,none⟩) p.funcs.length kf,.slice am p.main.length km] 27 (0,0))/\Below w.heap.size w wr/\B+1<=wr.heap.size/\T2.length+O2.count false+1<=go) (fun _ kk _ _=>code.length - (intOf kk).toNat)
   case atStart=>exact ⟨0,T,O,Nat.zero_le _,rfl,HP.out,HQC.out,HRC.out,HXC.out,HBC.out,by omega,hms'⟩
   case round=>
    obtain ⟨wi,rfl⟩:∃ y:World,y=wr:=⟨_,rfl⟩
    obtain ⟨k,T2,O2,hk,rfl,hs2,hq2,hr2,hx2,hb2,hsz2,hms2⟩:=hrel
    have HS2:=Hd hs2
    have HQ2:=Hd hq2
    have HR2:=Hd hr2
    have HX2:=Hd hx2
    have HB2:=Hd hb2
    obtain ⟨a7,c7,rfl⟩:=hq2.shape
    clear hs2 hq2 hr2 hx2 hb2 HQC HRC HXC HBC HP hszc hms'
    by_cases hkl:k<code.length
    ·have hkl':(k:Int)<(code.length:Int):=by omega
     obtain ⟨y,hy⟩:∃ y,code[k]?=some y:=⟨_,lG hkl⟩
     obtain ⟨xa',xc',e8,-,hrc⟩:=id HCV.out
     simp only [Value.slice.injEq] at e8
     obtain ⟨rfl,-,rfl⟩:=e8
     obtain ⟨b,o2,av2,rfl,-,c0,-,-,c3,-⟩:=hrc k y hy
     have d0:=cell_keep HB2.out c0
     have D3:=Hd (cell_keep HB2.out c3)
     have HST:=Hd (callsOf_step code y k hy)
     clear c0 c3 hrc
     by_cases h4:y.kind=4
     ·have h4b:(y.kind == 4)=true:=by simp [h4]
      rw [h4] at d0
      have hst:=HST.out
      rw [if_pos h4b] at hst
      have HC:=refFind p (.slice ac p.chans.length kc) (.slice aa p.arrays.length ka) (.slice (some ⟨fb,fo,none⟩) p.funcs.length kf) (.slice am p.main.length km) y.name
      have HRD:=Hd (H.out.keep HB2.out)
      have e0:=fun z=>ext_cell (row_of HX2.out 0 _ rfl) z
      have e1:=fun z=>ext_cell (row_of HX2.out 1 _ rfl) z
      have e2:=fun z=>ext_cell (row_of HX2.out 2 _ rfl) z
      have e3:=fun z=>ext_cell (row_of HX2.out 3 _ rfl) z
      have e4:=fun z=>ext_cell (row_of HX2.out 4 _ rfl) z
      have e5:=fun z=>ext_cell D3.out z
      rcases findZ_idx y.name p.funcs with ⟨u,hu1,hu2,hu3⟩|⟨hu1,hu2⟩
      ·have HN:Hid ((callsOf (code.take (k+1))).filterMap (idxOf p.funcs)=(callsOf (code.take k)).filterMap (idxOf p.funcs) ++ [u]):=by
        unfold Hid
        rw [hst,List.filterMap_append]
        simp [hu1]
       have HCL:Hid (u ∈ callees p.funcs x):=by
        unfold Hid
        rw [HCD.out]
        refine List.mem_filterMap.2 ⟨y.name,?_,hu1⟩
        unfold callsOf
        exact List.mem_map.2 ⟨y,List.mem_filter.2 ⟨List.mem_of_getElem? hy,h4b⟩,rfl⟩
       rw [hu2] at HC
       have C:=Hd (fun z=>HC (ext wi z) (HRD.out.keep (ext_below _ z)).2.2.1)
       have hul:(u:Int)<(p.funcs.length:Int):=by omega
       obtain ⟨bu,hbu⟩:∃ bb,O2[u]?=some bb:=⟨_,lG (by rw [HS2.out.len];exact hu3)⟩
       have HBU:=Hd hbu
       have hun:(0:Int)<=(u:Int):=by omega
       clear HC hu1 hu2 hst HST h4 h4b hbu hy
       go_upto_region 10 with fail
       (refine wp_region_calm (by kernel_rfl) (by kernel_rfl) ?_; (repeat (go_big_quiet_step ((go_at_call 123;exact calls_calm (C.out _))))); refine wpQuiet_nil ?_; intro wc hwc)
       have HBN:=Hd (bcomp HB2.out hwc)
       have HQN:=Hd (HQ2.out.below hwc)
       have hrn:=(hwc.block B (by omega)).trans HR2.out
       have HRN:=Hd hrn
       have HXN:=Hd ((hwc.block w.heap.size (by omega)).trans HX2.out)
       have hszn:=hwc.size
       have hcu:=row_of hrn u _ (boolsO_at HBU.out)
       have hfu:=frozen_of_row wc B u _ _ hrn
       clear e0 e1 e2 e3 e4 e5 hwc C hrn
       cases bu
       ·have HS3:=Hd (HS2.out.push HD.out HI.out hu3 HCL.out)
        have HCT:=Hd (count_cut HBU.out)
        have hO:T2.length+1+(O2.set u true).count false+1<=go:=by have:=HCT.out;omega
        have hT:T2.length<=33:=by omega
        have HT1:=Hd (setCell_turned wc ⟨B,u,none⟩ (.bool true))
        have hsc:(wc.setCell ⟨B,u,none⟩ (.bool true)).heap.size=wc.heap.size:=by simp
        have HSC:=Hd hsc
        have HR5:=Hd (heap_setCell_same wc B u _ _ (.bool true) HRN.out)
        have HQ5:=Hd (HQN.out.turn HT1.out (fun k e=>by change k=B at e;omega))
        have HB5:=Hd (below_then HBN.out HT1.out (by omega) (fun k e=>by change k=B at e;omega))
        have HX5:=Hd ((HT1.out.block w.heap.size (by omega) (by simp;omega)).trans HXN.out)
        clear hsc
        go_wp2_with (at_builtin;refine wpList_que_append rfl (.tmp 60) (.tmp 62) 60 rfl (base:=B+1) i1 Tryz.underlying60 hj1 hy0 hy1 hy2 rfl (HQ5.out.below ((bR _ _).alloc (nR _) _)) ⟨wc.heap.size,0,none⟩ 1 u rfl ?n1 ?n2 ?n3 ?_)
        case n2=>omega
        case n3=>have:=HSC.out;simp;omega
        ·intro v' w6 hq6 hg6
         have HA:=(bR (wc.setCell ⟨B,u,none⟩ (.bool true)).heap.size (wc.setCell ⟨B,u,none⟩ (.bool true))).alloc (nR _) (.cells #[.int .i64 u] 3)
         have HT6:Turned (fun k=>B+1<=k) (wc.setCell ⟨B,u,none⟩ (.bool true)) w6:=(Turned.of_below HA).trans (Turned.of_grown hg6 (fun k e=>(HQ5.out.lt k e).1))
         have hs5:=HSC.out
         have HR6:=Hd ((HT6.block B (by omega) (by omega)).trans HR5.out)
         have HX6:=Hd ((HT6.block w.heap.size (by omega) (by omega)).trans HX5.out)
         have HB6:=Hd (below_then HB5.out HT6 (by omega) (fun k e=>by omega))
         have HQ6:=Hd hq6
         have hz6:=HT6.size
         rw [boolsO_set] at HR6
         obtain ⟨a9,c9,rfl⟩:=hq6.shape
         clear hq6 hg6 HA HT6 hcu hfu
         go_wp2_with fail
         go_roundw
         case rel=>exact ⟨k+1,T2 ++ [u],O2.set u true,by omega,by go_num,by rw [HN.out];exact HS3.out,HQ6.out,HR6.out,HX6.out,HB6.out,by omega,by simp only [List.length_append,List.length_singleton];omega⟩
         case measure=>simp [intOf];omega
       ·have HS3:=Hd (HS2.out.skip HBU.out)
        go_wp2_with fail
        go_roundw
        case rel=>exact ⟨k+1,T2,O2,by omega,by go_num,by rw [HN.out];exact HS3.out,HQN.out,HRN.out,HXN.out,HBN.out,by omega,hms2⟩
        case measure=>simp [intOf];omega
      ·have HN:Hid ((callsOf (code.take (k+1))).filterMap (idxOf p.funcs)=(callsOf (code.take k)).filterMap (idxOf p.funcs)):=by
        unfold Hid
        rw [hst,List.filterMap_append]
        simp [hu1]
       rw [hu2] at HC
       have C:=Hd (fun z=>HC (ext wi z) (HRD.out.keep (ext_below _ z)).2.2.1)
       clear HC hu1 hu2 hst HST h4 h4b
       go_upto_region 10 with fail
       (refine wp_region_calm (by kernel_rfl) (by kernel_rfl) ?_; (repeat (go_big_quiet_step ((go_at_call 123;exact calls_calm (C.out _))))); refine wpQuiet_nil ?_; intro wc hwc)
       have HBN:=Hd (bcomp HB2.out hwc)
       have HQN:=Hd (HQ2.out.below hwc)
       have HRN:=Hd ((hwc.block B (by omega)).trans HR2.out)
       have HXN:=Hd ((hwc.block w.heap.size (by omega)).trans HX2.out)
       have hszn:=hwc.size
       clear e0 e1 e2 e3 e4 e5 hwc C
       go_wp2_with fail
       go_roundw
       case rel=>exact ⟨k+1,T2,O2,by omega,by go_num,by rw [HN.out];exact HS2.out,HQN.out,HRN.out,HXN.out,HBN.out,by omega,hms2⟩
       case measure=>simp [intOf];omega
     ·have h4b:(y.kind == 4)=false:=by simp [h4]
      have hst:=HST.out
      rw [h4b] at hst
      have HN:Hid ((callsOf (code.take (k+1))).filterMap (idxOf p.funcs)=(callsOf (code.take k)).filterMap (idxOf p.funcs)):=by
       unfold Hid;rw [hst];simp
      have h4n:(y.kind != 4)=true:=by simp [h4]
      clear hst HST h4
      go_wp2_with fail
      go_roundw
      case rel=>exact ⟨k+1,T2,O2,by omega,by go_num,by rw [HN.out];exact HS2.out,HQ2.out,HR2.out,HX2.out,HB2.out,hsz2,hms2⟩
      case measure=>simp [intOf];omega
    ·obtain rfl:k=code.length:=by omega
     have HF:Hid (Search p.funcs f i O2 T2 none []):=by
      have:=HS2.out
      rw [List.take_length] at this
      exact this.finish (fun y hy=>by rw [<- HCD.out];exact hy)
     go_wp2_with fail
     go_roundg (go - 1)
     case measure=>omega
     case rel=>exact ⟨T2,O2,HF.out,HQ2.out,HR2.out,HX2.out,HB2.out,hsz2,by omega,by omega⟩
open Go.ChangeShapes Go.WideShapes Go.ChangeAt Go.RowKit
def codesL (p:ProgD):List (List InstrD):=p.funcs.map (·.code) ++ [p.main]
theorem codesL_at (p:ProgD) {i:Nat} (h:i<=p.funcs.length):(codesL p)[i]?=some (codeAt p i):=by
 unfold codesL codeAt
 by_cases hi:i<p.funcs.length
 ·rw [List.getElem?_append_left (by simpa using hi),List.getElem?_map]
  cases hf:p.funcs[i]? with
  | none=>rw [List.getElem?_eq_none_iff] at hf;omega
  | some f=>rfl
 ·obtain rfl:i=p.funcs.length:=by omega
  rw [List.getElem?_append_right (by simp)]
  simp
theorem codesL_len (p:ProgD):(codesL p).length=p.funcs.length+1:=by simp [codesL]
def tgtsF (p:ProgD):Option FaultD:=firstF (fun _ c=>targetsF (paramsOf p.funcs) (labelsOf c) c) [] (codesL p)
noncomputable def laterF (p:ProgD):Option FaultD:=(tgtsF p).or (loopsF p.funcs)
theorem tgts_map (ps:List (ByteArray × Int)) (f:List InstrD->Option FaultD):∀ (l:List FuncD) (d:List (List InstrD)) (d':List FuncD),firstF (fun _ c=>f c) d (l.map (·.code))=firstF (fun _ x=>f x.code) d' l
 | [],_,_=>rfl
 | x :: r,d,d'=>by
  simp only [List.map_cons,firstF]
  rw [tgts_map ps f r (d ++ [x.code]) (d' ++ [x])]
theorem laterF_is (p:ProgD):laterF p=(targsF p.funcs).or ((targetsF (paramsOf p.funcs) (labelsOf p.main) p.main).or (loopsF p.funcs)):=by
 unfold laterF tgtsF codesL targsF
 rw [firstF_append,tgts_map (paramsOf p.funcs) (fun c=>targetsF (paramsOf p.funcs) (labelsOf c) c) p.funcs [] [],Option.or_assoc]
 simp [firstF]
theorem res_later (tmps:Array Value) (W:World) (g:Nat) (l c e:Int) (h2:tmps.getD 2 undef=.pointer (some ⟨g,0,none⟩)) (h3:tmps.getD 3 undef=.int .i64 e) (hg:W.heap[g]?=some (.cells #[.int .i64 l,.int .i64 c] 35 (0,0))) :
  (results Tryz.f62 tmps).run Tryz.prog W=.ok (.tuple #[.agg #[.int .i64 l,.int .i64 c],.int .i64 e]) W:=by
 have r0:=row_of hg 0 _ rfl
 have r1:=row_of hg 1 _ rfl
 rw [Array.getD_eq_getD_getElem?] at h2 h3
 have r0:W.cell? ⟨g,0,none⟩=some (.int .i64 l):=r0
 have r1:W.cell? ⟨g,1,none⟩=some (.int .i64 c):=r1
 simp [results,Tryz.results62,go_sem,h2,h3,r0,r1]
theorem targets_err {ps:List (ByteArray × Int)} {ls:List ByteArray} {code:List InstrD} {F:FaultD} (h:targetsF ps ls code=some F):3<=F.e/\F.e<=9:=
 targetsF_ev (P:=fun F=>3<=F.e/\F.e<=9) ps ls code (fun _ _ e h1 h2=>⟨h1,h2⟩) F h
open Classical in
theorem loop_iff (fs:List FuncD) (a:ByteArray):loopB fs a=true ↔ Reach fs a a:=by unfold loopB;rw [decide_eq_true_iff]
theorem loop_not {fs:List FuncD} {a:ByteArray} (h:loopB fs a=false):¬ Reach fs a a:=fun hr=>by rw [(loop_iff fs a).2 hr] at h;cases h
theorem refV_some (F:FaultD):refV (some F)=.tuple #[.agg #[.int .i64 F.line,.int .i64 F.col],.int .i64 F.e]:=rfl
theorem refV_none:refV none=.tuple #[.agg #[.int .i64 0,.int .i64 0],.int .i64 0]:=rfl
theorem refLater (p:ProgD) (cv av fv mv:Value) (w:World) (h:RdProg none w p cv av fv mv) (hd:Distinct p.funcs) (hl:p.funcs.length<=32) :
  Calls Tryz.prog 62 #[progV p cv av fv mv] w fun e w'=>e=.returned (refV (laterF p))/\Below w.heap.size w w':=by
 obtain ⟨hrc,hra,hrf,hrm,hrw⟩:=id h
 obtain ⟨ac,kc,rfl,-,-⟩:=id hrc
 obtain ⟨aa,ka,rfl,-,-⟩:=id hra
 obtain ⟨af,kf,rfl,-,hrfs⟩:=id hrf
 obtain ⟨am,km,rfl,-,-⟩:=id hrm
 have H:=Hd h
 have HD:=Hd hd
 have HR:=Hd hrfs
 clear h hrc hra hrf hrm hrw hrfs hd
 go_enter Tryz.func62,Tryz.ntmps62
 go_upto_region 1 with fail
 have hb0:=((bR w.heap.size w).alloc (nR _) (.cells #[.int .i64 p.width,.slice ac p.chans.length kc,.slice aa p.arrays.length ka,.slice af p.funcs.length kf,.slice am p.main.length km] 27)).alloc (by simp) (.cells #[.int .i64 0,.int .i64 0] 35)
 have g0:=heap_alloc2_old w (.cells #[.int .i64 p.width,.slice ac p.chans.length kc,.slice aa p.arrays.length ka,.slice af p.funcs.length kf,.slice am p.main.length km] 27) (.cells #[.int .i64 0,.int .i64 0] 35)
 have g1:=heap_alloc2_new w (.cells #[.int .i64 p.width,.slice ac p.chans.length kc,.slice aa p.arrays.length ka,.slice af p.funcs.length kf,.slice am p.main.length km] 27) (.cells #[.int .i64 0,.int .i64 0] 35)
 generalize ((w.alloc (.cells #[.int .i64 p.width,.slice ac p.chans.length kc,.slice aa p.arrays.length ka,.slice af p.funcs.length kf,.slice am p.main.length km] 27)).alloc (.cells #[.int .i64 0,.int .i64 0] 35))=W0 at *
 have hs0:w.heap.size+1<W0.heap.size:=(aE g1).1
 have G0:=Hd g0
 have G1:=Hd g1
 have HB0:=Hd hb0
 clear g0 g1 hb0
 go_wp2_with fail
 go_loopw [4,5,6] (fun ii _ _ wr=>∃ k:Nat,k<=p.funcs.length+1/\ii=.int .i64 k/\firstF (fun _ c=>targetsF (paramsOf p.funcs) (labelsOf c) c) [] ((codesL p).take k)=none/\Below W0.heap.size W0 wr) (fun ii _ _ _=>p.funcs.length+1 - (intOf ii).toNat)
 case atStart=>exact ⟨0,Nat.zero_le _,rfl,rfl,bR _ _⟩
 case round=>
  obtain ⟨k,hk,rfl,hq,hb⟩:=hrel
  have HQ:=Hd hq
  have HB:=Hd hb
  have hszr:=hb.size
  have hg0:=(hb.block w.heap.size (by omega)).trans G0.out
  have l0:=row_of hg0 0 _ rfl
  have l1:=row_of hg0 1 _ rfl
  have l2:=row_of hg0 2 _ rfl
  have l3:=row_of hg0 3 _ rfl
  have l4:=row_of hg0 4 _ rfl
  clear hq hb hg0
  by_cases hlt:k<=p.funcs.length
  ·have hlt':(k:Int)<=(p.funcs.length:Int):=by omega
   have hC:=refRefers p _ _ _ _ k wr ((H.out.keep HB0.out).keep HB.out) hlt
   have HX:=Hd (codesL_at p hlt)
   cases hF:targetsF (paramsOf p.funcs) (labelsOf (codeAt p k)) (codeAt p k) with
   | none=>
    have HV:Hid (firstF (fun _ c=>targetsF (paramsOf p.funcs) (labelsOf c) c) [] ((codesL p).take (k+1))=none):=firstF_go HX.out HQ.out hF
    rw [hF,refV_none] at hC
    have HC:=Hd hC
    clear hC hF
    go_wp2_with (go_at_call 95;refine HC.out.mono ?_;rintro e w1 ⟨rfl,hb1⟩;have HB1:=Hd (bcomp HB.out hb1);clear hb1)
    have HB2:=Hd (bcomp HB1.out ((bR w1.heap.size w1).alloc (nR _) (.cells #[.int .i64 0,.int .i64 0] 35)))
    go_roundw
    case rel=>exact ⟨k+1,by omega,by go_num,HV.out,HB2.out⟩
    case measure=>simp [intOf];omega
   | some F=>
    have HV:Hid (laterF p=some F):=by
     unfold Hid laterF tgtsF
     rw [firstF_hit HX.out HQ.out hF];rfl
    obtain ⟨he1,he2⟩:=targets_err hF
    have hne:(F.e != 0)=true:=by simp;omega
    rw [hF,refV_some] at hC
    have HC:=Hd hC
    clear hC hF
    go_upto_region 5 with (go_at_call 95;refine HC.out.mono ?_;rintro e w1 ⟨rfl,hb1⟩;have HB1:=Hd (bcomp HB.out hb1);clear hb1)
    have gx:=heap_alloc_new w1 (.cells #[.int .i64 F.line,.int .i64 F.col] 35)
    have HB2:=Hd (bcomp HB1.out ((bR w1.heap.size w1).alloc (nR _) (.cells #[.int .i64 F.line,.int .i64 F.col] 35)))
    generalize w1.alloc (.cells #[.int .i64 F.line,.int .i64 F.col] 35)=w2 at *
    have x0:=row_of gx 0 _ rfl
    have x1:=row_of gx 1 _ rfl
    have gr:=(HB2.out.block (w.heap.size+1) hs0).trans G1.out
    have z0:=row_of gr 0 _ rfl
    have z1:=row_of gr 1 _ rfl
    have f0:=frozen_of_row w2 _ 0 _ _ gr
    have f1:=frozen_of_row w2 _ 1 _ _ gr
    have HGR:=Hd gr
    clear gx gr l0 l1 l2 l3 l4
    go_wp2_with fail
    refine bodyPost_ret (v:=refV (some F)) (res_later _ _ (w.heap.size+1) F.line F.col F.e rfl rfl (pos_row HGR.out)) rfl ⟨by rw [HV.out],?_⟩
    exact ((HB0.out.trans (HB2.out.mono HB0.out.size)).setCell (by simp) _).setCell (by simp) _
  ·obtain rfl:k=p.funcs.length+1:=by omega
   have hlt':¬ ((p.funcs.length:Int)+1<=(p.funcs.length:Int)):=by omega
   have HT:Hid (tgtsF p=none):=by
    have:=HQ.out
    rw [<- codesL_len p,List.take_length] at this
    exact this
   have HV:Hid (laterF p=loopsF p.funcs):=by unfold Hid laterF;rw [HT.out];rfl
   obtain ⟨wo,rfl⟩:∃ x:World,x=wr:=⟨_,rfl⟩
   go_wp2_with fail
   go_loopw [7] (fun ii wr=>∃ k:Nat,k<=p.funcs.length/\ii=.int .i64 k/\firstF (fun _ (f:FuncD)=>needF (!loopB p.funcs f.name) f.line f.col 9) [] (p.funcs.take k)=none/\Below W0.heap.size W0 wr) (fun ii _=>p.funcs.length - (intOf ii).toNat)
   case atStart=>exact ⟨0,Nat.zero_le _,rfl,rfl,HB.out⟩
   case round=>
    obtain ⟨k,hk,rfl,hq,hb⟩:=hrel
    clear HQ HB l0 l1 l2 l3 l4 hszr
    have HQ:=Hd hq
    have HB:=Hd hb
    have hszr:=hb.size
    have hg0:=(hb.block w.heap.size (by omega)).trans G0.out
    have l0:=row_of hg0 0 _ rfl
    have l1:=row_of hg0 1 _ rfl
    have l2:=row_of hg0 2 _ rfl
    have l3:=row_of hg0 3 _ rfl
    have l4:=row_of hg0 4 _ rfl
    clear hq hb hg0
    by_cases hlt:k<p.funcs.length
    ·have hlt':(k:Int)<(p.funcs.length:Int):=by omega
     obtain ⟨f,hf⟩:∃ f,p.funcs[k]?=some f:=⟨_,lG hlt⟩
     have HF:=Hd hf
     have HC:=Hd (refReaches p _ _ _ _ k f wr ((H.out.keep HB0.out).keep HB.out) HD.out hf hl)
     obtain ⟨fb,fo,pv9,cv9,rfl,-,-,-,-,y3,y4,-⟩:=HR.out k f hf
     have Y3:=Hd y3
     have Y4:=Hd y4
     clear hf y3 y4
     cases hlb:loopB p.funcs f.name
     ·have HV2:Hid (firstF (fun _ (f:FuncD)=>needF (!loopB p.funcs f.name) f.line f.col 9) [] (p.funcs.take (k+1))=none):=firstF_go HF.out HQ.out (by rw [hlb];rfl)
      have HLB:=Hd hlb
      clear hlb
      go_upto_region 10 with fail
      go_wp2_with (go_at_call 96;refine HC.out.mono ?_;rintro e w1 ⟨b,O,rfl,hrow,hol,hO,hb1⟩;have HB1:=Hd (bcomp HB.out hb1);obtain ⟨bb,hbb⟩:∃ bb,O[k]?=some bb:=⟨_,lG (by rw [hol];exact hlt)⟩;obtain rfl:bb=false:=by { have h1:=hO k f HF.out;have h2:=loop_not HLB.out;cases bb;rfl;exact absurd (h1.1 hbb) h2 };have hcu:=row_of hrow k _ (boolsO_at hbb);clear hrow hol hO hbb hb1 l0 l1 l2 l3 l4)
      go_roundw
      case rel=>exact ⟨k+1,by omega,by go_num,HV2.out,HB1.out⟩
      case measure=>simp [intOf];omega
     ·have HV2:Hid (laterF p=some ⟨f.line,f.col,9⟩):=by
       unfold Hid
       rw [HV.out]
       exact firstF_hit HF.out HQ.out (by rw [hlb];rfl)
      have HLB:=Hd hlb
      clear hlb
      go_upto_region 11 with (go_at_call 96;refine HC.out.mono ?_;rintro e w1 ⟨b,O,rfl,hrow,hol,hO,hb1⟩;have HB1:=Hd (bcomp HB.out hb1);obtain ⟨bb,hbb⟩:∃ bb,O[k]?=some bb:=⟨_,lG (by rw [hol];exact hlt)⟩;obtain rfl:bb=true:=by { have h1:=hO k f HF.out;have h2:=(loop_iff _ _).1 HLB.out;have h3:=h1.2 h2;rw [hbb] at h3;exact Option.some.inj h3 };have hcu:=row_of hrow k _ (boolsO_at hbb);have m3:=cell_keep hb1 l3;clear hrow hol hO hbb hb1 l0 l1 l2 l3 l4)
      have gr:=(HB1.out.block (w.heap.size+1) hs0).trans G1.out
      have z0:=row_of gr 0 _ rfl
      have z1:=row_of gr 1 _ rfl
      have f0:=frozen_of_row w1 _ 0 _ _ gr
      have f1:=frozen_of_row w1 _ 1 _ _ gr
      have y3:=cell_keep HB1.out (cell_keep HB0.out Y3.out)
      have y4:=cell_keep HB1.out (cell_keep HB0.out Y4.out)
      have HGR:=Hd gr
      clear gr
      go_wp2_with fail
      refine bodyPost_ret (v:=refV (some ⟨f.line,f.col,9⟩)) (res_later _ _ (w.heap.size+1) f.line f.col 9 rfl rfl (pos_row HGR.out)) rfl ⟨by rw [HV2.out],?_⟩
      exact ((HB0.out.trans (HB1.out.mono HB0.out.size)).setCell (by simp) _).setCell (by simp) _
    ·obtain rfl:k=p.funcs.length:=by omega
     have HV2:Hid (laterF p=none):=by
      have:=HQ.out
      rw [List.take_length] at this
      unfold Hid
      rw [HV.out]
      exact this
     have gr:=(HB.out.block (w.heap.size+1) hs0).trans G1.out
     have z0:=row_of gr 0 _ rfl
     have z1:=row_of gr 1 _ rfl
     have f0:=frozen_of_row wr _ 0 _ _ gr
     have f1:=frozen_of_row wr _ 1 _ _ gr
     have HGR:=Hd gr
     clear gr
     go_wp2_with fail
     refine bodyPost_ret (v:=refV none) (res_later _ _ (w.heap.size+1) 0 0 0 rfl rfl (pos_row HGR.out)) rfl ⟨by rw [HV2.out],?_⟩
     exact ((HB0.out.trans (HB.out.mono HB0.out.size)).setCell (by simp) _).setCell (by simp) _
theorem namesF_some {l:List ByteArray} (x y:Int) (h:namesE l ≠ 0):namesF l x y=some ⟨x,y,namesE l⟩:=by
 have h1:=namesF_err l x y
 unfold namesF at h1 ⊢
 split
 ·rename_i h2
  unfold namesE
  rw [if_pos h2]
 ·rename_i h2
  rw [if_neg h2] at h1
  cases hd:declsF l 0 0 with
  | none=>rw [hd] at h1;exact absurd h1.symm h
  | some F=>rw [hd] at h1;rw [<- h1];rfl
theorem decls_ev (l:List ByteArray):Ev (fun F=>3<=F.e/\F.e<=9) (declsF l 0 0):=declsF_ev (P:=fun F=>3<=F.e/\F.e<=9) l 0 0 (fun e h1 h2=>⟨h1,h2⟩)
theorem namesF_zero {l:List ByteArray} (x y:Int) (h:namesE l=0):namesF l x y=none:=by
 have h1:=namesF_err l x y
 rw [h] at h1
 cases hn:namesF l x y with
 | none=>rfl
 | some F=>
  rw [hn] at h1
  unfold namesF at hn
  split at hn
  ·cases hn;cases h1
  ·obtain ⟨G,hG,rfl⟩:=Option.map_eq_some_iff.1 hn
   have:=decls_ev l G hG
   change G.e=0 at h1
   omega
theorem distinct_of {fs:List FuncD} (h:declsF (fNames fs) 0 0=none):Distinct fs:=by
 have key:∀ (i j:Nat) (f g:FuncD),fs[i]?=some f->fs[j]?=some g->i<j->f.name ≠ g.name:=by
  intro i j f g hi hj hij e
  have hj':(fNames fs)[j]?=some g.name:=by unfold fNames;rw [List.getElem?_map,hj];rfl
  have hjl:=(lE hj').1
  have es:fNames fs=(fNames fs).take j ++ g.name :: (fNames fs).drop (j+1):=by
   rw [<- (lE hj').2,List.getElem_cons_drop,List.take_append_drop]
  unfold declsF at h
  have h1:=(firstF_none _ _ _).1 h _ _ _ es
  unfold declF at h1
  have h2:=need_none (Option.or_eq_none_iff.1 h1).2
  simp only [List.nil_append,Bool.not_eq_true'] at h2
  refine inL_not.1 h2 ?_
  rw [<- e]
  refine List.mem_iff_getElem?.2 ⟨i,?_⟩
  rw [List.getElem?_take,if_pos hij]
  unfold fNames;rw [List.getElem?_map,hi];rfl
 intro i j f g hi hj e
 rcases Nat.lt_trichotomy i j with h1|h1|h1
 ·exact absurd e (key i j f g hi hj h1)
 ·exact h1
 ·exact absurd e.symm (key j i g f hj hi h1)
theorem refFuncs_distinct {p:ProgD} (hl:p.funcs.length<=32) (h:firstF (refFunF p) [] p.funcs=none):Distinct p.funcs:=by
 rw [refFuncs hl] at h
 have:=funcs_names p.funcs [] rfl h
 rw [List.nil_append] at this
 exact distinct_of this
theorem codeR_ev (p:ProgD) (i:Nat):Ev (fun F=>3<=F.e/\F.e<=9) (codeR p i):=by
 unfold codeR
 refine Ev.first _ _ fun d x _=>?_
 unfold bodyR
 intro F hF
 repeat' split at hF
 all_goals first|(cases hF;simp;done)|cases hF
theorem ref_is (p:ProgD):checkF p =
  (needF (decide (1<=p.width) && decide (p.width<=64)) 0 0 3).or ((namesF p.chans 0 0).or ((needF (decide (p.arrays.length<=32)) 0 0 5).or ((firstF refArrF [] p.arrays).or ((needF (decide (p.funcs.length<=32)) 0 0 5).or ((firstF (refFunF p) [] p.funcs).or ((needF (decide (p.main.length<=1024)) 0 0 5).or ((codeR p p.funcs.length).or (laterF p)))))))):=by
 rw [<- refA_is p (laterF p) (laterF_is p)]
 unfold refAP
 simp only [Option.or_assoc]
theorem res_check (tmps:Array Value) (W:World) (g:Nat) (l c e:Int) (h2:tmps.getD 2 undef=.pointer (some ⟨g,0,none⟩)) (h3:tmps.getD 3 undef=.int .i64 e) (hg:W.heap[g]?=some (.cells #[.int .i64 l,.int .i64 c] 35 (0,0))) :
  (results Tryz.f30 tmps).run Tryz.prog W=.ok (.tuple #[.agg #[.int .i64 l,.int .i64 c],.int .i64 e]) W:=by
 have r0:=row_of hg 0 _ rfl
 have r1:=row_of hg 1 _ rfl
 rw [Array.getD_eq_getD_getElem?] at h2 h3
 have r0:W.cell? ⟨g,0,none⟩=some (.int .i64 l):=r0
 have r1:W.cell? ⟨g,1,none⟩=some (.int .i64 c):=r1
 simp [results,Tryz.results30,go_sem,h2,h3,r0,r1]
theorem rd_len {lo:Option (Nat->Prop)} {w:World} {v:Value} {l:List ByteArray} {n:Nat} (h:RdStrs lo w v l) (hl:l.length=n):∃ a c,v=.slice a n c/\n<=c:=by
 obtain ⟨a,c,rfl,h1,_⟩:=h
 exact ⟨a,c,by rw [hl],by omega⟩
theorem rd_cut {lo:Option (Nat->Prop)} {w:World} {a:Option Addr} {c m n:Nat} {l:List ByteArray} (h:RdStrs lo w (.slice a m c) l) (hl:l.length=m) (hn:n<=m):RdStrs lo w (.slice a n c) (l.take n):=by
 subst hl
 exact h.cut hn
theorem refV_mk (F:Option FaultD):refV F=.tuple #[.agg #[.int .i64 (posL F),.int .i64 (posC F)],.int .i64 (errOf F)]:=rfl
theorem refCheck (p:ProgD) (cv av fv mv:Value) (w:World) (h:RdProg none w p cv av fv mv) (hN:(codesOf p.funcs).length+p.main.length<=1759218604440) :
  Calls Tryz.prog 30 #[progV p cv av fv mv] w fun e w'=>e=.returned (refV (checkF p))/\Below w.heap.size w w':=by
 obtain ⟨hrc,hra,hrf,hrm,hrw⟩:=id h
 obtain ⟨ac,kc,rfl,-,-⟩:=id hrc
 obtain ⟨aa,ka,rfl,-,hras⟩:=id hra
 obtain ⟨af,kf,rfl,-,hrfs⟩:=id hrf
 obtain ⟨am,km,rfl,-,-⟩:=id hrm
 obtain ⟨i0,hj,hz0,hz1,hz2⟩:=info_parts infoStr
 have H:=Hd h
 have HN:=Hd hN
 have HAS:=Hd hras
 have HFS:=Hd hrfs
 have HFNS:Hid (∀ k,∀ s ∈ fNames (p.funcs.take k),s.size<=maxLen):=by
  intro k s hs
  unfold fNames at hs
  obtain ⟨g,hg,rfl⟩:=List.mem_map.1 hs
  obtain ⟨i,hi⟩:=List.mem_iff_getElem?.1 (List.mem_of_mem_take hg)
  obtain ⟨_,_,_,_,_,_,_,_,_,_,_,hfun⟩:=hrfs i g hi
  exact hfun.2.2.2.2
 have hchk:=ref_is p
 have HK0:=Hd hchk
 clear h hrc hra hrf hrm hrw hras hrfs hN hchk
 go_enter Tryz.func30,Tryz.ntmps30
 go_upto_region 1 with fail
 have hb0:=((bR w.heap.size w).alloc (nR _) (.cells #[.int .i64 p.width,.slice ac p.chans.length kc,.slice aa p.arrays.length ka,.slice af p.funcs.length kf,.slice am p.main.length km] 27)).alloc (by simp) (.cells #[.int .i64 0,.int .i64 0] 35)
 have g0:=heap_alloc2_old w (.cells #[.int .i64 p.width,.slice ac p.chans.length kc,.slice aa p.arrays.length ka,.slice af p.funcs.length kf,.slice am p.main.length km] 27) (.cells #[.int .i64 0,.int .i64 0] 35)
 have g1:=heap_alloc2_new w (.cells #[.int .i64 p.width,.slice ac p.chans.length kc,.slice aa p.arrays.length ka,.slice af p.funcs.length kf,.slice am p.main.length km] 27) (.cells #[.int .i64 0,.int .i64 0] 35)
 generalize ((w.alloc (.cells #[.int .i64 p.width,.slice ac p.chans.length kc,.slice aa p.arrays.length ka,.slice af p.funcs.length kf,.slice am p.main.length km] 27)).alloc (.cells #[.int .i64 0,.int .i64 0] 35))=W0 at *
 have hs0:w.heap.size+1<W0.heap.size:=(aE g1).1
 have G0:=Hd g0
 have G1:=Hd g1
 have HB0:=Hd hb0
 have hP0:=Hd (H.out.keep HB0.out)
  -- a return with an error, at any world that is W0 and new memory
 have HRA:Hid (∀ (wr:World) (tmps:Array Value) (l c e:Int),Below W0.heap.size W0 wr->checkF p=some ⟨l,c,e⟩->tmps.getD 2 undef=.pointer (some ⟨w.heap.size+1,0,none⟩)->tmps.getD 3 undef=.int .i64 e ->
   (results Tryz.f30 tmps).run Tryz.prog ((wr.setCell ⟨w.heap.size+1,0,none⟩ (.int .i64 l)).setCell ⟨w.heap.size+1,1,none⟩ (.int .i64 c))=.ok (refV (checkF p)) ((wr.setCell ⟨w.heap.size+1,0,none⟩ (.int .i64 l)).setCell ⟨w.heap.size+1,1,none⟩ (.int .i64 c))):=by
  intro wr tmps l c e hbr hck h2 h3
  have gr:=(hbr.block (w.heap.size+1) hs0).trans G1.out
  rw [hck]
  exact res_check _ _ _ l c e h2 h3 (pos_row gr)
 have HRB:Hid (∀ (wr:World) (l c:Value),Below W0.heap.size W0 wr->Below w.heap.size w ((wr.setCell ⟨w.heap.size+1,0,none⟩ l).setCell ⟨w.heap.size+1,1,none⟩ c)):=
  fun wr l c hbr=>((HB0.out.trans (hbr.mono HB0.out.size)).setCell (by simp) _).setCell (by simp) _
 have HCE:Hid (∀ wr,Below W0.heap.size W0 wr->(wr.cell? ⟨w.heap.size,0,none⟩=some (.int .i64 p.width)/\wr.cell? ⟨w.heap.size,1,none⟩=some (.slice ac p.chans.length kc)/\wr.cell? ⟨w.heap.size,2,none⟩=some (.slice aa p.arrays.length ka)/\wr.cell? ⟨w.heap.size,3,none⟩=some (.slice af p.funcs.length kf)/\wr.cell? ⟨w.heap.size,4,none⟩=some (.slice am p.main.length km))/\wr.cell? ⟨w.heap.size+1,0,none⟩=some (.int .i64 0)/\wr.cell? ⟨w.heap.size+1,1,none⟩=some (.int .i64 0)/\wr.frozen? ⟨w.heap.size+1,0,none⟩=false/\wr.frozen? ⟨w.heap.size+1,1,none⟩=false):=by
  intro wr hbr
  have h0:=(hbr.block w.heap.size (by omega)).trans G0.out
  have h1:=(hbr.block (w.heap.size+1) hs0).trans G1.out
  exact ⟨⟨row_of h0 0 _ rfl,row_of h0 1 _ rfl,row_of h0 2 _ rfl,row_of h0 3 _ rfl,row_of h0 4 _ rfl⟩,row_of h1 0 _ rfl,row_of h1 1 _ rfl,frozen_of_row wr _ 0 _ _ h1,frozen_of_row wr _ 1 _ _ h1⟩
 have l0:=row_of g0 0 _ rfl
 have l1:=row_of g0 1 _ rfl
 have l2:=row_of g0 2 _ rfl
 have l3:=row_of g0 3 _ rfl
 have l4:=row_of g0 4 _ rfl
 have z0:=row_of g1 0 _ rfl
 have z1:=row_of g1 1 _ rfl
 have f0:=frozen_of_row W0 _ 0 _ _ g1
 have f1:=frozen_of_row W0 _ 1 _ _ g1
 clear g0 g1 hb0
 by_cases hw:1<=p.width/\p.width<=64
 rotate_left
 ·have HV:Hid (checkF p=some ⟨0,0,3⟩):=by
   unfold Hid
   rw [HK0.out]
   have:(decide (1<=p.width) && decide (p.width<=64))=false:=by
    rw [Bool.and_eq_false_iff,decide_eq_false_iff_not,decide_eq_false_iff_not]
    by_cases h1:1<=p.width
    ·exact .inr fun h2=>hw ⟨h1,h2⟩
    ·exact .inl h1
   rw [this];rfl
  by_cases h1:p.width<1
  ·clear hw
   go_wp2_with fail
   exact bodyPost_ret (HRA.out _ _ _ _ _ (bR _ _) HV.out (by rfl) (by rfl)) rfl ⟨rfl,HRB.out _ _ _ (bR _ _)⟩
  ·have h2:64<p.width:=by omega
   clear hw
   go_wp2_with fail
   exact bodyPost_ret (HRA.out _ _ _ _ _ (bR _ _) HV.out (by rfl) (by rfl)) rfl ⟨rfl,HRB.out _ _ _ (bR _ _)⟩
 have hw1:¬ p.width<1:=by omega
 have hw2:¬ 64<p.width:=by omega
 have hk1:=HK0.out
 rw [show (decide (1<=p.width) && decide (p.width<=64))=true by simp [hw.1,hw.2],show needF true 0 0 3=none from rfl,Option.none_or] at hk1
 have HK1:=Hd hk1;clear hk1
 clear hw HK0
 have HC1:=Hd (refDecls _ p.chans W0 hP0.out.1)
 by_cases hn1:namesE p.chans=0
 rotate_left
 ·have HV:Hid (checkF p=some ⟨0,0,namesE p.chans⟩):=by
   unfold Hid;rw [HK1.out,namesF_some 0 0 hn1];rfl
  have hne:(namesE p.chans != 0)=true:=by simpa using hn1
  clear hn1
  go_wp2_with (go_at_call 59;refine HC1.out.mono ?_;rintro e w1 ⟨rfl,hb1⟩;have HB1:=Hd hb1;have k0:=cell_keep hb1 z0;have k1:=cell_keep hb1 z1;have kf0:=free_keep hb1 z0 f0;have kf1:=free_keep hb1 z1 f1;clear hb1)
  exact bodyPost_ret (HRA.out _ _ _ _ _ HB1.out HV.out (by rfl) (by rfl)) rfl ⟨rfl,HRB.out _ _ _ HB1.out⟩
 have hk2:=HK1.out
 rw [namesF_zero 0 0 hn1,Option.none_or] at hk2
 have HK2:=Hd hk2;clear hk2
 rw [hn1] at HC1
 clear hn1 HK1
 go_upto_region 6 with (go_at_call 59;refine HC1.out.mono ?_;rintro e w1 ⟨rfl,hb1⟩;have HB1:=Hd hb1;clear hb1)
 obtain ⟨⟨l0,l1,l2,l3,l4⟩,z0,z1,f0,f1⟩:=HCE.out w1 HB1.out
 by_cases ha:p.arrays.length<=32
 rotate_left
 ·have HV:Hid (checkF p=some ⟨0,0,5⟩):=by
   unfold Hid;rw [HK2.out,decide_eq_false ha];rfl
  have ha':(32:Int)<(p.arrays.length:Int):=by omega
  clear ha
  go_wp2_with fail
  exact bodyPost_ret (HRA.out _ _ _ _ _ HB1.out HV.out (by rfl) (by rfl)) rfl ⟨rfl,HRB.out _ _ _ HB1.out⟩
 have hk3:=HK2.out
 rw [decide_eq_true ha,show needF true 0 0 5=none from rfl,Option.none_or] at hk3
 have HK3:=Hd hk3;clear hk3
 have ha':¬ (32:Int)<(p.arrays.length:Int):=by omega
 clear HK2 HC1 hP0
 go_wp2_with fail
 go_loopw [5,6] (fun ii _ wr=>∃ k:Nat,k<=p.arrays.length/\ii=.int .i64 k/\firstF refArrF [] (p.arrays.take k)=none/\Below W0.heap.size W0 wr) (fun ii _ _=>p.arrays.length - (intOf ii).toNat)
 case atStart=>exact ⟨0,Nat.zero_le _,rfl,rfl,HB1.out⟩
 case round=>
  obtain ⟨wo,rfl⟩:∃ x:World,x=wr:=⟨_,rfl⟩
  obtain ⟨k,hk,rfl,hq,hb⟩:=hrel
  clear l0 l1 l2 l3 l4 z0 z1 f0 f1 HB1
  have HQ:=Hd hq
  have HB:=Hd hb
  obtain ⟨⟨l0,l1,l2,l3,l4⟩,z0,z1,f0,f1⟩:=HCE.out wo hb
  have hszo:=hb.size
  clear hq hb
  by_cases hlt:k<p.arrays.length
  ·have hlt':(k:Int)<(p.arrays.length:Int):=by omega
   obtain ⟨x,hx⟩:∃ x,p.arrays[k]?=some x:=⟨_,lG hlt⟩
   have HX:=Hd hx
   have HPO:=Hd ((H.out.keep HB0.out).keep HB.out)
   have HAN:=Hd (refArrayNames p (.slice ac p.chans.length kc) (.slice aa p.arrays.length ka) (.slice af p.funcs.length kf) (.slice am p.main.length km) wo HPO.out.2.1)
   have HST:Hid (aNames (p.arrays.take k ++ [x])=(aNames p.arrays).take (k+1)):=by
    unfold Hid aNames;rw [<- List.map_take,List.take_add_one,hx];rfl
   have hnl:(aNames p.arrays).length=p.arrays.length:=by simp [aNames]
   have HNL:=Hd hnl
   obtain ⟨ab,ao,rfl,-,q0,q1,-⟩:=HAS.out k x hx
   have Q1:=Hd (cell_keep HB0.out q1)
   clear hx q0 q1 hnl
   go_upto_region 12 with (first
    | (go_at_call 60;refine HAN.out.mono ?_;rintro e w2 ⟨nv,rfl,hnr,hb2⟩;obtain ⟨na,nc,rfl,hnlc⟩:=rd_len hnr HNL.out;have HB2:=Hd (bcomp HB.out hb2);have HNR:=Hd hnr;clear hb2 hnr)
    | (go_at_call 59;refine (refDecls _ ((aNames p.arrays).take (k+1)) w2 (rd_cut HNR.out.forget HNL.out (by omega))).mono ?_;rintro e w3 ⟨rfl,hb3⟩;have HB3:=Hd (bcomp HB2.out hb3);clear hb3))
   obtain ⟨⟨l0,l1,l2,l3,l4⟩,z0,z1,f0,f1⟩:=HCE.out w3 HB3.out
   clear HAN HB2 HNR
   by_cases hE:namesE ((aNames p.arrays).take (k+1))=0
   rotate_left
   ·have HV:Hid (checkF p=some ⟨0,0,namesE ((aNames p.arrays).take (k+1))⟩):=by
     unfold Hid
     have hr:refArrF (p.arrays.take k) x=some ⟨0,0,namesE ((aNames p.arrays).take (k+1))⟩:=by
      unfold refArrF
      rw [HST.out,namesF_some 0 0 hE];rfl
     rw [HK3.out,firstF_hit HX.out HQ.out hr];rfl
    have hne:(namesE ((aNames p.arrays).take (k+1)) != 0)=true:=by simpa using hE
    generalize namesE ((aNames p.arrays).take (k+1))=E at *
    clear hE
    go_wp2_with fail
    exact bodyPost_ret (HRA.out _ _ _ _ _ HB3.out HV.out (by rfl) (by rfl)) rfl ⟨rfl,HRB.out _ _ _ HB3.out⟩
   have q1:=cell_keep HB3.out Q1.out
   have HE:=Hd hE
   rw [hE]
   clear hE
   by_cases hsz:1<=x.size/\x.size<=64
   ·have HV:Hid (firstF refArrF [] (p.arrays.take (k+1))=none):=by
     refine firstF_go HX.out HQ.out ?_
     unfold refArrF
     rw [HST.out,namesF_zero 0 0 HE.out,decide_eq_true hsz.1,decide_eq_true hsz.2];rfl
    have hs1:¬ x.size<1:=by omega
    have hs2:¬ 64<x.size:=by omega
    clear hsz
    go_wp2_with fail
    go_roundw
    case rel=>exact ⟨k+1,by omega,by go_num,HV.out,HB3.out⟩
    case measure=>simp [intOf];omega
   ·have HV:Hid (checkF p=some ⟨0,0,3⟩):=by
     unfold Hid
     have hr:refArrF (p.arrays.take k) x=some ⟨0,0,3⟩:=by
      unfold refArrF
      have:(decide (1<=x.size) && decide (x.size<=64))=false:=by
       rw [Bool.and_eq_false_iff,decide_eq_false_iff_not,decide_eq_false_iff_not]
       by_cases h1:1<=x.size
       ·exact .inr fun h2=>hsz ⟨h1,h2⟩
       ·exact .inl h1
      rw [HST.out,namesF_zero 0 0 HE.out,this];rfl
     rw [HK3.out,firstF_hit HX.out HQ.out hr];rfl
    by_cases h1:x.size<1
    ·clear hsz
     go_wp2_with fail
     exact bodyPost_ret (HRA.out _ _ _ _ _ HB3.out HV.out (by rfl) (by rfl)) rfl ⟨rfl,HRB.out _ _ _ HB3.out⟩
    ·have h2:64<x.size:=by omega
     clear hsz
     go_wp2_with fail
     exact bodyPost_ret (HRA.out _ _ _ _ _ HB3.out HV.out (by rfl) (by rfl)) rfl ⟨rfl,HRB.out _ _ _ HB3.out⟩
  ·obtain rfl:k=p.arrays.length:=by omega
   have hlt':¬ ((p.arrays.length:Int)<(p.arrays.length:Int)):=by omega
   have hk4:=HK3.out
   have hq0:firstF refArrF [] p.arrays=none:=by have:=HQ.out;rwa [List.take_length] at this
   rw [hq0,Option.none_or] at hk4
   have HK4:=Hd hk4;clear hk4
   clear HQ HK3 hq0 hk hlt
   by_cases hf:p.funcs.length<=32
   rotate_left
   ·have HV:Hid (checkF p=some ⟨0,0,5⟩):=by
     unfold Hid;rw [HK4.out,decide_eq_false hf];rfl
    have hf':(32:Int)<(p.funcs.length:Int):=by omega
    clear hf
    go_wp2_with fail
    exact bodyPost_ret (HRA.out _ _ _ _ _ HB.out HV.out (by rfl) (by rfl)) rfl ⟨rfl,HRB.out _ _ _ HB.out⟩
   have hk5:=HK4.out
   rw [decide_eq_true hf,show needF true 0 0 5=none from rfl,Option.none_or] at hk5
   have HK5:=Hd hk5;clear hk5
   have HF32:=Hd hf
   have hf':¬ (32:Int)<(p.funcs.length:Int):=by omega
   clear HK4 hf
   go_wp2_with fail
   go_loopw [7,8,9,10,11,12,13] (fun nm ii _ _ _ _ _ wr=>∃ k:Nat,k<=p.funcs.length/\ii=.int .i64 k/\firstF (refFunF p) [] (p.funcs.take k)=none/\wr.ownsRow W0.heap.size 9 1 nm k ((fNames (p.funcs.take k)).flatMap strCells)/\Below W0.heap.size W0 wr) (fun _ ii _ _ _ _ _ _=>p.funcs.length - (intOf ii).toNat)
   case atStart=>exact ⟨0,Nat.zero_le _,rfl,rfl,World.ownsRow_nil _ _ _ _,HB.out⟩
   case round=>
    obtain ⟨wi,rfl⟩:∃ x:World,x=wr:=⟨_,rfl⟩
    obtain ⟨k,hk,rfl,hq,hown,hb⟩:=hrel
    clear l0 l1 l2 l3 l4 z0 z1 f0 f1 HB
    have HQ:=Hd hq
    have HB:=Hd hb
    have HOW:=Hd hown
    obtain ⟨⟨l0,l1,l2,l3,l4⟩,z0,z1,f0,f1⟩:=HCE.out wi hb
    have hszi:=hb.size
    clear hq hb hown
    by_cases hlt:k<p.funcs.length
    ·have hlt2:(k:Int)<(p.funcs.length:Int):=by omega
     obtain ⟨x,hx⟩:∃ x,p.funcs[k]?=some x:=⟨_,lG hlt⟩
     have HX:=Hd hx
     have HSF:Hid (fNames (p.funcs.take k ++ [x])=fNames (p.funcs.take (k+1))):=by
      unfold Hid;rw [List.take_add_one,hx];rfl
     have HFL:Hid ((fNames (p.funcs.take (k+1))).flatMap strCells=(fNames (p.funcs.take k)).flatMap strCells ++ strCells x.name):=by
      unfold Hid;rw [List.take_add_one,hx];simp [fNames]
     have HLN:Hid ((fNames (p.funcs.take (k+1))).length=k+1):=by
      unfold Hid;simp [fNames];omega
     have HLK:Hid ((p.funcs.take k).length=k):=by unfold Hid;rw [List.length_take];omega
     obtain ⟨fb,fo,pv9,cv9,rfl,-,y0,y1,y2,y3,y4,hfun⟩:=HFS.out k x hx
     obtain ⟨pa,pk,rfl,-,-⟩:=id hfun.1
     obtain ⟨ca,ck,rfl,-,-⟩:=id hfun.2.1
     have HFN:=Hd (hfun.1.keep HB0.out)
     have hnm:=hfun.2.2.2.2
     have x0:=cell_keep HB.out (cell_keep HB0.out y0)
     have x1:=cell_keep HB.out (cell_keep HB0.out y1)
     have x2:=cell_keep HB.out (cell_keep HB0.out y2)
     have x3:=cell_keep HB.out (cell_keep HB0.out y3)
     have x4:=cell_keep HB.out (cell_keep HB0.out y4)
     clear hx y0 y1 y2 y3 y4 hfun
     go_upto_region 23 with fail
     have gx:=heap_alloc_new wi (.cells #[.string x.name,.slice pa x.params.length pk,.slice ca x.code.length ck,.int .i64 x.line,.int .i64 x.col] 52)
     have hal:Below wi.heap.size wi (wi.alloc (.cells #[.string x.name,.slice pa x.params.length pk,.slice ca x.code.length ck,.int .i64 x.line,.int .i64 x.col] 52)):=(bR _ _).alloc (nR _) _
     generalize wi.alloc (.cells #[.string x.name,.slice pa x.params.length pk,.slice ca x.code.length ck,.int .i64 x.line,.int .i64 x.col] 52)=w1 at *
     have hs1:wi.heap.size<w1.heap.size:=(aE gx).1
     have hown:=own_below HOW.out hal
     have HB1:=Hd (bcomp HB.out hal)
     generalize wi.heap.size=cb at *
     have GX:=Hd gx
     have x0:=row_of gx 0 _ rfl
     clear gx hal x1 x2 x3 x4 HOW l0 l1 l2 l3 l4 z0 z1 f0 f1
     go_upto_region 24 with (at_builtin;refine wpList_append_own _ rfl (.tmp 88) (.tmp 91) 22 rfl W0.heap.size 9 i0 (.string ⟨#[]⟩) 1 16 Tryz.underlying22 hj hz0 hz1 hz2 rfl (by decide) _ _ _ rfl (hown.alloc _) ⟨w1.heap.size,0,none⟩ 1 1 (strCells x.name) rfl rfl (many_new _ _ _) ?c2 ?c3 ?c4 ?c5 ?_)
     case c2=>intro u hu;simp [strCells] at hu;subst hu;rfl
     case c3=>unfold maxLen;omega
     case c4=>omega
     case c5=>simp;omega
     intro v' w2 hown' hgrow _
     rw [<- HFL.out] at hown'
     obtain ⟨na,nc,rfl,-⟩:=own_read hown'
     have hb2:=(HB1.out.alloc HB1.out.size (.cells (strCells x.name).toArray 9)).grown hgrow (by simp;omega) (own_row_le hown)
     have hal:Below w1.heap.size w1 (w1.alloc (.cells (strCells x.name).toArray 9)):=(bR _ _).alloc (nR _) _
     have gx:=(hgrow.block cb (by simp;omega) (fun e=>own_ne_cells hown GX.out (by decide) e.symm)).trans ((hal.block cb hs1).trans GX.out)
     have HB2:=Hd hb2
     have HOW:=Hd hown'
     have HNM:Hid (RdStrs none w2 (.slice na (k+1) nc) (fNames (p.funcs.take (k+1)))):=by
      refine (own_strs (base:=W0.heap.size) ?_ ?_ (HFNS.out _)).forget
      ·rw [HLN.out];exact hown'
      ·rw [HLN.out];omega
     have hs2:cb<w2.heap.size:=(aE gx).1
     have GX:=Hd gx
     clear hown hown' hgrow hal hb2 gx x0
     go_upto_region 25 with (go_at_call 59;refine (refDecls _ (fNames (p.funcs.take (k+1))) w2 HNM.out).mono ?_;rintro e w3 ⟨rfl,hb3⟩)
     have hown:=own_below HOW.out hb3
     have GX:=Hd ((hb3.block cb hs2).trans GX.out)
     have hs3:=Nat.lt_of_lt_of_le hs2 hb3.size
     have HB3:=Hd (bcomp HB2.out hb3)
     have HOW:=Hd hown
     have HFN3:=Hd (HFN.out.keep HB3.out)
     obtain ⟨⟨l0,l1,l2,l3,l4⟩,z0,z1,f0,f1⟩:=HCE.out w3 HB3.out
     have x1:=row_of GX.out 1 _ rfl
     have x2:=row_of GX.out 2 _ rfl
     have x3:=row_of GX.out 3 _ rfl
     have x4:=row_of GX.out 4 _ rfl
     clear hb3 HB2 HNM hown hs2 HB1 HFN
     by_cases hE:namesE (fNames (p.funcs.take (k+1)))=0
     rotate_left
     ·have HV:Hid (checkF p=some ⟨x.line,x.col,namesE (fNames (p.funcs.take (k+1)))⟩):=by
       unfold Hid
       have hr:refFunF p (p.funcs.take k) x=some ⟨x.line,x.col,namesE (fNames (p.funcs.take (k+1)))⟩:=by
        unfold refFunF
        rw [HSF.out,namesF_some x.line x.col hE];rfl
       rw [HK5.out,firstF_hit HX.out HQ.out hr];rfl
      have hne:(namesE (fNames (p.funcs.take (k+1))) != 0)=true:=by simpa using hE
      generalize namesE (fNames (p.funcs.take (k+1)))=E at *
      clear hE
      go_wp2_with fail
      exact bodyPost_ret (HRA.out _ _ _ _ _ HB3.out HV.out (by rfl) (by rfl)) rfl ⟨rfl,HRB.out _ _ _ HB3.out⟩
     have HE:=Hd hE
     rw [hE]
     clear hE
     have HP3:=Hd ((H.out.keep HB0.out).keep HB3.out)
     by_cases hE:namesE x.params=0
     rotate_left
     ·have HV:Hid (checkF p=some ⟨x.line,x.col,namesE x.params⟩):=by
       unfold Hid
       have hr:refFunF p (p.funcs.take k) x=some ⟨x.line,x.col,namesE x.params⟩:=by
        unfold refFunF
        rw [HSF.out,namesF_zero x.line x.col HE.out,namesF_some x.line x.col hE];rfl
       rw [HK5.out,firstF_hit HX.out HQ.out hr];rfl
      have hne:(namesE x.params != 0)=true:=by simpa using hE
      clear hE
      go_upto_region 28 with (go_at_call 59;refine (refDecls _ x.params w3 HFN3.out).mono ?_;rintro e w4 ⟨rfl,hb4⟩)
      have HB4:=Hd (bcomp HB3.out hb4)
      obtain ⟨⟨l0,l1,l2,l3,l4⟩,z0,z1,f0,f1⟩:=HCE.out w4 HB4.out
      have x3:=cell_keep hb4 x3
      have x4:=cell_keep hb4 x4
      clear hb4
      generalize namesE x.params=E at *
      go_wp2_with fail
      exact bodyPost_ret (HRA.out _ _ _ _ _ HB4.out HV.out (by rfl) (by rfl)) rfl ⟨rfl,HRB.out _ _ _ HB4.out⟩
     have HC2:=Hd (refDecls _ x.params w3 HFN3.out)
     rw [hE] at HC2
     have HE2:=Hd hE
     clear hE
     go_upto_region 30 with (go_at_call 59;refine HC2.out.mono ?_;rintro e w4 ⟨rfl,hb4⟩)
     have HB4:=Hd (bcomp HB3.out hb4)
     have HOW:=Hd (own_below HOW.out hb4)
     have GX:=Hd ((hb4.block cb hs3).trans GX.out)
     clear HC2 hb4 HFN3 HB3 HP3 l0 l1 l2 l3 l4 z0 z1 f0 f1 x1 x2 x3 x4
     obtain ⟨⟨l0,l1,l2,l3,l4⟩,z0,z1,f0,f1⟩:=HCE.out w4 HB4.out
     have x2:=row_of GX.out 2 _ rfl
     have x3:=row_of GX.out 3 _ rfl
     have x4:=row_of GX.out 4 _ rfl
     by_cases hcl:x.code.length<=1024
     rotate_left
     ·have HV:Hid (checkF p=some ⟨x.line,x.col,5⟩):=by
       unfold Hid
       have hr:refFunF p (p.funcs.take k) x=some ⟨x.line,x.col,5⟩:=by
        unfold refFunF
        rw [HSF.out,namesF_zero x.line x.col HE.out,namesF_zero x.line x.col HE2.out,decide_eq_false hcl];rfl
       rw [HK5.out,firstF_hit HX.out HQ.out hr];rfl
      have hcl2:(1024:Int)<(x.code.length:Int):=by omega
      clear hcl
      go_wp2_with fail
      exact bodyPost_ret (HRA.out _ _ _ _ _ HB4.out HV.out (by rfl) (by rfl)) rfl ⟨rfl,HRB.out _ _ _ HB4.out⟩
     have hcl2:¬ (1024:Int)<(x.code.length:Int):=by omega
     have HCL:=Hd hcl
     clear hcl
     have hC:=refBodyR p _ _ _ _ k w4 ((H.out.keep HB0.out).keep HB4.out) HN.out (Nat.le_of_lt hlt)
     cases hF:codeR p k with
     | none=>
      have HV:Hid (firstF (refFunF p) [] (p.funcs.take (k+1))=none):=by
       refine firstF_go HX.out HQ.out ?_
       unfold refFunF
       rw [HSF.out,namesF_zero x.line x.col HE.out,namesF_zero x.line x.col HE2.out,decide_eq_true HCL.out,HLK.out,hF];rfl
      rw [hF,refV_none] at hC
      have HC:=Hd hC
      clear hC hF
      go_wp2_with (go_at_call 61;refine HC.out.mono ?_;rintro e w5 ⟨rfl,hb5⟩)
      have hb6:=bcomp hb5 ((bR w5.heap.size w5).alloc (nR _) (.cells #[.int .i64 0,.int .i64 0] 35))
      have HB6:=Hd (bcomp HB4.out hb6)
      have HOW:=Hd (own_below HOW.out hb6)
      clear hb5 hb6
      go_roundw
      case rel=>exact ⟨k+1,by omega,by go_num,HV.out,HOW.out,HB6.out⟩
      case measure=>simp [intOf];omega
     | some F=>
      have HV:Hid (checkF p=some F):=by
       unfold Hid
       have hr:refFunF p (p.funcs.take k) x=some F:=by
        unfold refFunF
        rw [HSF.out,namesF_zero x.line x.col HE.out,namesF_zero x.line x.col HE2.out,decide_eq_true HCL.out,HLK.out,hF];rfl
       rw [HK5.out,firstF_hit HX.out HQ.out hr];rfl
      obtain ⟨he1,he2⟩:=codeR_ev p k F hF
      have hne:(F.e != 0)=true:=by simp;omega
      rw [hF,refV_some] at hC
      have HC:=Hd hC
      clear hC hF
      go_upto_region 33 with (go_at_call 61;refine HC.out.mono ?_;rintro e w5 ⟨rfl,hb5⟩)
      have gy:=heap_alloc_new w5 (.cells #[.int .i64 F.line,.int .i64 F.col] 35)
      have HB6:=Hd (bcomp HB4.out (bcomp hb5 ((bR w5.heap.size w5).alloc (nR _) (.cells #[.int .i64 F.line,.int .i64 F.col] 35))))
      generalize w5.alloc (.cells #[.int .i64 F.line,.int .i64 F.col] 35)=w6 at *
      have u0:=row_of gy 0 _ rfl
      have u1:=row_of gy 1 _ rfl
      clear gy hb5 l0 l1 l2 l3 l4 z0 z1 f0 f1 x2 x3 x4
      obtain ⟨⟨l0,l1,l2,l3,l4⟩,z0,z1,f0,f1⟩:=HCE.out w6 HB6.out
      go_wp2_with fail
      exact bodyPost_ret (HRA.out _ _ _ _ _ HB6.out HV.out (by rfl) (by rfl)) rfl ⟨rfl,HRB.out _ _ _ HB6.out⟩
    ·obtain rfl:k=p.funcs.length:=by omega
     have hlt2:¬ ((p.funcs.length:Int)<(p.funcs.length:Int)):=by omega
     have hk6:=HK5.out
     have hq0:firstF (refFunF p) [] p.funcs=none:=by have:=HQ.out;rwa [List.take_length] at this
     have HDI:=Hd (refFuncs_distinct HF32.out hq0)
     rw [hq0,Option.none_or] at hk6
     have HK6:=Hd hk6;clear hk6
     clear HQ HK5 hq0 hk hlt HOW
     by_cases hm:p.main.length<=1024
     rotate_left
     ·have HV:Hid (checkF p=some ⟨0,0,5⟩):=by
       unfold Hid;rw [HK6.out,decide_eq_false hm];rfl
      have hm2:(1024:Int)<(p.main.length:Int):=by omega
      clear hm
      go_wp2_with fail
      exact bodyPost_ret (HRA.out _ _ _ _ _ HB.out HV.out (by rfl) (by rfl)) rfl ⟨rfl,HRB.out _ _ _ HB.out⟩
     have hk7:=HK6.out
     rw [decide_eq_true hm,show needF true 0 0 5=none from rfl,Option.none_or] at hk7
     have hm2:¬ (1024:Int)<(p.main.length:Int):=by omega
     clear HK6 hm
     have hC:=refBodyR p _ _ _ _ p.funcs.length wi ((H.out.keep HB0.out).keep HB.out) HN.out (nR _)
     cases hF:codeR p p.funcs.length with
     | some F=>
      have HV:Hid (checkF p=some F):=by
       unfold Hid
       rw [hk7,hF];rfl
      obtain ⟨he1,he2⟩:=codeR_ev p _ F hF
      have hne:(F.e != 0)=true:=by simp;omega
      rw [hF,refV_some] at hC
      have HC:=Hd hC
      clear hC hF hk7
      go_upto_region 38 with (go_at_call 61;refine HC.out.mono ?_;rintro e w5 ⟨rfl,hb5⟩)
      have gy:=heap_alloc_new w5 (.cells #[.int .i64 F.line,.int .i64 F.col] 35)
      have HB6:=Hd (bcomp HB.out (bcomp hb5 ((bR w5.heap.size w5).alloc (nR _) (.cells #[.int .i64 F.line,.int .i64 F.col] 35))))
      generalize w5.alloc (.cells #[.int .i64 F.line,.int .i64 F.col] 35)=w6 at *
      have u0:=row_of gy 0 _ rfl
      have u1:=row_of gy 1 _ rfl
      clear gy hb5 l0 l1 l2 l3 l4 z0 z1 f0 f1
      obtain ⟨⟨l0,l1,l2,l3,l4⟩,z0,z1,f0,f1⟩:=HCE.out w6 HB6.out
      go_wp2_with fail
      exact bodyPost_ret (HRA.out _ _ _ _ _ HB6.out HV.out (by rfl) (by rfl)) rfl ⟨rfl,HRB.out _ _ _ HB6.out⟩
     | none=>
      rw [hF,Option.none_or] at hk7
      have HV:=Hd hk7
      rw [hF,refV_none] at hC
      have HC:=Hd hC
      clear hC hF hk7
      go_upto_region 38 with (go_at_call 61;refine HC.out.mono ?_;rintro e w5 ⟨rfl,hb5⟩)
      have HB6:=Hd (bcomp HB.out (bcomp hb5 ((bR w5.heap.size w5).alloc (nR _) (.cells #[.int .i64 0,.int .i64 0] 35))))
      generalize w5.alloc (.cells #[.int .i64 0,.int .i64 0] 35)=w6 at *
      clear hb5 l0 l1 l2 l3 l4 z0 z1 f0 f1
      obtain ⟨⟨l0,l1,l2,l3,l4⟩,z0,z1,f0,f1⟩:=HCE.out w6 HB6.out
      have HLA:=refLater p _ _ _ _ w6 ((H.out.keep HB0.out).keep HB6.out) HDI.out HF32.out
      rw [refV_mk,<- HV.out] at HLA
      have HLA:=Hd HLA
      have HPV:Hid (refV (checkF p)=.tuple #[.agg #[.int .i64 (posL (checkF p)),.int .i64 (posC (checkF p))],.int .i64 (errOf (checkF p))]):=rfl
      generalize posL (checkF p)=PL at *
      generalize posC (checkF p)=PC at *
      generalize errOf (checkF p)=EO at *
      clear HC
      go_upto_region 41 with (go_at_call 62;refine HLA.out.mono ?_;rintro e w7 ⟨rfl,hb7⟩;have HB7:=Hd (bcomp HB6.out hb7);clear hb7 l0 l1 l2 l3 l4 z0 z1 f0 f1;obtain ⟨⟨l0,l1,l2,l3,l4⟩,z0,z1,f0,f1⟩:=HCE.out w7 HB7.out)
      have HGR:=Hd ((HB7.out.block (w.heap.size+1) hs0).trans G1.out)
      go_wp2_with fail
      refine bodyPost_ret (v:=.tuple #[.agg #[.int .i64 PL,.int .i64 PC],.int .i64 EO]) (res_check _ _ (w.heap.size+1) PL PC EO rfl rfl (pos_row HGR.out)) rfl ⟨by rw [HPV.out],HRB.out _ _ _ HB7.out⟩
end Go.Proofs.YtgllkgedjplpdaaGreatDoor
