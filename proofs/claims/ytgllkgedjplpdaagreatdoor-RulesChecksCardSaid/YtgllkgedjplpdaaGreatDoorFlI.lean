/- The flat program of a program as plain functions, step by step as the program's text makes it. -/
import Derived.Test.YtgllkgedjplpdaaGreatDoorLoc
import Derived.Test.YtgllkgedjplpdaaGreatDoorRowE
set_option linter.all false
set_option maxRecDepth 1000000
set_option maxHeartbeats 12800000
set_option linter.unusedVariables false
set_option linter.unusedSimpArgs false
namespace Go.Proofs.YtgllkgedjplpdaaGreatDoor
open Go.ChangeShapes Go.WideShapes Go.ChangeAt Go.RowKit
def placesOf (f:Int) (l:List ByteArray):List (Int × ByteArray):=l.map fun s=>(f,s)
def funPlaces (i:Int) (x:FuncD):List (Int × ByteArray):=placesOf i x.params ++ placesOf i (localsL x.params x.code [])
def placesF:Nat->List FuncD->List (Int × ByteArray)
 | _,[]=>[]
 | i,x :: r=>funPlaces i x ++ placesF (i+1) r
def placesP (p:ProgD):List (Int × ByteArray):=placesOf (-1) (localsL [] p.main []) ++ placesF 0 p.funcs
def regN (R:List (Int × ByteArray)) (f:Int) (s:ByteArray):Nat:=(R.findIdx? fun q=>decide (q=(f,s))).getD 0
theorem placesF_snoc:∀ (l:List FuncD) (i:Nat) (x:FuncD),placesF i (l ++ [x])=placesF i l ++ funPlaces ((i+l.length:Nat):Int) x
 | [],i,x=>by simp [placesF]
 | y :: r,i,x=>by
  rw [List.cons_append,placesF,placesF,placesF_snoc r (i+1) x,List.append_assoc]
  rw [show i+1+r.length=i+(y :: r).length from by simp;omega]
theorem regN_lt (R:List (Int × ByteArray)) (f:Int) (s:ByteArray):regN R f s<=R.length:=by
 unfold regN
 cases h:R.findIdx? fun q=>decide (q=(f,s)) with
 | none=>simp
 | some i=>have:=List.findIdx?_eq_some_iff_getElem.1 h;simp only [Option.getD_some];obtain ⟨h1,_⟩:=this;omega
def trimW (W v:Int):Int:=if W=64 then v else v % 2 ^ W.toNat
def zeroRef:RefD:=⟨0,0⟩
def refF (W:Int) (R:List (Int × ByteArray)) (f:Int) (a:ArgD):RefD:=if a.name.toList.isEmpty then ⟨-1,trimW W a.num⟩ else ⟨regN R f a.name,0⟩
def argF (W:Int) (R:List (Int × ByteArray)) (f:Int) (l:List ArgD) (k:Nat):RefD:=match l[k]? with|some a=>refF W R f a|none=>zeroRef
structure StF where
 C:List CodeD
 L:List (ByteArray × Int)
 J:List (Nat × ByteArray)
 T:List Nat
 stop:Bool
def lookL (s:ByteArray) (L:List (ByteArray × Int)):Int:=(atL s L).getD 0
structure EnvF where
 p:ProgD
 R:List (Int × ByteArray)
 S:List ByteArray
namespace EnvF
variable (E:EnvF)
def ref (f:Int) (a:ArgD):RefD:=refF E.p.width E.R f a
def arg (f:Int) (l:List ArgD) (k:Nat):RefD:=argF E.p.width E.R f l k
def reg (f:Int) (s:ByteArray):Int:=(regN E.R f s:Nat)
def one (f:Int) (x:InstrD):CodeD:=
 if x.kind=0 then ⟨0,0,E.reg f x.dst,0,E.arg f x.args 0,zeroRef⟩
 else if x.kind=1 then ⟨1,x.op,E.reg f x.dst,0,E.arg f x.args 0,E.arg f x.args 1⟩
 else if x.kind=2 then ⟨2,0,E.reg f x.dst,idxS x.name (aNames E.p.arrays) 0,E.arg f x.args 0,zeroRef⟩
 else if x.kind=3 then ⟨3,0,0,idxS x.name (aNames E.p.arrays) 0,E.arg f x.args 0,E.arg f x.args 1⟩
 else if x.kind=5 then ⟨4,0,E.reg f x.dst,idxS x.name E.p.chans 0,zeroRef,zeroRef⟩
 else if x.kind=6 then ⟨5,0,0,idxS x.name E.p.chans 0,E.arg f x.args 0,zeroRef⟩
 else if x.kind=7 then ⟨6,0,E.reg f x.dst,idxS x.name E.S 0,E.arg f x.args 0,zeroRef⟩
 else if x.kind=8 then ⟨7,0,0,0,E.arg f x.args 0,zeroRef⟩
 else if x.kind=9 then ⟨8,0,0,0,E.arg f x.args 0,zeroRef⟩
 else ⟨9,0,0,0,zeroRef,zeroRef⟩
def copy (d:Int) (r:RefD):CodeD:=⟨0,0,d,0,r,zeroRef⟩
def jump0:CodeD:=⟨7,0,0,0,zeroRef,zeroRef⟩
def parms (f g:Int) (args:List ArgD):Nat->List ByteArray->List CodeD
 | _,[]=>[]
 | k,s :: r=>copy (E.reg g s) (E.arg f args k) :: parms f g args (k+1) r
def zeros (g:Int) (l:List ByteArray):List CodeD:=l.map fun s=>copy (E.reg g s) ⟨-1,0⟩
def fnOf (s:ByteArray):Int:=idxS s (fNames E.p.funcs) 0
def ahead (f:Int) (x:InstrD):List CodeD:=
 E.parms f (E.fnOf x.name) x.args 0 (bodyF E.p (E.fnOf x.name)).1 ++ E.zeros (E.fnOf x.name) (localsL (bodyF E.p (E.fnOf x.name)).1 (bodyF E.p (E.fnOf x.name)).2 [])
def step (B:Int->Int->List CodeD->List CodeD) (f dst:Int) (s:StF) (x:InstrD):StF:=
 if s.stop=true \/ 4096<s.C.length then { s with stop:=true }
 else if x.kind=4 then { s with C:=B (E.fnOf x.name) (E.reg f x.dst) (s.C ++ E.ahead f x) }
 else if x.kind=10 then { s with L:=(x.name,(s.C.length:Int)) :: s.L }
 else if x.kind=8 \/ x.kind=9 then { s with C:=s.C ++ [E.one f x],J:=s.J ++ [(s.C.length,x.name)] }
 else if x.kind=12 then { s with C:=s.C ++ [copy dst (E.arg f x.args 0),jump0],T:=s.T ++ [s.C.length+1] }
 else { s with C:=s.C ++ [E.one f x] }
def setN (C:List CodeD) (k:Nat) (n:Int):List CodeD:=C.modify k fun c=>{ c with n:=n }
def patch (C:List CodeD) (P:List (Nat × Int)):List CodeD:=P.foldl (fun C q=>setN C q.1 q.2) C
def last (f dst:Int):CodeD:=if 0<=f then copy dst ⟨-1,0⟩ else ⟨9,0,0,0,zeroRef,zeroRef⟩
def jumpsOf (s:StF):List (Nat × Int):=s.J.map fun q=>(q.1,lookL q.2 s.L)
def finish (f dst:Int) (s:StF):List CodeD:=
 if s.stop then s.C else patch (patch (s.C ++ [last f dst]) (jumpsOf s)) (s.T.map fun k=>(k,(s.C.length:Int)+1))
def body:Nat->Int->Int->List CodeD->List CodeD
 | 0,_,_,C=>C
 | n+1,f,dst,C=>finish f dst ((bodyF E.p f).2.foldl (E.step (body n) f dst) ⟨C,[],[],[],false⟩)
end EnvF
def sitesAllF (p:ProgD):List ByteArray:=sitesOf [] (codesOf p.funcs ++ p.main)
def envOf (p:ProgD):EnvF:=⟨p,placesP p,sitesAllF p⟩
def codeF25 (p:ProgD):List CodeD:=(envOf p).body (p.funcs.length+1) (-1) 0 []
def zeroFlat:FlatD:=⟨0,0,[],[],[],[]⟩
noncomputable def flatOf (p:ProgD):FlatD × Int:=
 match checkF p with
 | some F=>(zeroFlat,F.e)
 | none=>if 4096<(codeF25 p).length then (zeroFlat,5) else (⟨p.width,(placesP p).length,p.chans,sitesAllF p,p.arrays.map (·.size),codeF25 p⟩,0)
namespace EnvF
variable (E:EnvF)
theorem step_stop (B:Int->Int->List CodeD->List CodeD) (f dst:Int) (s:StF) (x:InstrD) (h:s.stop=true):E.step B f dst s x=s:=by
 unfold step
 rw [if_pos (.inl h)]
 cases s;simp at h;simp [h]
theorem foldl_stop (B:Int->Int->List CodeD->List CodeD) (f dst:Int):∀ (l:List InstrD) (s:StF),s.stop=true->l.foldl (E.step B f dst) s=s
 | [],_,_=>rfl
 | x :: r,s,h=>by rw [List.foldl_cons,E.step_stop B f dst s x h];exact foldl_stop B f dst r s h
def stAt (B:Int->Int->List CodeD->List CodeD) (f dst:Int) (C:List CodeD) (code:List InstrD) (k:Nat):StF:=(code.take k).foldl (E.step B f dst) ⟨C,[],[],[],false⟩
theorem stAt_zero (B:Int->Int->List CodeD->List CodeD) (f dst:Int) (C:List CodeD) (code:List InstrD):E.stAt B f dst C code 0=⟨C,[],[],[],false⟩:=by unfold stAt;simp
theorem stAt_succ (B:Int->Int->List CodeD->List CodeD) (f dst:Int) (C:List CodeD) (code:List InstrD) (k:Nat) (x:InstrD) (h:code[k]?=some x):E.stAt B f dst C code (k+1)=E.step B f dst (E.stAt B f dst C code k) x:=by
 unfold stAt
 rw [List.take_add_one,h,List.foldl_append];rfl
theorem stAt_all (B:Int->Int->List CodeD->List CodeD) (f dst:Int) (C:List CodeD) (code:List InstrD):E.stAt B f dst C code code.length=code.foldl (E.step B f dst) ⟨C,[],[],[],false⟩:=by unfold stAt;rw [List.take_length]
theorem stAt_early (B:Int->Int->List CodeD->List CodeD) (f dst:Int) (C:List CodeD) (code:List InstrD) (k:Nat) (h:k<code.length) (hl:4096<(E.stAt B f dst C code k).C.length) :
  finish f dst (code.foldl (E.step B f dst) ⟨C,[],[],[],false⟩)=(E.stAt B f dst C code k).C:=by
 have e:code.foldl (E.step B f dst) ⟨C,[],[],[],false⟩=(code.drop k).foldl (E.step B f dst) (E.stAt B f dst C code k):=by
  conv=>lhs;rw [<- List.take_append_drop k code]
  rw [List.foldl_append];rfl
 obtain ⟨x,hx⟩:∃ x,code[k]?=some x:=⟨_,lG h⟩
 have hd:code.drop k=x :: code.drop (k+1):=by
  rw [List.drop_eq_getElem_cons h,(lE hx).2]
 rw [e,hd,List.foldl_cons]
 have h1:E.step B f dst (E.stAt B f dst C code k) x={ E.stAt B f dst C code k with stop:=true }:=by
  unfold step
  rw [if_pos (.inr hl)]
 rw [h1,foldl_stop E B f dst _ _ rfl]
 unfold finish
 rw [if_pos rfl]
theorem setN_length (C:List CodeD) (k:Nat) (n:Int):(setN C k n).length=C.length:=by unfold setN;simp
theorem patch_length:∀ (P:List (Nat × Int)) (C:List CodeD),(patch C P).length=C.length
 | [],_=>rfl
 | q :: r,C=>by
  show (patch (setN C q.1 q.2) r).length=_
  rw [patch_length r,setN_length]
theorem patch_snoc (C:List CodeD) (P:List (Nat × Int)) (q:Nat × Int):patch C (P ++ [q])=setN (patch C P) q.1 q.2:=by unfold patch;rw [List.foldl_append];rfl
theorem patch_take (C:List CodeD) (P:List (Nat × Int)) (k:Nat) (q:Nat × Int) (h:P[k]?=some q):patch C (P.take (k+1))=setN (patch C (P.take k)) q.1 q.2:=by
 rw [List.take_add_one,h];exact patch_snoc _ _ _
theorem parms_length (f g:Int) (args:List ArgD):∀ (l:List ByteArray) (k:Nat),(E.parms f g args k l).length=l.length
 | [],_=>rfl
 | s :: r,k=>by rw [parms,List.length_cons,parms_length f g args r,List.length_cons]
theorem parms_snoc (f g:Int) (args:List ArgD) (s:ByteArray):∀ (l:List ByteArray) (k:Nat),E.parms f g args k (l ++ [s])=E.parms f g args k l ++ [copy (E.reg g s) (E.arg f args (k+l.length))]
 | [],k=>by simp [parms]
 | t :: r,k=>by
  rw [List.cons_append,parms,parms,parms_snoc f g args s r (k+1),List.cons_append,List.length_cons,show k+1+r.length=k+(r.length+1) from by omega]
theorem step_len (B:Int->Int->List CodeD->List CodeD) (hB:∀ g d C,C.length<=(B g d C).length) (f dst:Int) (s:StF) (x:InstrD):s.C.length<=(E.step B f dst s x).C.length:=by
 unfold step
 split
 ·exact nR _
 split
 ·exact Nat.le_trans (by simp) (hB _ _ _)
 split
 ·exact nR _
 split
 ·simp
 split
 ·simp
 ·simp
theorem foldl_len (B:Int->Int->List CodeD->List CodeD) (hB:∀ g d C,C.length<=(B g d C).length) (f dst:Int):∀ (l:List InstrD) (s:StF),s.C.length<=(l.foldl (E.step B f dst) s).C.length
 | [],_=>nR _
 | x :: r,s=>by rw [List.foldl_cons];exact Nat.le_trans (E.step_len B hB f dst s x) (foldl_len B hB f dst r _)
theorem finish_len (f dst:Int) (s:StF):s.C.length<=(finish f dst s).length:=by
 unfold finish
 split
 ·exact nR _
 ·rw [patch_length,patch_length];simp
theorem body_len:∀ (n:Nat) (f dst:Int) (C:List CodeD),C.length<=(E.body n f dst C).length
 | 0,_,_,_=>nR _
 | n+1,f,dst,C=>Nat.le_trans (E.foldl_len (E.body n) (body_len n) f dst _ ⟨C,[],[],[],false⟩) (finish_len _ _ _)
structure StOk (s:StF):Prop where
 rise:s.J.Pairwise (fun a b=>a.1<b.1)
 jl:∀ q ∈ s.J,q.1<s.C.length
 tl:∀ k ∈ s.T,k<s.C.length
theorem stOk_start (C:List CodeD):StOk ⟨C,[],[],[],false⟩:=⟨List.Pairwise.nil,(fun _ h=>by cases h),(fun _ h=>by cases h)⟩
theorem step_ok (B:Int->Int->List CodeD->List CodeD) (hB:∀ g d C,C.length<=(B g d C).length) (f dst:Int) (s:StF) (x:InstrD) (h:StOk s):StOk (E.step B f dst s x):=by
 have hl:=E.step_len B hB f dst s x
 unfold step at hl ⊢
 split
 ·exact ⟨h.rise,h.jl,h.tl⟩
 rename_i h1
 rw [if_neg h1] at hl
 split
 ·rename_i h2
  rw [if_pos h2] at hl
  exact ⟨h.rise,fun q hq=>Nat.lt_of_lt_of_le (h.jl q hq) hl,fun k hk=>Nat.lt_of_lt_of_le (h.tl k hk) hl⟩
 split
 ·exact ⟨h.rise,h.jl,h.tl⟩
 split
 ·refine ⟨?_,?_,?_⟩
  ·refine List.pairwise_append.2 ⟨h.rise,List.pairwise_singleton _ _,fun a ha b hb=>?_⟩
   rw [List.mem_singleton] at hb;subst hb
   exact h.jl a ha
  ·intro q hq
   rw [List.length_append,List.length_singleton]
   rcases List.mem_append.1 hq with hq|hq
   ·have:=h.jl q hq;omega
   ·rw [List.mem_singleton] at hq;subst hq;simp
  ·intro k hk
   rw [List.length_append,List.length_singleton]
   have:=h.tl k hk;omega
 split
 ·refine ⟨h.rise,fun q hq=>?_,fun k hk=>?_⟩
  ·have:=h.jl q hq;simp;omega
  ·rcases List.mem_append.1 hk with hk|hk
   ·have:=h.tl k hk;simp;omega
   ·rw [List.mem_singleton] at hk;subst hk;simp
 ·refine ⟨h.rise,fun q hq=>?_,fun k hk=>?_⟩
  ·have:=h.jl q hq;simp;omega
  ·have:=h.tl k hk;simp;omega
theorem stAt_ok (B:Int->Int->List CodeD->List CodeD) (hB:∀ g d C,C.length<=(B g d C).length) (f dst:Int) (C:List CodeD) (code:List InstrD) (k:Nat):StOk (E.stAt B f dst C code k):=by
 unfold stAt
 have:∀ (l:List InstrD) (s:StF),StOk s->StOk (l.foldl (E.step B f dst) s):=by
  intro l
  induction l with
  | nil=>exact fun s h=>h
  | cons x r ih=>exact fun s h=>ih _ (E.step_ok B hB f dst s x h)
 exact this _ _ (stOk_start C)
theorem step_few (B:Int->Int->List CodeD->List CodeD) (f dst:Int) (s:StF) (x:InstrD):(E.step B f dst s x).J.length<=s.J.length+1/\(E.step B f dst s x).T.length<=s.T.length+1:=by
 unfold step
 split
 ·simp
 split
 ·simp
 split
 ·simp
 split
 ·simp
 split
 ·simp
 ·simp
theorem stAt_few (B:Int->Int->List CodeD->List CodeD) (f dst:Int) (C:List CodeD) (code:List InstrD) (k:Nat):(E.stAt B f dst C code k).J.length<=k/\(E.stAt B f dst C code k).T.length<=k:=by
 induction k with
 | zero=>rw [stAt_zero];simp
 | succ k ih=>
  cases h:code[k]? with
  | none=>
   have e:E.stAt B f dst C code (k+1)=E.stAt B f dst C code k:=by unfold stAt;rw [List.take_add_one,h];simp
   rw [e];omega
  | some x=>
   rw [E.stAt_succ B f dst C code k x h]
   have:=E.step_few B f dst (E.stAt B f dst C code k) x
   omega
def Small (p:ProgD):Prop:=∀ f,(bodyF p f).1.length<=32/\(bodyF p f).2.length<=1024/\∀ x ∈ (bodyF p f).2,x.args.length<=32
theorem ahead_len (hs:Small E.p) (f:Int) (x:InstrD):(E.ahead f x).length<=33824:=by
 unfold ahead zeros
 rw [List.length_append,parms_length,List.length_map]
 obtain ⟨h1,h2,h3⟩:=hs (E.fnOf x.name)
 have:=localsL_len (bodyF E.p (E.fnOf x.name)).1 (bodyF E.p (E.fnOf x.name)).2 [] h3
 simp only [List.length_nil] at this
 omega
theorem step_top (B:Int->Int->List CodeD->List CodeD) (K:Nat) (hs:Small E.p) (hB:∀ g d C,C.length<=40000->(B g d C).length<=40000+K) (f dst:Int) (s:StF) (x:InstrD):(E.step B f dst s x).C.length<=max s.C.length (40000+K):=by
 unfold step
 split
 ·exact Nat.le_max_left _ _
 rename_i h
 have hl:s.C.length<=4096:=by
  rcases Nat.lt_or_ge 4096 s.C.length with h'|h'
  ·exact absurd (.inr h') h
  ·exact h'
 split
 ·refine Nat.le_trans (hB _ _ _ ?_) (Nat.le_max_right _ _)
  rw [List.length_append]
  have:=E.ahead_len hs f x
  omega
 split
 ·exact Nat.le_max_left _ _
 split
 ·simp;omega
 split
 ·simp;omega
 ·simp;omega
theorem foldl_top (B:Int->Int->List CodeD->List CodeD) (K:Nat) (hs:Small E.p) (hB:∀ g d C,C.length<=40000->(B g d C).length<=40000+K) (f dst:Int):∀ (l:List InstrD) (s:StF),s.C.length<=40000+K->(l.foldl (E.step B f dst) s).C.length<=40000+K
 | [],_,h=>h
 | x :: r,s,h=>by
  rw [List.foldl_cons]
  exact foldl_top B K hs hB f dst r _ (by have:=E.step_top B K hs hB f dst s x;omega)
theorem body_top (hs:Small E.p):∀ (n:Nat) (f dst:Int) (C:List CodeD),C.length<=40000->(E.body n f dst C).length<=40000+n
 | 0,_,_,_,h=>by show _<=_;exact h
 | n+1,f,dst,C,h=>by
  have h1:=E.foldl_top (E.body n) n hs (body_top hs n) f dst (bodyF E.p f).2 ⟨C,[],[],[],false⟩ (by show C.length<=_;omega)
  show (finish f dst _).length<=_
  unfold finish
  split
  ·omega
  ·rw [patch_length,patch_length,List.length_append,List.length_singleton];omega
theorem stAt_top (hs:Small E.p) (n:Nat) (f dst:Int) (C:List CodeD) (code:List InstrD) (k:Nat) (h:C.length<=40000):(E.stAt (E.body n) f dst C code k).C.length<=40000+n:=by
 unfold stAt
 exact E.foldl_top (E.body n) n hs (E.body_top hs n) f dst _ _ (by show C.length<=_;omega)
def Fits (p:ProgD):Nat->Int->Prop
 | 0,_=>False
 | n+1,f=>∀ x ∈ (bodyF p f).2,x.kind=4->∃ g:Nat,idxS x.name (fNames p.funcs) 0=g/\g<p.funcs.length/\x.args.length=(bodyF p g).1.length/\Fits p n g
end EnvF
open Go.ChangeShapes Go.WideShapes Go.ChangeAt Go.RowKit
namespace EnvF
variable (E:EnvF)
def stepI (B:Int->Int->List CodeD->List CodeD) (f dst:Int) (s:StF) (x:InstrD):StF:=
 if x.kind=4 then { s with C:=B (E.fnOf x.name) (E.reg f x.dst) (s.C ++ E.ahead f x) }
 else if x.kind=10 then { s with L:=(x.name,(s.C.length:Int)) :: s.L }
 else if x.kind=8 \/ x.kind=9 then { s with C:=s.C ++ [E.one f x],J:=s.J ++ [(s.C.length,x.name)] }
 else if x.kind=12 then { s with C:=s.C ++ [copy dst (E.arg f x.args 0),jump0],T:=s.T ++ [s.C.length+1] }
 else { s with C:=s.C ++ [E.one f x] }
def foldI (B:Int->Int->List CodeD->List CodeD) (f dst:Int) (l:List InstrD) (C:List CodeD):StF:=l.foldl (E.stepI B f dst) ⟨C,[],[],[],false⟩
def finishI (f dst:Int) (s:StF):List CodeD:=patch (patch (s.C ++ [last f dst]) (jumpsOf s)) (s.T.map fun k=>(k,(s.C.length:Int)+1))
def bodyI:Nat->Int->Int->List CodeD->List CodeD
 | 0,_,_,C=>C
 | n+1,f,dst,C=>finishI f dst (E.foldI (bodyI n) f dst (bodyF E.p f).2 C)
theorem step_is (B:Int->Int->List CodeD->List CodeD) (f dst:Int) (s:StF) (x:InstrD) (h:s.stop=false) (hl:s.C.length<=4096):E.step B f dst s x=E.stepI B f dst s x:=by
 unfold step stepI
 rw [if_neg (by rw [h];simp;omega)]
theorem stepI_stop (B:Int->Int->List CodeD->List CodeD) (f dst:Int) (s:StF) (x:InstrD):(E.stepI B f dst s x).stop=s.stop:=by
 unfold stepI
 split
 ·rfl
 split
 ·rfl
 split
 ·rfl
 split
 ·rfl
 ·rfl
theorem stepI_len (B:Int->Int->List CodeD->List CodeD) (hB:∀ g d C,C.length<=(B g d C).length) (f dst:Int) (s:StF) (x:InstrD):s.C.length<=(E.stepI B f dst s x).C.length:=by
 unfold stepI
 split
 ·exact Nat.le_trans (by simp) (hB _ _ _)
 split
 ·exact nR _
 split
 ·simp
 split
 ·simp
 ·simp
theorem foldlI_len (B:Int->Int->List CodeD->List CodeD) (hB:∀ g d C,C.length<=(B g d C).length) (f dst:Int):∀ (l:List InstrD) (s:StF),s.C.length<=(l.foldl (E.stepI B f dst) s).C.length
 | [],_=>nR _
 | x :: r,s=>by rw [List.foldl_cons];exact Nat.le_trans (E.stepI_len B hB f dst s x) (foldlI_len B hB f dst r _)
theorem finishI_length (f dst:Int) (s:StF):(finishI f dst s).length=s.C.length+1:=by
 unfold finishI
 rw [patch_length,patch_length];simp
theorem bodyI_len:∀ (n:Nat) (f dst:Int) (C:List CodeD),C.length<=(E.bodyI n f dst C).length
 | 0,_,_,_=>nR _
 | n+1,f,dst,C=>by
  show _<=(finishI f dst _).length
  rw [finishI_length]
  exact Nat.le_trans (E.foldlI_len (E.bodyI n) (bodyI_len n) f dst _ ⟨C,[],[],[],false⟩) (Nat.le_succ _)
def Rel (s t:StF):Prop:=t.stop=false/\(s=t \/ (4096<s.C.length/\4096<t.C.length))
theorem step_rel (n:Nat) (IH:∀ f dst C,E.body n f dst C=E.bodyI n f dst C \/ (4096<(E.body n f dst C).length/\4096<(E.bodyI n f dst C).length)) (f dst:Int) (s t:StF) (x:InstrD) (h:Rel s t):Rel (E.step (E.body n) f dst s x) (E.stepI (E.bodyI n) f dst t x):=by
 refine ⟨(E.stepI_stop _ f dst t x).trans h.1,?_⟩
 have hl:=E.step_len (E.body n) (E.body_len n) f dst s x
 have hr:=E.stepI_len (E.bodyI n) (E.bodyI_len n) f dst t x
 rcases h.2 with e|⟨e1,e2⟩
 ·subst e
  by_cases hb:4096<s.C.length
  ·exact .inr ⟨by omega,by omega⟩
  ·rw [E.step_is (E.body n) f dst s x h.1 (by omega)]
   unfold stepI
   split
   ·rcases IH (E.fnOf x.name) (E.reg f x.dst) (s.C ++ E.ahead f x) with e|e
    ·exact .inl (by rw [e])
    ·exact .inr e
   ·exact .inl rfl
 ·exact .inr ⟨by omega,by omega⟩
theorem foldl_rel (n:Nat) (IH:∀ f dst C,E.body n f dst C=E.bodyI n f dst C \/ (4096<(E.body n f dst C).length/\4096<(E.bodyI n f dst C).length)) (f dst:Int):∀ (l:List InstrD) (s t:StF),Rel s t->Rel (l.foldl (E.step (E.body n) f dst) s) (l.foldl (E.stepI (E.bodyI n) f dst) t)
 | [],_,_,h=>h
 | x :: r,s,t,h=>by
  rw [List.foldl_cons,List.foldl_cons]
  exact foldl_rel n IH f dst r _ _ (E.step_rel n IH f dst s t x h)
theorem body_rel:∀ (n:Nat) (f dst:Int) (C:List CodeD),E.body n f dst C=E.bodyI n f dst C \/ (4096<(E.body n f dst C).length/\4096<(E.bodyI n f dst C).length)
 | 0,_,_,_=>.inl rfl
 | n+1,f,dst,C=>by
  have h:=E.foldl_rel n (body_rel n) f dst (bodyF E.p f).2 ⟨C,[],[],[],false⟩ ⟨C,[],[],[],false⟩ ⟨rfl,.inl rfl⟩
  show finish f dst _=finishI f dst (E.foldI _ f dst _ C) \/ _<(finish f dst _).length/\_<(finishI f dst (E.foldI _ f dst _ C)).length
  unfold foldI
  rcases h.2 with e|⟨e1,e2⟩
  ·left
   rw [e]
   unfold finish finishI
   rw [h.1];rfl
  ·right
   refine ⟨Nat.lt_of_lt_of_le e1 (finish_len _ _ _),?_⟩
   rw [finishI_length];omega
end EnvF
def codeI25 (p:ProgD):List CodeD:=(envOf p).bodyI (p.funcs.length+1) (-1) 0 []
def flatI (p:ProgD):FlatD:=⟨p.width,(placesP p).length,p.chans,sitesAllF p,p.arrays.map (·.size),codeI25 p⟩
theorem flatOf_fault {p:ProgD} {F:FaultD} (h:checkF p=some F):flatOf p=(zeroFlat,F.e):=by unfold flatOf;rw [h]
theorem flatOf_good {p:ProgD} (h:checkF p=none):flatOf p=if 4096<(codeI25 p).length then (zeroFlat,5) else (flatI p,0):=by
 unfold flatOf flatI
 rw [h]
 simp only
 rcases (envOf p).body_rel (p.funcs.length+1) (-1) 0 [] with e|⟨e1,e2⟩
 ·have e':codeF25 p=codeI25 p:=e
  rw [e']
 ·have e1':4096<(codeF25 p).length:=e1
  have e2':4096<(codeI25 p).length:=e2
  rw [if_pos e1',if_pos e2']
theorem firstF_at {α:Type} {f:List α->α->Option FaultD} {l:List α} (h:firstF f [] l=none) {k:Nat} {x:α} (hx:l[k]?=some x):f (l.take k) x=none:=by
 have hk:=lE hx
 have:=(firstF_none f l []).1 h (l.take k) x (l.drop (k+1)) (by rw [<- hk.2,List.getElem_cons_drop,List.take_append_drop])
 simpa using this
theorem nodup_snoc_of {α:Type} {l:List α} (h:∀ k x,l[k]?=some x->x ∉ l.take k):l.Nodup:=by
 rw [List.nodup_iff_pairwise_ne,List.pairwise_iff_getElem]
 intro i j hi hj hij e
 refine h j l[j] (lG hj) ?_
 rw [<- e]
 exact List.mem_take_iff_getElem.2 ⟨i,by omega,rfl⟩
theorem declsF_none {l:List ByteArray} {x y:Int} (h:declsF l x y=none):l.Nodup/\∀ s ∈ l,named s=true:=by
 have h1:∀ k s,l[k]?=some s->named s=true/\s ∉ l.take k:=by
  intro k s hs
  have:=firstF_at h hs
  unfold declF at this
  rw [Option.or_eq_none_iff] at this
  exact ⟨need_none this.1,inL_not.1 (by simpa using need_none this.2)⟩
 exact ⟨nodup_snoc_of fun k s hs=>(h1 k s hs).2,fun s hs=>by obtain ⟨k,hk⟩:=List.getElem?_of_mem hs;exact (h1 k s hk).1⟩
structure WfI (p:ProgD) (main:Bool) (code:List InstrD) (x:InstrD):Prop where
 form:formB x=true
 ret:main=true->x.kind ≠ 12
 chan:x.kind=5 \/ x.kind=6->x.name ∈ p.chans
 arr:x.kind=2 \/ x.kind=3->x.name ∈ aNames p.arrays
 jump:x.kind=8 \/ x.kind=9->x.name ∈ labelsOf code
 call:x.kind=4->∃ (g:Nat) (fd:FuncD),p.funcs[g]?=some fd/\fd.name=x.name/\x.args.length=fd.params.length
theorem labels_nodup {chans arrays:List ByteArray} {main:Bool} {sites:List ByteArray}:∀ (l d:List InstrD),(labelsOf d).Nodup->firstF (fun d x=>instrF chans arrays main (labelsOf d) (sitesOf sites d) x) d l=none->(labelsOf (d ++ l)).Nodup
 | [],d,h,_=>by simpa using h
 | x :: r,d,h,hf=>by
  simp only [firstF,Option.or_eq_none_iff] at hf
  have h1:(labelsOf (d ++ [x])).Nodup:=by
   rw [labelsOf_snoc]
   split
   ·rename_i hk
    have hk':x.kind=10:=by simpa using hk
    have hr:=(Option.or_eq_none_iff.1 hf.1).2
    unfold restF at hr
    simp only [hk'] at hr
    have hn:x.name ∉ labelsOf d:=inL_not.1 (by simpa using need_none hr)
    exact List.nodup_append.2 ⟨h,List.pairwise_singleton _ _,fun a ha b hb e=>by rw [List.mem_singleton] at hb;subst hb;exact hn (e ▸ ha)⟩
   ·exact h
  have:=labels_nodup r (d ++ [x]) h1 hf.2
  simpa using this
theorem sites_boundI {chans arrays S0:List ByteArray} {main:Bool}:∀ (l d:List InstrD),(sitesOf S0 d).length<=32->firstF (fun d x=>instrF chans arrays main (labelsOf d) (sitesOf S0 d) x) d l=none->(sitesOf S0 (d ++ l)).length<=32
 | [],d,h,_=>by simpa using h
 | x :: r,d,h,hf=>by
  simp only [firstF,Option.or_eq_none_iff] at hf
  have h1:(sitesOf S0 (d ++ [x])).length<=32:=by
   rw [sitesOf_snoc]
   split
   ·rename_i h7
    have h7':x.kind=7:=by simpa using h7
    unfold putL
    split
    ·exact h
    ·rename_i hin
     have hr:=(Option.or_eq_none_iff.1 hf.1).2
     unfold restF at hr
     simp only [h7'] at hr
     have hr:=need_none hr
     have:inL x.name (sitesOf S0 d)=false:=by simpa using hin
     rw [this] at hr
     simp at hr
     simp;omega
   ·exact h
  have:=sites_boundI r (d ++ [x]) h1 hf.2
  simpa using this
theorem atL_params {s:ByteArray} {fs:List FuncD} {n:Int} (h:atL s (paramsOf fs)=some n):∃ (g:Nat) (fd:FuncD),fs[g]?=some fd/\fd.name=s/\n=fd.params.length:=by
 unfold atL paramsOf at h
 rw [Option.map_eq_some_iff] at h
 obtain ⟨q,hq,rfl⟩:=h
 have hm:=List.mem_of_find?_eq_some hq
 have hs:=List.find?_some hq
 simp only [decide_eq_true_eq] at hs
 obtain ⟨fd,hfd,rfl⟩:=List.mem_map.1 hm
 obtain ⟨g,hg⟩:=List.getElem?_of_mem hfd
 exact ⟨g,fd,hg,hs,rfl⟩
structure WfC (p:ProgD) (main:Bool) (code:List InstrD):Prop where
 len:code.length<=1024
 ins:∀ x ∈ code,WfI p main code x
 labs:(labelsOf code).Nodup
theorem wfC_of {p:ProgD} {main:Bool} {sites:List ByteArray} {code:List InstrD} {line col:Int} (h:instrsF p.chans (aNames p.arrays) main sites code line col=none) (ht:targetsF (paramsOf p.funcs) (labelsOf code) code=none):WfC p main code:=by
 unfold instrsF codeF at h
 rw [Option.or_eq_none_iff] at h
 refine ⟨by simpa using need_none h.1,fun x hx=>?_,by simpa using labels_nodup code [] (by unfold labelsOf;simp) h.2⟩
 obtain ⟨k,hk⟩:=List.getElem?_of_mem hx
 have h1:=firstF_at h.2 hk
 have h2:=firstF_at ht hk
 unfold instrF at h1
 rw [Option.or_eq_none_iff] at h1
 have h3:=need_none h1.1
 rw [Bool.and_eq_true] at h3
 have h4:=h1.2
 unfold restF at h4
 unfold targetF at h2
 refine ⟨h3.1,fun hm hk12=>?_,fun hc=>?_,fun hc=>?_,fun hc=>?_,fun hc=>?_⟩
 ·have:=h3.2
  rw [hm,hk12] at this
  simp at this
 ·rw [if_pos hc] at h4
  exact inL_iff.1 (need_none h4)
 ·rw [if_neg (by omega),if_pos hc] at h4
  exact inL_iff.1 (need_none h4)
 ·rw [if_pos hc] at h2
  exact inL_iff.1 (need_none h2)
 ·rw [if_neg (by omega),if_pos hc] at h2
  rw [Option.or_eq_none_iff] at h2
  have h5:=need_none h2.1
  obtain ⟨n,hn⟩:=Option.isSome_iff_exists.1 h5
  have h6:=need_none h2.2
  rw [hn] at h6
  obtain ⟨g,fd,e1,e2,e3⟩:=atL_params hn
  refine ⟨g,fd,e1,e2,?_⟩
  simp at h6
  omega
structure WfP (p:ProgD):Prop where
 wd:1<=p.width/\p.width<=64
 chl:p.chans.length<=32
 chn:p.chans.Nodup/\∀ s ∈ p.chans,named s=true
 arl:p.arrays.length<=32
 arn:(aNames p.arrays).Nodup/\∀ s ∈ aNames p.arrays,named s=true
 ars:∀ a ∈ p.arrays,1<=a.size/\a.size<=64
 fl:p.funcs.length<=32
 fn:(fNames p.funcs).Nodup
 fs:∀ f ∈ p.funcs,named f.name=true/\f.params.length<=32/\(f.params.Nodup/\∀ s ∈ f.params,named s=true)/\WfC p false f.code
 main:WfC p true p.main
 sites:(sitesAllF p).length<=32
 loops:∀ f ∈ p.funcs,¬ Reach p.funcs f.name f.name
theorem wfP_of {p:ProgD} (h:checkF p=none):WfP p:=by
 unfold checkF at h
 simp only [Option.or_eq_none_iff] at h
 obtain ⟨h1,h2,h3,h4,h5,h6,h7,h8,h9,h10,h11⟩:=h
 have w1:=need_none h1
 rw [Bool.and_eq_true,decide_eq_true_eq,decide_eq_true_eq] at w1
 have ha:∀ k a,p.arrays[k]?=some a->(named a.name=true/\a.name ∉ aNames (p.arrays.take k))/\1<=a.size/\a.size<=64:=by
  intro k a hk
  have:=firstF_at h5 hk
  unfold arrF declF at this
  rw [Option.or_eq_none_iff,Option.or_eq_none_iff] at this
  have e:=need_none this.2
  rw [Bool.and_eq_true,decide_eq_true_eq,decide_eq_true_eq] at e
  exact ⟨⟨need_none this.1.1,inL_not.1 (by simpa using need_none this.1.2)⟩,e⟩
 have hf:∀ k f,p.funcs[k]?=some f->(named f.name=true/\f.name ∉ fNames (p.funcs.take k))/\f.params.length<=32/\(f.params.Nodup/\∀ s ∈ f.params,named s=true)/\WfC p false f.code:=by
  intro k f hk
  have:=firstF_at h7 hk
  unfold funcF declF at this
  simp only [Option.or_eq_none_iff] at this
  obtain ⟨⟨e1,e2⟩,e3,e4,e5⟩:=this
  exact ⟨⟨need_none e1,inL_not.1 (by simpa using need_none e2)⟩,by simpa using need_none e3,declsF_none e4,wfC_of e5 (firstF_at h9 hk)⟩
 have hsb:(sitesOf [] (codesOf p.funcs)).length<=32:=by
  have:∀ k,k<=p.funcs.length->(sitesOf [] (codesOf (p.funcs.take k))).length<=32:=by
   intro k
   induction k with
   | zero=>intro _;simp [codesOf,sitesOf]
   | succ k ih=>
    intro hk
    have ih:=ih (by omega)
    obtain ⟨f,hk'⟩:∃ f,p.funcs[k]?=some f:=⟨_,lG (by omega)⟩
    have:=firstF_at h7 hk'
    unfold funcF instrsF codeF at this
    simp only [Option.or_eq_none_iff] at this
    have h:=sites_boundI f.code [] (by simpa [sitesOf] using ih) this.2.2.2.2
    rw [List.take_add_one,hk']
    have e:codesOf (p.funcs.take k ++ (some f).toList)=codesOf (p.funcs.take k) ++ f.code:=by unfold codesOf;rw [List.flatMap_append];simp
    rw [e,sitesOf_append]
    simpa using h
  have:=this p.funcs.length (nR _)
  rwa [List.take_length] at this
 refine ⟨w1,by simpa using need_none h2,declsF_none h3,by simpa using need_none h4,⟨nodup_snoc_of fun k s hs=>?_,fun s hs=>?_⟩,fun a ham=>?_,by simpa using need_none h6,nodup_snoc_of fun k s hs=>?_,fun f hfm=>?_,wfC_of h8 h10,?_,fun f hfm=>?_⟩
 ·unfold aNames at hs ⊢
  rw [List.getElem?_map,Option.map_eq_some_iff] at hs
  obtain ⟨a,hk,rfl⟩:=hs
  have:=(ha k a hk).1.2
  unfold aNames at this
  rwa [List.map_take] at this
 ·unfold aNames at hs
  obtain ⟨a,ham,rfl⟩:=List.mem_map.1 hs
  obtain ⟨k,hk⟩:=List.getElem?_of_mem ham
  exact (ha k a hk).1.1
 ·obtain ⟨k,hk⟩:=List.getElem?_of_mem ham
  exact (ha k a hk).2
 ·unfold fNames at hs ⊢
  rw [List.getElem?_map,Option.map_eq_some_iff] at hs
  obtain ⟨a,hk,rfl⟩:=hs
  have:=(hf k a hk).1.2
  unfold fNames at this
  rwa [List.map_take] at this
 ·obtain ⟨k,hk⟩:=List.getElem?_of_mem hfm
  have:=hf k f hk
  exact ⟨this.1.1,this.2⟩
 ·unfold sitesAllF
  unfold instrsF codeF at h8
  rw [Option.or_eq_none_iff] at h8
  have h:=sites_boundI p.main [] (by simpa [sitesOf] using hsb) h8.2
  rw [sitesOf_append]
  simpa using h
 ·obtain ⟨k,hk⟩:=List.getElem?_of_mem hfm
  have:=need_none (firstF_at h11 hk)
  unfold loopB at this
  simpa using this
theorem idxS_pos {s:ByteArray}:∀ {l:List ByteArray} (k:Nat),s ∈ l->∃ g:Nat,idxS s l k=((k+g:Nat):Int)/\l[g]?=some s
 | [],_,h=>by cases h
 | t :: r,k,h=>by
  rw [idxS]
  by_cases e:s=t
  ·subst e
   refine ⟨0,?_,rfl⟩
   simp
  ·have hne:(s.toList == t.toList)=false:=by
    rw [beq_eq_false_iff_ne]
    intro h'
    apply e
    rw [ByteArray.toList_eq,ByteArray.toList_eq] at h'
    cases s;cases t;simp at h';rw [h']
   rw [hne]
   have hr:s ∈ r:=by
    rcases List.mem_cons.1 h with h|h
    ·exact absurd h e
    ·exact h
   obtain ⟨g,h1,h2⟩:=idxS_pos (k+1) hr
   exact ⟨g+1,by simp only [Bool.false_eq_true,if_false];rw [h1];omega,by simpa using h2⟩
theorem nodup_get {α:Type} {l:List α} (h:l.Nodup) {i j:Nat} {x:α} (hi:l[i]?=some x) (hj:l[j]?=some x):i=j:=by
 have h1:=lE hi
 have h2:=lE hj
 exact (List.getElem_inj h).1 (h1.2.trans h2.2.symm) 
theorem idxS_fn {p:ProgD} (hn:(fNames p.funcs).Nodup) {g:Nat} {fd:FuncD} (h:p.funcs[g]?=some fd):idxS fd.name (fNames p.funcs) 0=(g:Int):=by
 have hg:(fNames p.funcs)[g]?=some fd.name:=by unfold fNames;rw [List.getElem?_map,h];rfl
 obtain ⟨g',h1,h2⟩:=idxS_pos 0 (List.mem_of_getElem? hg)
 have:=nodup_get hn h2 hg
 subst this
 rw [h1,Nat.zero_add]
theorem bodyF_at {p:ProgD} {g:Nat} {x:FuncD} (h:p.funcs[g]?=some x):bodyF p (g:Int)=(x.params,x.code):=by
 unfold bodyF
 rw [if_neg (by omega)]
 simp [h]
theorem bodyF_main (p:ProgD):bodyF p (-1)=([],p.main):=rfl
theorem callsN_of {p:ProgD} (hn:(fNames p.funcs).Nodup) {g:Nat} {fd:FuncD} (h:p.funcs[g]?=some fd) {x:InstrD} (hx:x ∈ fd.code) (hk:x.kind=4):CallsN p.funcs fd.name x.name:=by
 refine ⟨fd,?_,?_⟩
 ·cases hf:p.funcs.find? (fun f=>decide (f.name=fd.name)) with
  | none=>have:=List.find?_eq_none.1 hf fd (List.mem_of_getElem? h);simp at this
  | some q=>
   have h1:=List.mem_of_find?_eq_some hf
   have h2:=List.find?_some hf
   simp only [decide_eq_true_eq] at h2
   obtain ⟨i,hi⟩:=List.getElem?_of_mem h1
   have:i=g:=nodup_get hn (i:=i) (j:=g) (x:=fd.name) (by unfold fNames;rw [List.getElem?_map,hi,<- h2];rfl) (by unfold fNames;rw [List.getElem?_map,h];rfl)
   subst this
   rw [hi] at h
   exact h
 ·unfold callsOf
  refine List.mem_map.2 ⟨x,List.mem_filter.2 ⟨hx,by simp [hk]⟩,rfl⟩
theorem nodup_subset {α:Type} [DecidableEq α]:∀ {l m:List α},l.Nodup->(∀ s ∈ l,s ∈ m)->l.length<=m.length
 | [],_,_,_=>by simp
 | a :: r,m,h,hs=>by
  obtain ⟨h1,h2⟩:=List.nodup_cons.1 h
  have h3:=nodup_subset (m:=m.erase a) h2 (fun s hr=>(List.mem_erase_of_ne (by rintro rfl;exact h1 hr)).2 (hs s (by simp [hr])))
  have h4:=List.length_erase_of_mem (hs a (by simp))
  have h5:=List.length_pos_of_mem (hs a (by simp))
  rw [List.length_cons]
  omega
theorem fits_fn {p:ProgD} (H:WfP p):∀ (n g:Nat) (fd:FuncD) (path:List ByteArray),p.funcs[g]?=some fd->path.Nodup->(∀ s ∈ path,s ∈ fNames p.funcs/\Reach p.funcs s fd.name)->p.funcs.length<=path.length+n->EnvF.Fits p n g
 | n,g,fd,path,hg,hp,hr,hn=>by
  have hfd:fd.name ∈ fNames p.funcs:=by unfold fNames;exact List.mem_map.2 ⟨fd,List.mem_of_getElem? hg,rfl⟩
  have hnot:fd.name ∉ path:=fun h=>H.loops fd (List.mem_of_getElem? hg) (hr _ h).2
  have hnd:(fd.name :: path).Nodup:=List.nodup_cons.2 ⟨hnot,hp⟩
  have hsub:(fd.name :: path).length<=(fNames p.funcs).length:=by
   refine nodup_subset hnd ?_
   intro s hs
   rcases List.mem_cons.1 hs with rfl|hs
   ·exact hfd
   ·exact (hr s hs).1
  have hfl:(fNames p.funcs).length=p.funcs.length:=by unfold fNames;simp
  rw [hfl,List.length_cons] at hsub
  cases n with
  | zero=>omega
  | succ n=>
   intro x hx hk
   rw [bodyF_at hg] at hx
   obtain ⟨g',fd',h1,h2,h3⟩:=((H.fs fd (List.mem_of_getElem? hg)).2.2.2.ins x hx).call hk
   have hc:=callsN_of H.fn hg hx hk
   refine ⟨g',by rw [<- h2];exact idxS_fn H.fn h1,(lE h1).1,by rw [bodyF_at h1];exact h3,?_⟩
   refine fits_fn H n g' fd' (fd.name :: path) h1 hnd (fun s hs=>?_) (by simp;omega)
   rw [h2]
   rcases List.mem_cons.1 hs with rfl|hs
   ·exact ⟨hfd,.one hc⟩
   ·exact ⟨(hr s hs).1,.more (hr s hs).2 hc⟩
theorem fits_main {p:ProgD} (H:WfP p):EnvF.Fits p (p.funcs.length+1) (-1):=by
 intro x hx hk
 rw [bodyF_main] at hx
 obtain ⟨g,fd,h1,h2,h3⟩:=(H.main.ins x hx).call hk
 exact ⟨g,by rw [<- h2];exact idxS_fn H.fn h1,(lE h1).1,by rw [bodyF_at h1];exact h3,fits_fn H p.funcs.length g fd [] h1 List.nodup_nil (fun s hs=>by cases hs) (by simp)⟩
theorem formB_kind {x:InstrD} (h:formB x=true):x.kind.toNat<=12:=by
 unfold formB at h
 rcases Nat.lt_or_ge 12 x.kind.toNat with h1|h1
 ·have:formL[x.kind.toNat]?=none:=List.getElem?_eq_none (by show 13<=_;omega)
  rw [this] at h;simp at h
 ·exact h1
theorem bodyF_cases (p:ProgD) (f:Int):bodyF p f=([],p.main) \/ bodyF p f=([],[]) \/ ∃ (g:Nat) (fd:FuncD),f=g/\p.funcs[g]?=some fd/\bodyF p f=(fd.params,fd.code):=by
 unfold bodyF
 split
 ·exact .inl rfl
 ·cases h:p.funcs[f.toNat]? with
  | none=>exact .inr (.inl rfl)
  | some fd=>exact .inr (.inr ⟨f.toNat,fd,by omega,h,rfl⟩)
theorem small_of {p:ProgD} (h:checkF p=none):EnvF.Small p:=by
 obtain ⟨h1,h2⟩:=check_none h
 intro f
 rcases bodyF_cases p f with e|e|⟨g,fd,_,e1,e⟩
 ·rw [e];exact ⟨by simp,h1⟩
 ·rw [e];simp
 ·rw [e];exact h2 fd (List.mem_of_getElem? e1)
theorem wf_body {p:ProgD} (H:WfP p) (f:Int):∀ x ∈ (bodyF p f).2,∃ main code,WfI p main code x:=by
 intro x hx
 rcases bodyF_cases p f with e|e|⟨g,fd,_,e1,e⟩
 ·rw [e] at hx;exact ⟨_,_,H.main.ins x hx⟩
 ·rw [e] at hx;cases hx
 ·rw [e] at hx;exact ⟨_,_,(H.fs fd (List.mem_of_getElem? e1)).2.2.2.ins x hx⟩
theorem addF_nodup {ps out:List ByteArray} {s:ByteArray} (h:out.Nodup) (hd:∀ t ∈ out,t ∉ ps):(addF ps out s).Nodup/\∀ t ∈ addF ps out s,t ∉ ps:=by
 unfold addF
 split
 ·exact ⟨h,hd⟩
 ·rename_i hc
  simp only [Bool.or_eq_true,not_or,Bool.not_eq_true] at hc
  obtain ⟨_,h1,h2⟩:=hc
  refine ⟨List.nodup_append.2 ⟨h,List.pairwise_singleton _ _,fun a ha b hb e=>by rw [List.mem_singleton] at hb;subst hb;exact inL_not.1 h2 (e ▸ ha)⟩,fun t ht=>?_⟩
  rcases List.mem_append.1 ht with ht|ht
  ·exact hd t ht
  ·rw [List.mem_singleton] at ht;subst ht;exact inL_not.1 h1
theorem argsL_nodup {ps:List ByteArray}:∀ (l:List ArgD) (out:List ByteArray),out.Nodup->(∀ t ∈ out,t ∉ ps)->(argsL ps l out).Nodup/\∀ t ∈ argsL ps l out,t ∉ ps
 | [],_,h,hd=>⟨h,hd⟩
 | a :: r,out,h,hd=>by
  have:=addF_nodup (s:=a.name) h hd
  exact argsL_nodup r _ this.1 this.2
theorem localsL_nodup {ps:List ByteArray}:∀ (l:List InstrD) (out:List ByteArray),out.Nodup->(∀ t ∈ out,t ∉ ps)->(localsL ps l out).Nodup/\∀ t ∈ localsL ps l out,t ∉ ps
 | [],_,h,hd=>⟨h,hd⟩
 | x :: r,out,h,hd=>by
  have h1:=addF_nodup (s:=x.dst) h hd
  have h2:=argsL_nodup x.args _ h1.1 h1.2
  exact localsL_nodup r _ h2.1 h2.2
theorem placesOf_nodup {f:Int} {l:List ByteArray} (h:l.Nodup):(placesOf f l).Nodup:=by
 unfold placesOf
 exact List.Pairwise.map _ (fun a b e he=>e (by simpa using he)) h
theorem funPlaces_nodup {i:Int} {x:FuncD} (h:x.params.Nodup):(funPlaces i x).Nodup:=by
 unfold funPlaces
 have hl:=localsL_nodup (ps:=x.params) x.code [] List.nodup_nil (fun t ht=>by cases ht)
 refine List.nodup_append.2 ⟨placesOf_nodup h,placesOf_nodup hl.1,fun a ha b hb e=>?_⟩
 unfold placesOf at ha hb
 obtain ⟨s,hs,rfl⟩:=List.mem_map.1 ha
 obtain ⟨t,ht,rfl⟩:=List.mem_map.1 hb
 simp only [Prod.mk.injEq,true_and] at e
 exact hl.2 t ht (e ▸ hs)
theorem funPlaces_fst {i:Int} {x:FuncD} {q:Int × ByteArray} (h:q ∈ funPlaces i x):q.1=i:=by
 unfold funPlaces placesOf at h
 rcases List.mem_append.1 h with h|h
 ·obtain ⟨s,_,rfl⟩:=List.mem_map.1 h;rfl
 ·obtain ⟨s,_,rfl⟩:=List.mem_map.1 h;rfl
theorem placesF_fst:∀ (l:List FuncD) (i:Nat) (q:Int × ByteArray),q ∈ placesF i l->(i:Int)<=q.1
 | [],_,_,h=>by cases h
 | x :: r,i,q,h=>by
  rw [placesF] at h
  rcases List.mem_append.1 h with h|h
  ·rw [funPlaces_fst h];exact Int.le_refl _
  ·have:=placesF_fst r (i+1) q h;omega
theorem placesF_nodup:∀ (l:List FuncD) (i:Nat),(∀ f ∈ l,f.params.Nodup)->(placesF i l).Nodup
 | [],_,_=>List.nodup_nil
 | x :: r,i,h=>by
  rw [placesF]
  refine List.nodup_append.2 ⟨funPlaces_nodup (h x (by simp)),placesF_nodup r (i+1) (fun f hf=>h f (by simp [hf])),fun a ha b hb e=>?_⟩
  have h1:=funPlaces_fst ha
  have h2:=placesF_fst r (i+1) b hb
  rw [e] at h1
  omega
theorem placesP_nodup {p:ProgD} (H:WfP p):(placesP p).Nodup:=by
 unfold placesP
 refine List.nodup_append.2 ⟨placesOf_nodup (localsL_nodup p.main [] List.nodup_nil (fun t ht=>by cases ht)).1,placesF_nodup p.funcs 0 (fun f hf=>(H.fs f hf).2.2.1.1),fun a ha b hb e=>?_⟩
 unfold placesOf at ha
 obtain ⟨s,_,rfl⟩:=List.mem_map.1 ha
 have h2:=placesF_fst _ _ b hb
 rw [<- e] at h2
 simp at h2
theorem placesF_len:∀ (l:List FuncD) (i:Nat),(∀ f ∈ l,f.params.length<=32/\f.code.length<=1024/\∀ x ∈ f.code,x.args.length<=32)->(placesF i l).length<=l.length * 33824
 | [],_,_=>by simp [placesF]
 | x :: r,i,h=>by
  rw [placesF,List.length_append,List.length_cons]
  have h1:=placesF_len r (i+1) (fun f hf=>h f (by simp [hf]))
  obtain ⟨h2,h3,h4⟩:=h x (by simp)
  have h5:=localsL_len x.params x.code [] h4
  have h6:(funPlaces i x).length<=33824:=by
   unfold funPlaces placesOf
   rw [List.length_append,List.length_map,List.length_map]
   simp only [List.length_nil] at h5
   omega
  omega
theorem placesP_len {p:ProgD} (h:checkF p=none):(placesP p).length<=2000000:=by
 have hW:=wfP_of h
 obtain ⟨h1,h2⟩:=check_none h
 unfold placesP
 rw [List.length_append]
 have h3:=placesF_len p.funcs 0 h2
 have h4:=localsL_len [] p.main [] h1.2
 have h5:=hW.fl
 unfold placesOf
 rw [List.length_map]
 simp only [List.length_nil] at h4
 omega
end Go.Proofs.YtgllkgedjplpdaaGreatDoor
