/- Maps whose keys are of any plain kind, as lists of pairs of values: what a look-up and a store do, at the operations. Conditions: the maker's block, the registers and the program lie in memory as is said. -/
import Derived.Maps.OwnOps
import Derived.Maps.OwnSet
import Derived.DeepKeys4
import Derived.OwnWalk
import Derived.WalkKit
import Derived.Test.YtgllkgedjplpdaaGreatDoorSpec
import Derived.Test.YtgllkgedjplpdaaGreatDoorFlI
import Derived.Test.YtgllkgedjplpdaaGreatDoorMixK
import Derived.Test.YtgllkgedjplpdaaGreatDoorPu2
import Derived.Test.YtgllkgedjplpdaaGreatDoorMWd
import Derived.Maps.AppendAt
import Derived.Deep.CutBlock
import Derived.Deep.CutRange
import Derived.Laws.Bits64
import Derived.Laws.OwnMore
set_option linter.all false
set_option maxRecDepth 1000000
set_option maxHeartbeats 12800000
set_option linter.unusedVariables false
set_option linter.unusedSimpArgs false
namespace Go.Proofs.YtgllkgedjplpdaaGreatDoor
open Go.Maps (Keyed string_keyed int_keyed)
open Go.WideShapes Go.ChangeMaps Go.MapKept Go.WideMaps Go.ChangeAt Go.RowKit Go.ChangeShapes
def MapG (P:Program) (k:TypeId) (w:World) (b:Nat) (L:List (Value × Value)):Prop:=
 ∃ es clock,w.heap[b]?=some (.map es clock)/\es.toList.map (fun e=>(e.key,e.val))=L/\∀ p ∈ L,∃ l,keyOf P k p.1=some l
section
variable {P:Program} {k:TypeId} {w:World} {b:Nat} {L:List (Value × Value)}
theorem MapG.lt (h:MapG P k w b L):b<w.heap.size:=by
 obtain ⟨es,clock,hb,_⟩:=h
 exact (aE hb).1
theorem MapG.at (h:MapG P k w b L) {w':World} (e:w'.heap[b]?=w.heap[b]?):MapG P k w' b L:=by
 obtain ⟨es,clock,hb,r⟩:=h
 exact ⟨es,clock,e.trans hb,r⟩
theorem MapG.keep (h:MapG P k w b L) {w':World} (kk:Below w.heap.size w w'):MapG P k w' b L:=h.at (kk.block b h.lt)
theorem MapG.fresh {w:World} {b:Nat} (h:w.heap[b]?=some (.map #[] 0)):MapG P k w b []:=⟨#[],0,h,rfl,fun _ h=>nomatch h⟩
theorem MapG.find (K:Keyed P k) (h:MapG P k w b L) (x:Value) {lx:Lit} (hx:keyOf P k x=some lx) :
  ∃ es clock,w.heap[b]?=some (.map es clock)/\es.toList.map (fun e=>(e.key,e.val))=L /\
   (((Instr.findKey k x es.toList).run P w=.ok none w/\∀ p ∈ L,p.1 ≠ x) \/
     ∃ j v,(Instr.findKey k x es.toList).run P w=.ok (some (j,v)) w/\L[j]?=some (x,v)/\∃ e,es[j]?=some e/\e.key=x/\e.val=v):=by
 obtain ⟨es,clock,hb,hm,hz⟩:=h
 refine ⟨es,clock,hb,hm,?_⟩
 have hkeys:∀ e ∈ es.toList,∃ l,keyOf P k e.key=some l:=by
  intro e he
  have h1:(e.key,e.val) ∈ L:=by rw [<- hm];exact List.mem_map.2 ⟨e,he,rfl⟩
  exact hz _ h1
 rcases K.find w hx es.toList hkeys with ⟨h1,h2⟩|⟨j,e,h1,h2,h3⟩
 ·refine .inl ⟨h1,fun p hp hps=>?_⟩
  rw [<- hm] at hp
  obtain ⟨e,he,h5⟩:=List.mem_map.1 hp
  exact h2 e he (by rw [<- hps,<- h5])
 ·refine .inr ⟨j,e.val,h1,?_,e,by simpa using h2,h3,rfl⟩
  rw [<- hm,List.getElem?_map,h2,<- h3];rfl
theorem MapG.lookup {t e:TypeId} (K:Keyed P k) (ht:P.underlying t=some (.map k e)) {z:Value} (hz:(zeroValue e).run P w=.ok z w) (h:MapG P k w b L) (x:Value) {lx:Lit} (hx:keyOf P k x=some lx) :
  ((Instr.lookup t (.map (some b)) x false).run P w=.ok z w/\∀ p ∈ L,p.1 ≠ x) \/
   ∃ v,(Instr.lookup t (.map (some b)) x false).run P w=.ok v w/\∃ j:Nat,L[j]?=some (x,v):=by
 obtain ⟨es,clock,hb,_,hf⟩:=h.find K x hx
 rcases hf with ⟨h1,h2⟩|⟨j,v,h1,h2,_⟩
 ·exact .inl ⟨by simp [Instr.lookup,run_underlying ht,MapKept.run_getObj_map hb,K.check w _ hx,h1,hz,Result.andThen],h2⟩
 ·exact .inr ⟨v,by simp [Instr.lookup,run_underlying ht,MapKept.run_getObj_map hb,K.check w _ hx,h1,Result.andThen],j,h2⟩
theorem MapG.store_new {t e:TypeId} (K:Keyed P k) (ht:P.underlying t=some (.map k e)) (h:MapG P k w b L) (x:Value) {lx:Lit} (hx:keyOf P k x=some lx) (v:Value) (hn:∀ p ∈ L,p.1 ≠ x) :
  ∃ w',(Instr.mapUpdate t (.map (some b)) x v).run P w=.ok () w'/\MapG P k w' b (L ++ [(x,v)])/\w.grownBy w' (some b)/\w'.heap.size=w.heap.size:=by
 have h0:=h
 obtain ⟨es,clock,hb,hm,hf⟩:=h.find K x hx
 obtain ⟨_,_,hb',_,hz⟩:=h0
 have hg:∀ o:Obj,w.grownBy (setBlock w b o) (some b):=fun o=>⟨rfl,rfl,rfl,by simp [setBlock],fun i _ hi=>heap_setBlock_other hb o (fun e=>hi (by rw [e]))⟩
 rcases hf with ⟨h1,h2⟩|⟨j,u,h1,h2,e0,he0,hke,hve⟩
 ·refine ⟨setBlock w b (.map (es.push ⟨x,v,clock⟩) (clock+1)),by simp [Instr.mapUpdate,run_underlying ht,MapKept.run_getObj_map hb,K.check w false hx,h1,MapKept.run_setObj_map _ hb,Result.andThen,setBlock],⟨_,_,heap_setBlock_same hb _,?_,?_⟩,hg _,by simp [setBlock]⟩
  ·rw [Array.toList_push,List.map_append,hm];rfl
  ·intro p hp
   rcases List.mem_append.1 hp with hp|hp
   ·exact hz p hp
   ·rw [List.mem_singleton] at hp;subst hp;exact ⟨_,hx⟩
 ·exact absurd rfl (hn _ (List.mem_of_getElem? h2))
theorem MapG.len (h:MapG P k w b L) {t e:TypeId} (ht:P.underlying t=some (.map k e)) (ty:TypeId):(Builtin.len_ #[t] ty #[.map (some b)]).run P w=.ok (.int .i64 L.length) w:=by
 obtain ⟨es,clock,hb,hm,_⟩:=h
 have hlen:es.size=L.length:=by have:=congrArg List.length hm;simpa using this
 simp [Builtin.len_,run_underlying ht,MapKept.run_getObj_map hb,Result.andThen,goInt,hlen]
end
section
variable {P:Program} {w:World} {ops:Array Oper} {rest:List Oper} {o:Oper} {a:Act} {Q:Exit->Act->World->Prop}
theorem wpList_mapG_store (hg:o.guard=none) (m x v:Operand) (t:TypeId) (hop:o.op=Op.mapUpdate t m x v) (k e:TypeId) (K:Keyed P k) (ht:P.underlying t=some (.map k e))
  (b:Nat) (L:List (Value × Value)) (hm:a.eval m=.map (some b)) (xv:Value) (hx:a.eval x=xv) (vv:Value) (hv:a.eval v=vv) {lx:Lit} (hk:keyOf P k xv=some lx) (h:MapG P k w b L) (hn:∀ p ∈ L,p.1 ≠ xv)
  (hK:∀ w',MapG P k w' b (L ++ [(xv,vv)])->w.grownBy w' (some b)->w'.heap.size=w.heap.size->wpList P ops Q rest (a.put o.dst undef) w'):wpList P ops Q (o :: rest) a w:=by
 refine wpList_plain hg fun K' hK'=>?_
 obtain ⟨w',hrun,r1,r2,r3⟩:=h.store_new K ht xv hk vv hn
 unfold Oper.wp
 simp [execOp,hop,hm,hx,hv,hrun,Result.andThen]
 exact hK' _ _ (hK w' r1 r2 r3)
end
open Go.Maps (Keyed string_keyed int_keyed)
open Go.WideShapes Go.ChangeMaps Go.MapKept Go.WideMaps Go.ChangeAt Go.RowKit Go.ChangeShapes
theorem laidOutQ:laidOutB Tryz.prog=true:=by kernel_rfl
theorem placeKeyed:Keyed Tryz.prog 165:=Keyed.of_law (deep_law_laid laidOutQ (m:=2) (by omega) (of_decide_eq_true (by kernel_rfl)) (by kernel_rfl) (by kernel_rfl))
abbrev plcV (f:Int) (s:ByteArray):Value:=.agg #[.int .i64 f,.string s]
theorem placeFormed (f:Int) (s:ByteArray):(plcV f s).formed Tryz.prog 165=true:=by kernel_rfl
theorem typesN:∃ n,Tryz.prog.types.size=n+1:=⟨Tryz.prog.types.size - 1,by have h:0<Tryz.prog.types.size:=of_decide_eq_true (by kernel_rfl);omega⟩
theorem plc_key (f:Int) (s:ByteArray) (hf:InI64 f) (hs:s.size<=maxLen):∃ l,keyOf Tryz.prog 165 (plcV f s)=some l:=by
 obtain ⟨n0,hn⟩:=typesN
 obtain ⟨n,rfl⟩:∃ n,n0=n+1:=⟨n0 - 1,by have h:1<Tryz.prog.types.size:=of_decide_eq_true (by kernel_rfl);omega⟩
 have h1:Tryz.prog.keyType 165=true:=by kernel_rfl
 have h2:=placeFormed f s
 have c0:Tryz.prog.cellsOf 165=2:=by kernel_rfl
 have c1:Tryz.prog.cellsOf 3=1:=by kernel_rfl
 have c2:Tryz.prog.cellsOf 9=1:=by kernel_rfl
 have hw:(Lit.int .i64 f).wf=true:=by simp [Lit.wf,IntKind.min,IntKind.max,IntKind.bits,IntKind.signed];exact hf
 have k1:Tryz.prog.keyLits (n+2) 3 [.int .i64 f]=some [.int .i64 f]:=by
  unfold Program.keyLits;simp only [Tryz.underlying3];simp [hw]
 have k2:Tryz.prog.keyLits (n+2) 9 [.string s]=some [.string s.data.toList]:=by
  unfold Program.keyLits;simp only [Tryz.underlying9];simp [hs]
 unfold keyOf
 rw [Tryz.underlying165]
 simp only
 rw [h1,h2]
 simp only [Bool.and_self,if_true]
 rw [hn]
 unfold Program.keyLits
 simp only [Tryz.underlying165]
 simp [Value.cells,c0,c1,c2,k1,k2]
def regFrom:Nat->List (Int × ByteArray)->List (Value × Value)
 | _,[]=>[]
 | i,q :: r=>(plcV q.1 q.2,.int .i64 (i:Nat)) :: regFrom (i+1) r
theorem regFrom_snoc (q:Int × ByteArray):∀ (R:List (Int × ByteArray)) (i:Nat),regFrom i (R ++ [q])=regFrom i R ++ [(plcV q.1 q.2,.int .i64 ((i+R.length:Nat):Int))]
 | [],i=>by simp [regFrom]
 | t :: r,i=>by
  rw [List.cons_append,regFrom,regFrom,regFrom_snoc q r (i+1),List.cons_append,List.length_cons,show i+1+r.length=i+(r.length+1) from by omega]
theorem regFrom_length:∀ (R:List (Int × ByteArray)) (i:Nat),(regFrom i R).length=R.length
 | [],_=>rfl
 | _ :: r,i=>by rw [regFrom,List.length_cons,regFrom_length r,List.length_cons]
theorem regFrom_get:∀ (R:List (Int × ByteArray)) (i j:Nat) (p:Value × Value),(regFrom i R)[j]?=some p->∃ q,R[j]?=some q/\p=(plcV q.1 q.2,.int .i64 ((i+j:Nat):Int))
 | [],_,_,_,h=>by simp [regFrom] at h
 | q :: r,i,0,p,h=>by
  simp [regFrom] at h
  exact ⟨q,rfl,by rw [<- h];rfl⟩
 | q :: r,i,j+1,p,h=>by
  simp only [regFrom,List.getElem?_cons_succ] at h
  obtain ⟨t,h1,h2⟩:=regFrom_get r (i+1) j p h
  exact ⟨t,by simpa using h1,by rw [h2,show i+1+j=i+(j+1) from by omega]⟩
theorem regFrom_mem {R:List (Int × ByteArray)} {i:Nat} {p:Value × Value} (h:p ∈ regFrom i R):∃ q ∈ R,p.1=plcV q.1 q.2:=by
 obtain ⟨j,hj⟩:=List.getElem?_of_mem h
 obtain ⟨q,h1,h2⟩:=regFrom_get R i j p hj
 exact ⟨q,List.mem_of_getElem? h1,by rw [h2]⟩
theorem regFrom_has {R:List (Int × ByteArray)} {i:Nat} {q:Int × ByteArray} (h:q ∈ R):∃ p ∈ regFrom i R,p.1=plcV q.1 q.2:=by
 induction R generalizing i with
 | nil=>cases h
 | cons t r ih=>
  rcases List.mem_cons.1 h with rfl|h
  ·exact ⟨_,List.mem_cons_self ..,rfl⟩
  ·obtain ⟨p,h1,h2⟩:=ih (i:=i+1) h
   exact ⟨p,List.mem_cons_of_mem _ h1,h2⟩
theorem plcV_inj {f g:Int} {s t:ByteArray} (h:plcV f s=plcV g t):(f,s)=(g,t):=by
 simp only [plcV,Value.agg.injEq,Array.mk.injEq,List.cons.injEq,Value.int.injEq,Value.string.injEq,true_and,and_true] at h
 rw [h.1,h.2]
theorem regN_at {R:List (Int × ByteArray)} (hd:R.Nodup) {f:Int} {s:ByteArray} {j:Nat} (h:R[j]?=some (f,s)):regN R f s=j:=by
 unfold regN
 have hj:=(lE h)
 have:R.findIdx? (fun q=>decide (q=(f,s)))=some j:=by
  rw [List.findIdx?_eq_some_iff_getElem]
  refine ⟨hj.1,by simpa using hj.2,fun i hi=>?_⟩
  simp only [decide_eq_true_eq,Bool.not_eq_true,decide_eq_false_iff_not]
  intro e
  have h1:R[i]'(Nat.lt_trans hi hj.1)=R[j]'hj.1:=by rw [e];exact hj.2.symm
  exact List.pairwise_iff_getElem.1 hd i j _ _ hi h1
 rw [this];rfl
theorem regN_none {R:List (Int × ByteArray)} {f:Int} {s:ByteArray} (h:(f,s) ∉ R):regN R f s=0:=by
 unfold regN
 have:R.findIdx? (fun q=>decide (q=(f,s)))=none:=by
  rw [List.findIdx?_eq_none_iff]
  intro q hq
  simp only [decide_eq_false_iff_not]
  exact fun e=>h (e ▸ hq)
 rw [this];rfl
def RegsIs (w:World) (b:Nat) (R:List (Int × ByteArray)):Prop:=MapG Tryz.prog 165 w b (regFrom 0 R)
theorem intZero (w:World):(zeroValue 3).run Tryz.prog w=.ok (.int .i64 0) w:=by kernel_rfl
theorem RegsIs.look {w:World} {b:Nat} {R:List (Int × ByteArray)} (h:RegsIs w b R) (hd:R.Nodup) (f:Int) (s:ByteArray) (hf:InI64 f) (hs:s.size<=maxLen) :
  (Instr.lookup 129 (.map (some b)) (plcV f s) false).run Tryz.prog w=.ok (.int .i64 (regN R f s:Nat)) w:=by
 obtain ⟨l,hl⟩:=plc_key f s hf hs
 rcases MapG.lookup placeKeyed Tryz.underlying129 (intZero w) h (plcV f s) hl with ⟨h1,h2⟩|⟨v,h1,j,h2⟩
 ·rw [regN_none (fun hm=>?_)]
  ·exact h1
  ·obtain ⟨p,h3,h4⟩:=regFrom_has (i:=0) hm
   exact h2 p h3 h4
 ·obtain ⟨q,h3,h4⟩:=regFrom_get R 0 j _ h2
  simp only [Prod.mk.injEq] at h4
  have e:=plcV_inj h4.1
  rw [regN_at hd (j:=j) (by rw [h3,e])]
  rw [h1,h4.2,Nat.zero_add]
theorem RegsIs.at {w w':World} {b:Nat} {R:List (Int × ByteArray)} (h:RegsIs w b R) (e:w'.heap[b]?=w.heap[b]?):RegsIs w' b R:=MapG.at h e
abbrev codeA (c:CodeD):Value:=.agg #[.int .u8 c.kind,.int .u8 c.op,.int .i64 c.dst,.int .i64 c.n,.int .i64 c.a.reg,.int .u64 c.a.num,.int .i64 c.b.reg,.int .u64 c.b.num]
abbrev refA (r:RefD):Value:=.agg #[.int .i64 r.reg,.int .u64 r.num]
def okC (c:CodeD):Prop:=InU8 c.kind/\InU8 c.op/\InI64 c.dst/\InI64 c.n/\InI64 c.a.reg/\InU64 c.a.num/\InI64 c.b.reg/\InU64 c.b.num
structure MkS where
 w0:World
 M:Nat
 rb:Nat
 E:EnvF
 ac:Option Addr
 kc:Nat
 aa:Option Addr
 ka:Nat
 af:Option Addr
 kf:Nat
 am:Option Addr
 km:Nat
 fc:Option Addr
 fk:Nat
 sa:Option Addr
 sk:Nat
 ra:Option Addr
 rk:Nat
 rg:Int
namespace MkS
abbrev cells (m:MkS) (kv:Value):Array Value:=#[.int .i64 m.E.p.width,.slice m.ac m.E.p.chans.length m.kc,.slice m.aa m.E.p.arrays.length m.ka,.slice m.af m.E.p.funcs.length m.kf,.slice m.am m.E.p.main.length m.km,.int .i64 m.E.p.width,.int .i64 m.rg,.slice m.fc m.E.p.chans.length m.fk,.slice m.sa m.E.S.length m.sk,.slice m.ra m.E.p.arrays.length m.rk,kv,.map (some m.rb)]
structure Ok (m:MkS):Prop where
 prog:RdProg none m.w0 m.E.p (.slice m.ac m.E.p.chans.length m.kc) (.slice m.aa m.E.p.arrays.length m.ka) (.slice m.af m.E.p.funcs.length m.kf) (.slice m.am m.E.p.main.length m.km)
 laid:Laid m.w0
 chk:checkF m.E.p=none
 nodup:m.E.R.Nodup
 rlen:m.E.R.length<=2000000
 wd:1<=m.E.p.width/\m.E.p.width<=64
structure At (m:MkS) (kv:Value) (C:List CodeD) (w:World):Prop where
 below:Below m.w0.heap.size m.w0 w
 hm:w.heap[m.M]?=some (.cells (m.cells kv) 131 (0,0))
 own:w.ownsRow m.w0.heap.size 58 8 kv C.length (C.flatMap cellsCode)
 ok:∀ c ∈ C,okC c
 regs:RegsIs w m.rb m.E.R
 sites:w.ownsRow m.w0.heap.size 9 1 (.slice m.sa m.E.S.length m.sk) m.E.S.length (m.E.S.flatMap strCells)
 sok:∀ s ∈ m.E.S,s.size<=maxLen
 slen:m.E.S.length<=100000
 lm:m.w0.heap.size<=m.M
def Grew (m:MkS) (kv kv':Value) (w w':World):Prop:=Turned (fun k=>k=m.M \/ kv.ownBlock=some k) w w'/\∀ k,kv'.ownBlock=some k->kv.ownBlock=some k \/ w.heap.size<=k
theorem Grew.trans {m:MkS} {a b c:Value} {w x y:World} (h:m.Grew a b w x) (k:m.Grew b c x y):m.Grew a c w y:=
 ⟨h.1.step k.1 fun i hi e=>by
  rcases e with e|e
  ·exact .inl e
  ·rcases h.2 i e with e|e
   ·exact .inr e
   ·omega,fun i e=>by
  rcases k.2 i e with e|e
  ·exact h.2 i e
  ·exact .inr (Nat.le_trans h.1.size e)⟩
theorem Grew.of_below {m:MkS} {a:Value} {w x:World} (h:Below w.heap.size w x):m.Grew a a w x:=⟨Turned.of_below h,fun _ e=>.inl e⟩
theorem At.keep {m:MkS} {kv:Value} {C:List CodeD} {w w':World} (h:m.At kv C w) (k:Below w.heap.size w w'):m.At kv C w':=
 ⟨bcomp h.below k,(k.block _ (aE h.hm).1).trans h.hm,own_below h.own k,h.ok,MapG.keep h.regs k,own_below h.sites k,h.sok,h.slen,h.lm⟩
theorem At.mlt {m:MkS} {kv:Value} {C:List CodeD} {w:World} (h:m.At kv C w):m.M<w.heap.size:=(aE h.hm).1
theorem At.c0 {m:MkS} {kv:Value} {C:List CodeD} {w:World} (h:m.At kv C w):w.cell? ⟨m.M,0,none⟩=some (.int .i64 m.E.p.width):=row_of h.hm 0 _ rfl
theorem At.c1 {m:MkS} {kv:Value} {C:List CodeD} {w:World} (h:m.At kv C w):w.cell? ⟨m.M,1,none⟩=some (.slice m.ac m.E.p.chans.length m.kc):=row_of h.hm 1 _ rfl
theorem At.c2 {m:MkS} {kv:Value} {C:List CodeD} {w:World} (h:m.At kv C w):w.cell? ⟨m.M,2,none⟩=some (.slice m.aa m.E.p.arrays.length m.ka):=row_of h.hm 2 _ rfl
theorem At.c3 {m:MkS} {kv:Value} {C:List CodeD} {w:World} (h:m.At kv C w):w.cell? ⟨m.M,3,none⟩=some (.slice m.af m.E.p.funcs.length m.kf):=row_of h.hm 3 _ rfl
theorem At.c4 {m:MkS} {kv:Value} {C:List CodeD} {w:World} (h:m.At kv C w):w.cell? ⟨m.M,4,none⟩=some (.slice m.am m.E.p.main.length m.km):=row_of h.hm 4 _ rfl
theorem At.c5 {m:MkS} {kv:Value} {C:List CodeD} {w:World} (h:m.At kv C w):w.cell? ⟨m.M,5,none⟩=some (.int .i64 m.E.p.width):=row_of h.hm 5 _ rfl
theorem At.c6 {m:MkS} {kv:Value} {C:List CodeD} {w:World} (h:m.At kv C w):w.cell? ⟨m.M,6,none⟩=some (.int .i64 m.rg):=row_of h.hm 6 _ rfl
theorem At.c7 {m:MkS} {kv:Value} {C:List CodeD} {w:World} (h:m.At kv C w):w.cell? ⟨m.M,7,none⟩=some (.slice m.fc m.E.p.chans.length m.fk):=row_of h.hm 7 _ rfl
theorem At.c8 {m:MkS} {kv:Value} {C:List CodeD} {w:World} (h:m.At kv C w):w.cell? ⟨m.M,8,none⟩=some (.slice m.sa m.E.S.length m.sk):=row_of h.hm 8 _ rfl
theorem At.c9 {m:MkS} {kv:Value} {C:List CodeD} {w:World} (h:m.At kv C w):w.cell? ⟨m.M,9,none⟩=some (.slice m.ra m.E.p.arrays.length m.rk):=row_of h.hm 9 _ rfl
theorem At.c10 {m:MkS} {kv:Value} {C:List CodeD} {w:World} (h:m.At kv C w):w.cell? ⟨m.M,10,none⟩=some (kv):=row_of h.hm 10 _ rfl
theorem At.c11 {m:MkS} {kv:Value} {C:List CodeD} {w:World} (h:m.At kv C w):w.cell? ⟨m.M,11,none⟩=some (.map (some m.rb)):=row_of h.hm 11 _ rfl
theorem At.prog {m:MkS} {kv:Value} {C:List CodeD} {w:World} (h:m.At kv C w) (H:m.Ok):RdProg none w m.E.p (.slice m.ac m.E.p.chans.length m.kc) (.slice m.aa m.E.p.arrays.length m.ka) (.slice m.af m.E.p.funcs.length m.kf) (.slice m.am m.E.p.main.length m.km):=H.prog.keep h.below
theorem At.laid {m:MkS} {kv:Value} {C:List CodeD} {w:World} (h:m.At kv C w) (H:m.Ok):Laid w:=H.laid.keep h.below
theorem regs_ne {w:World} {b g:Nat} {R:List (Int × ByteArray)} (h:RegsIs w b R) {cs:Array Value} {T:TypeId} (hc:w.heap[g]?=some (.cells cs T (0,0))):b ≠ g:=by
 intro e
 obtain ⟨es,cl,h',_⟩:=h
 rw [e,hc] at h';cases h'
theorem own_ne_regs {w:World} {base:Nat} {e:TypeId} {size:Nat} {v:Value} {n:Nat} {xs:List Value} (h:w.ownsRow base e size v n xs) {b:Nat} {R:List (Int × ByteArray)} (hm:RegsIs w b R):v.ownBlock ≠ some b:=by
 intro hk
 obtain ⟨_,cur,hb⟩:=own_is h hk
 obtain ⟨es,cl,h',_⟩:=hm
 rw [hb] at h';cases h'
theorem own_ne_own {w:World} {base base':Nat} {e e':TypeId} {size size':Nat} {v v':Value} {n n':Nat} {xs xs':List Value} (h:w.ownsRow base e size v n xs) (h':w.ownsRow base' e' size' v' n' xs') (he:e ≠ e') {k:Nat} (hk:v.ownBlock=some k):v'.ownBlock ≠ some k:=by
 intro hk'
 obtain ⟨_,cur,hb⟩:=own_is h hk
 obtain ⟨_,cur',hb'⟩:=own_is h' hk'
 rw [hb] at hb';simp at hb';exact he hb'.2
end MkS
theorem three_keepS {W w':World} {a b c:Nat} (ha:w'.heap[a]?=W.heap[a]?) (hb:w'.heap[b]?=W.heap[b]?) (hc:w'.heap[c]?=W.heap[c]?):∀ x ∈ [a,b,c],w'.heap[x]?=W.heap[x]?:=by
 intro x hx;simp only [List.mem_cons,List.not_mem_nil,or_false] at hx;rcases hx with rfl|rfl|rfl;exact ha;exact hb;exact hc
theorem put_any (m:MkS) (mb:Nat) (c:CodeD) (kv:Value) (C:List CodeD) (w:World) (h:m.At kv C w) (hmb:w.heap[mb]?=some (.cells #[.pointer (some ⟨m.M,0,none⟩)] 128 (0,0))) (hc:okC c) (hl:C.length<=2000000) :
  Calls Tryz.prog 104 #[codeA c,.pointer (some ⟨mb,0,none⟩)] w fun e w'=>e=.returned (.tuple #[])/\∃ kv',m.At kv' (C ++ [c]) w'/\m.Grew kv kv' w w':=by
 obtain ⟨i0,hi,hz0,hz1,hz2⟩:=info_parts infoCode
 have hb0:=(bR w.heap.size w).alloc (nR _) (.cells #[.int .u8 c.kind,.int .u8 c.op,.int .i64 c.dst,.int .i64 c.n,.int .i64 c.a.reg,.int .u64 c.a.num,.int .i64 c.b.reg,.int .u64 c.b.num] 58)
 have hg0:=heap_alloc_new w (.cells #[.int .u8 c.kind,.int .u8 c.op,.int .i64 c.dst,.int .i64 c.n,.int .i64 c.a.reg,.int .u64 c.a.num,.int .i64 c.b.reg,.int .u64 c.b.num] 58)
 have HA0:=Hd (h.keep hb0)
 have HMB0:=Hd ((hb0.block mb (aE hmb).1).trans hmb)
 have HB0:=Hd hb0
 have HX0:=Hd hg0
 have HC:=Hd hc
 have HLT:Hid (∀ k,kv.ownBlock=some k->k<w.heap.size):=fun k hk=>by
  obtain ⟨_,cur,hb⟩:=own_is h.own hk
  exact (aE hb).1
 clear h hmb hb0 hg0 hc
 go_enter Tryz.func104,Tryz.ntmps104
 go_upto_region 1 with fail
 generalize w.alloc (.cells #[.int .u8 c.kind,.int .u8 c.op,.int .i64 c.dst,.int .i64 c.n,.int .i64 c.a.reg,.int .u64 c.a.num,.int .i64 c.b.reg,.int .u64 c.b.num] 58)=W at *
 obtain ⟨x,hx⟩:∃ x,w.heap.size=x:=⟨_,rfl⟩
 rw [hx] at HX0 HLT
 rw [hx]
 have HWX:=Hd hx
 clear hx
 obtain ⟨k0,kc0,hkv,_⟩:=own_read HA0.out.own
 have HKV:=Hd hkv
 have l0:=keepS_cell (S:=[mb,m.M,x]) (by simp) (row_of HMB0.out 0 _ rfl)
 have l1:=keepS_cell (S:=[mb,m.M,x]) (by simp) (row_of HA0.out.hm 10 _ rfl)
 rw [hkv] at l1
 have e0:=keepS_cell (S:=[mb,m.M,x]) (by simp) (row_of HX0.out 0 _ rfl)
 have e1:=keepS_cell (S:=[mb,m.M,x]) (by simp) (row_of HX0.out 1 _ rfl)
 have e2:=keepS_cell (S:=[mb,m.M,x]) (by simp) (row_of HX0.out 2 _ rfl)
 have e3:=keepS_cell (S:=[mb,m.M,x]) (by simp) (row_of HX0.out 3 _ rfl)
 have e4:=keepS_cell (S:=[mb,m.M,x]) (by simp) (row_of HX0.out 4 _ rfl)
 have e5:=keepS_cell (S:=[mb,m.M,x]) (by simp) (row_of HX0.out 5 _ rfl)
 have e6:=keepS_cell (S:=[mb,m.M,x]) (by simp) (row_of HX0.out 6 _ rfl)
 have e7:=keepS_cell (S:=[mb,m.M,x]) (by simp) (row_of HX0.out 7 _ rfl)
 clear hkv
 refine wp_region_mixS [mb,m.M,x] (.one [0,1,2,3,4,5,6] 7 (.one [] 8 (tailOf [9,10,11,12]))) (fun j=>decide (9<=j)) (by kernel_rfl) (by kernel_rfl) rfl (by kernel_rfl) (fun _ d _ _ _ h=>by cases d <;> exact h) ?_
 have HBd:Hid (Below W.heap.size W W.drew):=(bR _ _).drew
 generalize W.drew=wn at *
 have hmbw:mb<W.heap.size:=(aE HMB0.out).1
 have hmw:m.M<W.heap.size:=HA0.out.mlt
 have hxw:x<W.heap.size:=(aE HX0.out).1
 have HKn:=Hd (three_keepS (HBd.out.block mb hmbw) (HBd.out.block m.M hmw) (HBd.out.block x hxw))
 refine mix_one (by simp only [opsOf,List.filterMap_cons,List.filterMap_nil,List.getElem?_toArray,List.getElem?_cons_succ,List.getElem?_cons_zero];rfl) ⟨_,keepS_of HKn.out⟩ ?_
 change wpQuiet _ _ _ _ [_,_,_,_,_,_,_] _
 (repeat (go_big_quiet_step (fail)))
 clear l0 l1 e0 e1 e2 e3 e4 e5 e6 e7
 refine wpQuiet_nil ?_
 refine mix_step rfl ?_
 go_wp2_with fail
 have HN:=Hd (heap_alloc_new wn (.cells #[.int .u8 c.kind,.int .u8 c.op,.int .i64 c.dst,.int .i64 c.n,.int .i64 c.a.reg,.int .u64 c.a.num,.int .i64 c.b.reg,.int .u64 c.b.num] 58))
 have hal2:Below wn.heap.size wn (wn.alloc (.cells #[.int .u8 c.kind,.int .u8 c.op,.int .i64 c.dst,.int .i64 c.n,.int .i64 c.a.reg,.int .u64 c.a.num,.int .i64 c.b.reg,.int .u64 c.b.num] 58)):=(bR _ _).alloc (nR _) _
 have HBn:=Hd (bcomp HBd.out hal2)
 have hs1:=HBd.out.size
 have HKa:=Hd (three_keepS (hal2.block mb (by omega)) (hal2.block m.M (by omega)) (hal2.block x (by omega)))
 clear hal2
 obtain ⟨gb,hgb⟩:∃ gb,wn.heap.size=gb:=⟨_,rfl⟩
 rw [hgb] at HN
 try rw [hgb]
 generalize wn.alloc (.cells #[.int .u8 c.kind,.int .u8 c.op,.int .i64 c.dst,.int .i64 c.n,.int .i64 c.a.reg,.int .u64 c.a.num,.int .i64 c.b.reg,.int .u64 c.b.num] 58)=wa at *
 have HKw:=Hd (fun b hb=>(HKa.out b hb).trans (HKn.out b hb):∀ b ∈ [mb,m.M,x],wa.heap[b]?=W.heap[b]?)
 have HAa:=Hd (HA0.out.keep HBn.out)
 clear hgb
 (first|refine ⟨fun _=>⟨_,keepS_of HKw.out⟩,?_⟩|refine ⟨⟨_,keepS_of HKw.out⟩,?_⟩)
 refine mix_now ?_
 refine mix_step rfl ?_
 try (simp only [Act.put,List.setIfInBounds_toArray,List.set_cons_succ,List.set_cons_zero,List.getElem_toArray,List.getElem_cons_succ,List.getElem_cons_zero])
 have HOWN:=Hd HAa.out.own
 rw [HKV.out] at HOWN
 refine wpList_append_own_at _ rfl (.tmp 8) (.tmp 10) 59 rfl m.w0.heap.size 58 i0 (.agg #[.int .u8 0,.int .u8 0,.int .i64 0,.int .i64 0,.int .i64 0,.int .u64 0,.int .i64 0,.int .u64 0]) 8 56 Tryz.underlying59 hi hz0 hz1 hz2 rfl (by decide) _ _ _ rfl HOWN.out ⟨gb,0,none⟩ 1 1 (cellsCode c) rfl rfl ?hnw ?hone ?h63 ?hby HAa.out.below.size ?_
 case hnw=>
  intro j u hu
  have e:(⟨gb,0,none⟩:Addr).add j=⟨gb,j,none⟩:=by simp [Addr.add];omega
  rw [e]
  exact row_of HN.out j u (by rw [<- List.getElem?_toArray] at hu;exact hu)
 case hone=>intro u hu;simp only [cellsCode,List.mem_cons,List.not_mem_nil,or_false] at hu;rcases hu with rfl|rfl|rfl|rfl|rfl|rfl|rfl|rfl <;> rfl
 case h63=>unfold maxLen;omega
 case hby=>omega
 intro v' w4 hown' hgrow _ hblk
 have hkb:∀ k,(Value.slice k0 C.length kc0).ownBlock=some k->k ≠ m.M/\k ≠ m.rb:=fun k hk=>⟨fun e=>MkS.own_ne_regs HOWN.out HAa.out.regs (by
   exfalso
   have:=own_ne_cells HOWN.out HAa.out.hm (by decide)
   exact this (by rw [hk,e])),fun e=>MkS.own_ne_regs HOWN.out HAa.out.regs (by rw [hk,e])⟩
 have HKB:=Hd hkb
 clear hkb
 have hma:m.M<wa.heap.size:=by have:=HBn.out.size;omega
 have hmba:mb<wa.heap.size:=by have:=HBn.out.size;omega
 have hmb_ne:(Value.slice k0 C.length kc0).ownBlock ≠ some mb:=own_ne_cells HOWN.out ((HKw.out mb (by simp)).trans HMB0.out) (by decide)
 have hT4:Turned (fun k=>(Value.slice k0 C.length kc0).ownBlock=some k) wa w4:=Turned.of_grown hgrow (fun b e=>e)
 have HT4:=Hd hT4
 have hm4:=(hT4.block m.M hma (fun e=>(HKB.out _ e).1 rfl)).trans HAa.out.hm
 have hxa:x<wa.heap.size:=by have:=HBn.out.size;omega
 have HKf:=Hd (three_keepS ((hT4.block mb hmba hmb_ne).trans (HKw.out mb (by simp))) ((hT4.block m.M hma (fun e=>(HKB.out _ e).1 rfl)).trans (HKw.out m.M (by simp))) ((hT4.block x hxa (fun e=>by have:=HLT.out x (by rw [HKV.out];exact e);omega)).trans (HKw.out x (by simp))))
 have HR4:Hid (RegsIs w4 m.rb m.E.R):=HAa.out.regs.at (hT4.block _ HAa.out.regs.lt (fun e=>(HKB.out _ e).2 rfl))
 have HS4:=Hd (own_turn HAa.out.sites hT4 (fun k hk=>MkS.own_ne_own HAa.out.sites HOWN.out (by decide) hk))
 obtain ⟨xa,xc,rfl,_⟩:=own_read hown'
 have HO4:=Hd hown'
 have HM4:=Hd hm4
 have HBK:=Hd hblk
 clear hown' hgrow hblk hT4 hmb_ne
 try (simp only [Act.put,List.setIfInBounds_toArray,List.set_cons_succ,List.set_cons_zero,List.getElem_toArray,List.getElem_cons_succ,List.getElem_cons_zero])
 (first|refine ⟨fun _=>⟨_,keepS_of HKf.out⟩,?_⟩|refine ⟨⟨_,keepS_of HKf.out⟩,?_⟩)
 have c10:=row_of hm4 10 kv rfl
 have f10:=frozen_of_row w4 m.M 10 _ _ hm4
 clear hm4
 refine mix_tail [9,10,11,12] [_,_,_,_] _ _ rfl rfl ?_
 simp only [Act.put,List.setIfInBounds_toArray,List.set_cons_succ,List.set_cons_zero,List.getElem_toArray,List.getElem_cons_succ,List.getElem_cons_zero]
 go_wp2_with fail
 go_end0
 have hsc:=setCell_turned w4 ⟨m.M,10,none⟩ (.slice xa (C.length+1) xc)
 have hnM:∀ k,(Value.slice xa (C.length+1) xc).ownBlock=some k->k ≠ m.M:=fun k hk e=>own_ne_cells HO4.out HM4.out (by decide) (by rw [hk,e])
 refine ⟨rfl,.slice xa (C.length+1) xc,⟨?_,?_,?_,?_,?_,?_,HA0.out.sok,HA0.out.slen,HA0.out.lm⟩,?_,?_⟩
 ·exact below_then (below_then HAa.out.below HT4.out HAa.out.below.size (fun i e=>(own_is HOWN.out e).1)) hsc (Nat.le_trans HAa.out.below.size HT4.out.size) (fun i e=>by rw [e];exact HA0.out.lm)
 ·rw [heap_setCell_same _ _ _ _ _ _ HM4.out]
  rfl
 ·have h1:=own_turn HO4.out hsc (fun k hk e=>hnM k hk e)
  rw [List.flatMap_append,List.length_append,List.length_singleton]
  simpa using h1
 ·intro d hd
  rcases List.mem_append.1 hd with hd|hd
  ·exact HA0.out.ok d hd
  ·rw [List.mem_singleton] at hd;subst hd;exact HC.out
 ·exact HR4.out.at (hsc.block _ HR4.out.lt (fun e=>MkS.regs_ne HR4.out HM4.out e))
 ·exact own_turn HS4.out hsc (fun k hk e=>own_ne_cells HS4.out HM4.out (by decide) (by rw [hk];exact congrArg some e))
 ·have h1:Turned (fun k=>k=m.M \/ kv.ownBlock=some k) w W:=Turned.of_below HB0.out
  rw [HKV.out]
  exact ((h1.mono fun i h=>by rw [<- HKV.out];exact h).trans (((Turned.of_below HBn.out).trans (HT4.out.mono fun i h=>.inr h)).trans (hsc.mono fun i h=>.inl h)))
 ·intro k hk
  rw [HKV.out]
  rcases HBK.out with e|e
  ·exact .inl (e.symm.trans hk)
  ·have h1:some k=some wa.heap.size:=hk.symm.trans e
   have h2:k=wa.heap.size:=Option.some.inj h1
   have:=HWX.out
   exact .inr (by have:=HBn.out.size;have:=HB0.out.size;omega)
structure MkS.Rd (m:MkS) (w:World):Prop where
 kv:∃ kv C,m.At kv C w
theorem trim_any (m:MkS) (kv:Value) (C:List CodeD) (v:Int) (w:World) (h:m.At kv C w) (h1:1<=m.E.p.width) (h2:m.E.p.width<=64) (hv:InU64 v) :
  Calls Tryz.prog 103 #[.pointer (some ⟨m.M,0,none⟩),.int .u64 v] w fun e w'=>e=.returned (.int .u64 (trimW m.E.p.width v))/\w=w':=by
 obtain ⟨n,hn⟩:∃ n:Nat,m.E.p.width=n:=⟨m.E.p.width.toNat,by omega⟩
 have c0:=h.c0
 rw [hn] at c0 h1 h2
 have HV:Hid (trimW m.E.p.width v=trimW n v):=by show _=_;rw [hn]
 rw [HV.out]
 clear HV hn h
 by_cases h64:n=64
 ·subst h64
  have HV:Hid (trimW ((64:Nat):Int) v=v):=rfl
  rw [HV.out]
  go_enter Tryz.func103,Tryz.ntmps103
  go_wp2_with fail
  go_ret
  exact ⟨rfl,rfl⟩
 ·have hb:((n:Int) == 64)=false:=by rw [beq_eq_false_iff_ne];omega
  have HA:=and_mask n (by omega) (by omega) v hv
  have HM:=mask_is n (by omega) (by omega)
  have HV:Hid (trimW (n:Int) v=v % 2 ^ n):=by
   show _=_
   unfold trimW
   rw [if_neg (by omega)];rfl
  rw [HV.out]
  have hp:=pow_lt n (by omega)
  have h0:(0:Int)<2 ^ n:=Int.pow_pos (by decide)
  have hw:IntKind.u64.wrap (2 ^ n)=(2:Int) ^ n:=by
   rw [IntKind.wrap_u64];exact Int.emod_eq_of_lt (by omega) (by omega)
  have hw2:IntKind.u64.wrap ((2:Int) ^ n - 1)=2 ^ n - 1:=by
   rw [IntKind.wrap_u64];exact Int.emod_eq_of_lt (by omega) (by omega)
  have HAA:=Hd HA
  clear HV hv h64 HM HA
  go_enter Tryz.func103,Tryz.ntmps103
  go_wp2_with fail
  go_ret
  exact ⟨by rw [<- HAA.out];rfl,rfl⟩
theorem idxS_at {s:ByteArray} {l:List ByteArray} {k:Nat} {x:ByteArray} (h:l[k]?=some x):idxS s (l.drop k) k=if s.toList == x.toList then (k:Int) else idxS s (l.drop (k+1)) (k+1):=idxS_step s x l k h
theorem toList_comm (a b:ByteArray):(a.toList == b.toList)=(b.toList == a.toList):=by rw [Bool.eq_iff_iff];simp;exact eq_comm
theorem arrIs (x:ArrD) (sb:Nat) (s:ByteArray) (w:World) (hc:w.cell? ⟨sb,0,none⟩=some (.string s)) :
  Calls Tryz.prog 125 #[.agg #[.string x.name,.int .i64 x.size],.pointer (some ⟨sb,0,none⟩)] w fun e w'=>e=.returned (.bool (s.toList == x.name.toList))/\Below w.heap.size w w':=by
 have HB:=Hd ((bR w.heap.size w).alloc (nR _) (.cells #[.string x.name,.int .i64 x.size] 96))
 have HC:=Hd (heap_alloc_new w (.cells #[.string x.name,.int .i64 x.size] 96))
 have HS:=Hd hc
 clear hc
 have HV:Hid ((s.toList == x.name.toList)=(x.name.toList == s.toList)):=toList_comm _ _
 go_enter Tryz.func125,Tryz.ntmps125
 go_upto_region 1 with fail
 generalize w.alloc (.cells #[.string x.name,.int .i64 x.size] 96)=W at *
 have c0:=row_of HC.out 0 (.string x.name) rfl
 have c1:=cell_keep HB.out HS.out
 go_wp2_with fail
 go_ret
 exact ⟨by rw [HV.out];rfl,HB.out⟩
theorem arrIndex (v:Value) (l:List ArrD) (s:ByteArray) (sb:Nat) (w:World) (h:RdArrs none w v l) (hc:w.cell? ⟨sb,0,none⟩=some (.string s)) :
  Calls Tryz.prog 124 #[v,.func (.func 125) #[] #[.pointer (some ⟨sb,0,none⟩)]] w fun e w'=>e=.returned (.int .i64 (idxS s (aNames l) 0))/\Below w.heap.size w w':=by
 obtain ⟨a,cp,rfl,⟨hl,_⟩,hr⟩:=id h
 have HR:=Hd hr
 have HS:=Hd hc
 have hal:(aNames l).length=l.length:=by unfold aNames;simp
 clear h hc hr
 go_enter Tryz.func124,Tryz.ntmps124
 go_wp2
 go_loopw [5,8] (fun _ i wr=>∃ k:Nat,k<=l.length/\i=.int .i64 k/\Hid (idxS s (aNames l) 0=idxS s ((aNames l).drop k) k)/\Below w.heap.size w wr) (fun _ i _=>l.length - (intOf i).toNat)
 case atStart=>exact ⟨0,Nat.zero_le _,rfl,rfl,bR _ _⟩
 case round=>
  obtain ⟨k,hk,rfl,HQ,hb⟩:=hrel
  obtain ⟨w1,rfl⟩:∃ x:World,x=wr:=⟨_,rfl⟩
  have HB:=Hd hb
  clear hb
  by_cases hlt:k<l.length
  ·have hlt1:(k:Int)<l.length:=by omega
   obtain ⟨x,hx⟩:∃ x,l[k]?=some x:=⟨_,lG hlt⟩
   obtain ⟨b,o,rfl,_,c0,c1,_⟩:=HR.out k x hx
   have d0:=cell_keepB HB.out c0 (block_lt_of_cell c0)
   have d1:=cell_keepB HB.out c1 (block_lt_of_cell c1)
   have hs:=idxS_at (s:=s) (l:=aNames l) (k:=k) (x:=x.name) (by unfold aNames;rw [List.getElem?_map,hx];rfl)
   have HI:=Hd (arrIs x sb s w1 (cell_keep HB.out HS.out))
   clear hx c0 c1 hal
   cases he:(s.toList == x.name.toList)
   ·rw [he,if_neg (by simp)] at hs
    rw [he] at HI
    have HN:=Hd (HQ.out.trans hs)
    clear hs he
    go_wp2_with (go_at_call 125;refine HI.out.mono ?_;rintro e w' ⟨rfl,hz⟩;have B1:=Hd (bcomp HB.out hz);clear hz)
    go_roundw
    case rel=>exact ⟨k+1,by omega,by go_num,HN,B1.out⟩
    case measure=>simp [intOf];omega
   ·rw [he,if_pos rfl] at hs
    rw [he] at HI
    have HN:=Hd (HQ.out.trans hs)
    clear hs he
    go_wp2_with (go_at_call 125;refine HI.out.mono ?_;rintro e w' ⟨rfl,hz⟩;have B1:=Hd (bcomp HB.out hz);clear hz)
    go_ret
    exact ⟨by rw [HN.out];rfl,B1.out⟩
  ·obtain rfl:k=l.length:=by omega
   have HN:Hid (idxS s (aNames l) 0=-1):=by
    show _=_
    rw [HQ.out,<- hal,List.drop_length];rfl
   have hlt1:¬ (l.length:Int)<l.length:=by omega
   clear hal
   go_wp2
   go_ret
   exact ⟨by rw [HN.out];rfl,HB.out⟩
theorem array_any (m:MkS) (H:m.Ok) (kv:Value) (C:List CodeD) (s:ByteArray) (w:World) (h:m.At kv C w) :
  Calls Tryz.prog 105 #[.pointer (some ⟨m.M,0,none⟩),.string s] w fun e w'=>e=.returned (.int .i64 (idxS s (aNames m.E.p.arrays) 0))/\Below w.heap.size w w':=by
 have hb0:=(bR w.heap.size w).alloc (nR _) (.cells #[.string s] 9)
 have hg0:=heap_alloc_new w (.cells #[.string s] 9)
 have h0:=h.keep hb0
 have HB:=Hd hb0
 have hmf:∀ (fn:Fn) (first cap:Array Value) (w:World),(Instr.makeFunc fn first cap).run Tryz.prog w=.ok (.func fn first cap) w:=fun _ _ _ _=>rfl
 clear h hb0
 go_enter Tryz.func105,Tryz.ntmps105
 go_upto_region 1 with fail
 generalize w.alloc (.cells #[.string s] 9)=W at *
 obtain ⟨x,hx⟩:∃ x,w.heap.size=x:=⟨_,rfl⟩
 have HX:=Hd hx
 rw [hx] at hg0
 rw [hx]
 have HI:=Hd (arrIndex _ m.E.p.arrays s x W (h0.prog H).2.1 (row_of hg0 0 _ rfl))
 have c2:=h0.c2
 clear hx hg0 h0
 go_wp2_with (go_at_call 124;refine HI.out.mono ?_;rintro e w' ⟨rfl,hz⟩;have B1:=Hd hz;clear hz)
 go_ret
 exact ⟨rfl,bcomp HB.out B1.out⟩
theorem ext_look {W:World} {b:Nat} {R:List (Int × ByteArray)} (h:RegsIs W b R) (hd:R.Nodup) (f:Int) (s:ByteArray) (hf:InI64 f) (hs:s.size<=maxLen) (n:Int) (hn:((regN R f s:Nat):Int)=n) (x:World) :
  (Instr.lookup 129 (.map (some b)) (plcV f s) false).run Tryz.prog (ext W x)=.ok (.int .i64 n) (ext W x):=by
 rw [<- hn];exact RegsIs.look (MapG.keep h (ext_below W x)) hd f s hf hs
theorem ref_any (m:MkS) (H:m.Ok) (kv:Value) (C:List CodeD) (f:Int) (a:ArgD) (mb fb:Nat) (w:World) (h:m.At kv C w) (hmb:w.heap[mb]?=some (.cells #[.pointer (some ⟨m.M,0,none⟩)] 128 (0,0)))
  (hfb:w.heap[fb]?=some (.cells #[.int .i64 f] 3 (0,0))) (hf:InI64 f) (ha:InU64 a.num/\a.name.size<=maxLen) :
  Calls Tryz.prog 102 #[.agg #[.string a.name,.int .u64 a.num],.pointer (some ⟨mb,0,none⟩),.pointer (some ⟨fb,0,none⟩)] w fun e w'=>e=.returned (refA (m.E.ref f a))/\Below w.heap.size w w':=by
 have hx2:=heap2_of (w:=w) (A:=.cells #[.string a.name,.int .u64 a.num] 47) (B:=.cells #[.int .i64 0,.int .u64 0] 56) (bR _ _)
 obtain ⟨hx0,hx1,hb0⟩:=hx2
 have h0:=h.keep hb0
 have c0:=row_of ((hb0.block mb (aE hmb).1).trans hmb) 0 _ rfl
 have c1:=row_of ((hb0.block fb (aE hfb).1).trans hfb) 0 (.int .i64 f) rfl
 have HB:=Hd hb0
 have HX1:=Hd hx1
 have HA0:=Hd h0
 have c2:=row_of hx0 0 (.string a.name) rfl
 have c3:=row_of hx0 1 (.int .u64 a.num) rfl
 have c4:=row_of hx1 0 (.int .i64 0) rfl
 have c5:=row_of hx1 1 (.int .u64 0) rfl
 have c6:=h0.c11
 have HT:=Hd (fun (z:World) (k:m.At kv C z)=>trim_any m kv C a.num z k H.wd.1 H.wd.2 ha.1)
 have HR:=Hd h0.regs
 have HD:=Hd H.nodup
 have HF:=Hd hf
 have HS:=Hd ha.2
 clear h hmb hfb hx0 hx1 hb0 h0 ha hf
 cases hemp:a.name.toList.isEmpty
 ·have HV:Hid (m.E.ref f a=⟨(regN m.E.R f a.name:Nat),0⟩):=by
   show _=_
   unfold EnvF.ref refF
   rw [hemp];rfl
  rw [HV.out]
  obtain ⟨n,hn⟩:∃ n:Int,((regN m.E.R f a.name:Nat):Int)=n:=⟨_,rfl⟩
  rw [hn]
  have HN:=Hd hn
  clear hn
  go_enter Tryz.func102,Tryz.ntmps102
  go_upto_region 1 with fail
  generalize (w.alloc (.cells #[.string a.name,.int .u64 a.num] 47)).alloc (.cells #[.int .i64 0,.int .u64 0] 56)=W at *
  go_upto_region 3 with fail
  clear c3 c4 c5 HT HV
  have hlook:=ext_look HR.out HD.out f a.name HF.out HS.out n HN.out
  have e0:=ext_cell c0
  have e1:=ext_cell c1
  have e2:=ext_cell c2
  have e6:=ext_cell c6
  clear c0 c1 c2 c6
  (refine wp_region_calm_tail 10 (by kernel_rfl) (by kernel_rfl) ?_; simp only [List.take_succ_cons, List.take_zero, List.drop_succ_cons, List.drop_zero]; (repeat (go_big_quiet_step (fail))); refine wpQuiet_nil ?_; intro wc hwc)
  clear e0 e1 e2 e6 hlook
  have hX:=(hwc.block _ (aE HX1.out).1).trans HX1.out
  go_wp2_with (refine wpList_store_row rfl 56 (.tmp 4) (.tmp 22) rfl (w.heap.size+1) #[.int .i64 n,.int .u64 0] rfl rfl 56 #[.int .i64 0,.int .u64 0] ?hs0 (by as_aux_lemma=>kernel_rfl) (by as_aux_lemma=>kernel_rfl) (by as_aux_lemma=>kernel_rfl) ?_;exact hX)
  refine bodyPost_ret (v:=.agg #[.int .i64 n,.int .u64 0]) (results_cell_row (P:=Tryz.prog) (fn:=Tryz.f102) rfl _ _ (w.heap.size+1) 56 _ (0,0) _ rfl (setRow_heap _ _ _ _ _ _ hX) Tryz.underlying56 rfl (by kernel_rfl)) rfl ⟨rfl,below_row (bcomp HB.out hwc) (by omega) _⟩
 ·have HV:Hid (m.E.ref f a=⟨-1,trimW m.E.p.width a.num⟩):=by
   show _=_
   unfold EnvF.ref refF
   rw [hemp];rfl
  rw [HV.out]
  obtain ⟨n,hn⟩:∃ n:Int,trimW m.E.p.width a.num=n:=⟨_,rfl⟩
  rw [hn] at HT ⊢
  clear hn HV
  go_enter Tryz.func102,Tryz.ntmps102
  go_upto_region 1 with fail
  generalize (w.alloc (.cells #[.string a.name,.int .u64 a.num] 47)).alloc (.cells #[.int .i64 0,.int .u64 0] 56)=W at *
  have hX:=HX1.out
  go_wp2_with (first|(go_at_call 103;refine (HT.out _ HA0.out).mono ?_;rintro e z ⟨rfl,rfl⟩)|(refine wpList_store_row rfl 56 (.tmp 4) (.tmp 12) rfl (w.heap.size+1) #[.int .i64 (-1),.int .u64 n] rfl rfl 56 #[.int .i64 0,.int .u64 0] ?hs1 (by as_aux_lemma=>kernel_rfl) (by as_aux_lemma=>kernel_rfl) (by as_aux_lemma=>kernel_rfl) ?_;exact hX))
  refine bodyPost_ret (v:=.agg #[.int .i64 (-1),.int .u64 n]) (results_cell_row (P:=Tryz.prog) (fn:=Tryz.f102) rfl _ _ (w.heap.size+1) 56 _ (0,0) _ rfl (setRow_heap _ _ _ _ _ _ hX) Tryz.underlying56 rfl (by kernel_rfl)) rfl ⟨rfl,below_row HB.out (by omega) _⟩
open Go.Maps (Keyed string_keyed int_keyed)
open Go.WideShapes Go.ChangeMaps Go.MapKept Go.WideMaps Go.ChangeAt Go.RowKit Go.ChangeShapes
def LabIs (w:World) (b:Nat) (L:List (ByteArray × Int)):Prop:=∃ M,IntsIs w b M/\M.Pairwise (fun p q=>p.1 ≠ q.1)/\∀ s,atL s M=atL s L
theorem LabIs.at {w w':World} {b:Nat} {L:List (ByteArray × Int)} (h:LabIs w b L) (e:w'.heap[b]?=w.heap[b]?):LabIs w' b L:=by
 obtain ⟨M,h1,h2⟩:=h;exact ⟨M,h1.at e,h2⟩
theorem LabIs.lt {w:World} {b:Nat} {L:List (ByteArray × Int)} (h:LabIs w b L):b<w.heap.size:=by
 obtain ⟨M,h1,_⟩:=h;exact h1.lt
theorem LabIs.fresh {w:World} {b:Nat} (h:w.heap[b]?=some (.map #[] 0)):LabIs w b []:=⟨[],ints_none h,List.Pairwise.nil,fun _=>rfl⟩
theorem atL_mem {s:ByteArray} {M:List (ByteArray × Int)} (hd:M.Pairwise (fun p q=>p.1 ≠ q.1)) {n:Int} (h:(s,n) ∈ M):atL s M=some n:=by
 induction M with
 | nil=>cases h
 | cons p r ih=>
  obtain ⟨h1,h2⟩:=List.pairwise_cons.1 hd
  unfold atL
  rw [List.find?_cons]
  rcases List.mem_cons.1 h with rfl|h
  ·simp
  ·have:¬ p.1=s:=fun e=>h1 _ h e
   simp only [this,decide_false]
   have:=ih h2 h
   unfold atL at this
   exact this
theorem atL_not {s:ByteArray} {M:List (ByteArray × Int)} (h:∀ p ∈ M,p.1 ≠ s):atL s M=none:=by
 unfold atL
 rw [Option.map_eq_none_iff,List.find?_eq_none]
 intro p hp
 simpa using h p hp
theorem LabIs.look {P:Program} {k e t:TypeId} {w:World} {b:Nat} {L:List (ByteArray × Int)} (hk:P.underlying k=some .string) (ht:P.underlying t=some (.map k e)) (hz:(zeroValue e).run P w=.ok (.int .i64 0) w) (h:LabIs w b L) (s:ByteArray) (hs:s.size<=maxLen) :
  (Instr.lookup t (.map (some b)) (.string s) false).run P w=.ok (.int .i64 (lookL s L)) w:=by
 obtain ⟨M,h1,h2,h3⟩:=h
 unfold lookL
 rw [<- h3 s]
 rcases MapIs.lookup hk ht hz h1 s hs false with ⟨h4,h5⟩|⟨v,h4,h5⟩
 ·rw [atL_not (fun p hp=>h5 (p.1,.int .i64 p.2) (List.mem_map.2 ⟨p,hp,rfl⟩))]
  exact h4
 ·obtain ⟨p,hp,he⟩:=List.mem_map.1 h5
  cases he
  rw [atL_mem h2 hp]
  exact h4
theorem LabIs.store {P:Program} {k e t:TypeId} {w:World} {b:Nat} {L:List (ByteArray × Int)} (hk:P.underlying k=some .string) (ht:P.underlying t=some (.map k e)) (h:LabIs w b L) (s:ByteArray) (hs:s.size<=maxLen) (n:Int) :
  ∃ w',(Instr.mapUpdate t (.map (some b)) (.string s) (.int .i64 n)).run P w=.ok () w'/\LabIs w' b ((s,n) :: L)/\w.grownBy w' (some b)/\w'.heap.size=w.heap.size:=by
 obtain ⟨M,h1,h2,h3⟩:=h
 obtain ⟨w',L',r1,r2,r3,r4,r5⟩:=MapIs.store hk ht h1 s hs (.int .i64 n)
 refine ⟨w',r1,?_,r3,r4⟩
 rcases r5 with ⟨r5,rfl⟩|⟨j,u,r5,rfl⟩
 ·have hno:∀ p ∈ M,p.1 ≠ s:=fun p hp=>r5 (p.1,.int .i64 p.2) (List.mem_map.2 ⟨p,hp,rfl⟩)
  refine ⟨M ++ [(s,n)],by unfold IntsIs;rw [List.map_append];exact r2,List.pairwise_append.2 ⟨h2,List.pairwise_singleton _ _,fun a ha b hb=>by rw [List.mem_singleton] at hb;subst hb;exact hno a ha⟩,fun t=>?_⟩
  by_cases e:s=t
  ·subst e
   have h4:=atL_not hno
   unfold atL at h4 ⊢
   rw [Option.map_eq_none_iff] at h4
   rw [List.find?_append,h4]
   simp
  ·have h4:=h3 t
   unfold atL at h4 ⊢
   rw [List.find?_append,List.find?_cons,List.find?_cons]
   simp only [e,decide_false,List.find?_nil,Option.or_none]
   exact h4
 ·rw [List.getElem?_map] at r5
  cases hj:M[j]? with
  | none=>rw [hj] at r5;cases r5
  | some p=>
   rw [hj] at r5
   simp only [Option.map_some,Option.some.injEq,Prod.mk.injEq] at r5
   obtain ⟨rfl,_⟩:=r5
   have hjl:=(lE hj).1
   have hk':(M.set j (p.1,n)).map Prod.fst=M.map Prod.fst:=by
    rw [List.map_set]
    apply List.ext_getElem?
    intro i
    rw [List.getElem?_set]
    by_cases hij:j=i
    ·subst hij;simp [hjl,(lE hj).2]
    ·simp [hij]
   have hpw:(M.set j (p.1,n)).Pairwise (fun p q=>p.1 ≠ q.1):=by
    have h5:(M.map Prod.fst).Pairwise (· ≠ ·):=List.pairwise_map.2 h2
    rw [<- hk'] at h5
    exact List.pairwise_map.1 h5
   refine ⟨M.set j (p.1,n),by unfold IntsIs;rw [List.map_set];exact r2,hpw,fun t=>?_⟩
   by_cases e:p.1=t
   ·subst e
    rw [atL_mem hpw (n:=n) (List.mem_iff_getElem?.2 ⟨j,by rw [List.getElem?_set];simp [hjl]⟩)]
    unfold atL
    simp
   ·have h6:atL t ((p.1,n) :: L)=atL t L:=by unfold atL;simp [e]
    rw [h6,<- h3 t]
    cases hm:atL t M with
    | none=>
     refine atL_not fun q hq=>?_
     rcases List.mem_or_eq_of_mem_set hq with hq|hq
     ·intro e'
      have:atL t M=some q.2:=atL_mem h2 (by rw [<- e'];exact hq)
      rw [hm] at this;cases this
     ·subst hq;exact e
    | some v=>
     refine atL_mem hpw ?_
     unfold atL at hm
     obtain ⟨q,hq,hv⟩:=Option.map_eq_some_iff.1 hm
     have hqm:=List.mem_of_find?_eq_some hq
     have hqt:=List.find?_some hq
     simp only [decide_eq_true_eq] at hqt
     obtain ⟨i,hi⟩:=List.getElem?_of_mem hqm
     refine List.mem_iff_getElem?.2 ⟨i,?_⟩
     rw [List.getElem?_set]
     by_cases hij:j=i
     ·subst hij;rw [hj] at hi;cases hi;exact absurd hqt e
     ·rw [if_neg hij,hi,<- hqt,<- hv]
def namL (J:List (Nat × ByteArray)):List (Value × Value):=J.map fun q=>(.int .i64 (q.1:Nat),.string q.2)
def NamIs (w:World) (b:Nat) (J:List (Nat × ByteArray)):Prop:=MapG Tryz.prog 3 w b (namL J)
theorem intKey (n:Nat) (h:n<=9223372036854775807):∃ l,keyOf Tryz.prog 3 (.int .i64 (n:Nat))=some l:=
 ⟨_,Maps.keyOf_int_mk Tryz.underlying3 (by simp [Lit.wf,IntKind.min,IntKind.max,IntKind.bits,IntKind.signed];omega)⟩
theorem strZero (w:World):(zeroValue 9).run Tryz.prog w=.ok (.string ⟨#[]⟩) w:=by kernel_rfl
theorem NamIs.look {w:World} {b:Nat} {J:List (Nat × ByteArray)} (h:NamIs w b J) (hr:J.Pairwise (fun a b=>a.1<b.1)) {j k:Nat} {s:ByteArray} (hj:J[j]?=some (k,s)) (hk:k<=9223372036854775807) :
  (Instr.lookup 169 (.map (some b)) (.int .i64 (k:Nat)) false).run Tryz.prog w=.ok (.string s) w:=by
 obtain ⟨l,hl⟩:=intKey k hk
 rcases MapG.lookup (int_keyed Tryz.underlying3) Tryz.underlying169 (strZero w) h _ hl with ⟨h1,h2⟩|⟨v,h1,i,h2⟩
 ·exact absurd rfl (h2 (.int .i64 (k:Nat),.string s) (List.mem_map.2 ⟨(k,s),List.mem_of_getElem? hj,rfl⟩))
 ·unfold namL at h2
  rw [List.getElem?_map] at h2
  cases hi:J[i]? with
  | none=>rw [hi] at h2;cases h2
  | some q=>
   rw [hi] at h2
   simp only [Option.map_some,Option.some.injEq,Prod.mk.injEq,Value.int.injEq,true_and] at h2
   obtain ⟨h3,rfl⟩:=h2
   have h4:q.1=k:=by omega
   have hii:=lE hi
   have hjj:=lE hj
   have:i=j:=by
    rcases Nat.lt_trichotomy i j with h'|h'|h'
    ·have:=List.pairwise_iff_getElem.1 hr i j hii.1 hjj.1 h'
     rw [hii.2,hjj.2] at this
     simp only at this
     omega
    ·exact h'
    ·have:=List.pairwise_iff_getElem.1 hr j i hjj.1 hii.1 h'
     rw [hii.2,hjj.2] at this
     simp only at this
     omega
   subst this
   rw [hi] at hj
   cases hj
   exact h1
theorem NamIs.store {w:World} {b:Nat} {J:List (Nat × ByteArray)} (h:NamIs w b J) (k:Nat) (s:ByteArray) (hn:∀ q ∈ J,q.1<k) (hk:k<=9223372036854775807) :
  ∃ w',(Instr.mapUpdate 169 (.map (some b)) (.int .i64 (k:Nat)) (.string s)).run Tryz.prog w=.ok () w'/\NamIs w' b (J ++ [(k,s)])/\w.grownBy w' (some b)/\w'.heap.size=w.heap.size:=by
 obtain ⟨l,hl⟩:=intKey k hk
 obtain ⟨w',h1,h2,h3,h4⟩:=MapG.store_new (int_keyed Tryz.underlying3) Tryz.underlying169 h _ hl (.string s) (fun p hp e=>by
  obtain ⟨q,hq,rfl⟩:=List.mem_map.1 hp
  have:=hn q hq
  simp only [Value.int.injEq,true_and] at e
  omega)
 exact ⟨w',h1,by unfold NamIs namL;rw [List.map_append];exact h2,h3,h4⟩
structure BdS where
 m:MkS
 kv0:Value
 w:World
 B0:Nat
 mb:Nat
 fb:Nat
 lb:Nat
 nb:Nat
 f:Int
namespace BdS
abbrev jCells (J:List (Nat × ByteArray)):List Value:=J.flatMap fun q=>[.int .i64 (q.1:Nat)]
abbrev tCells (T:List Nat):List Value:=T.flatMap fun k=>[.int .i64 (k:Nat)]
structure Ok (b:BdS):Prop where
 mok:b.m.Ok
 sf:InI64 b.f
 l1:b.w.heap.size<=b.mb/\b.mb<b.B0
 l2:b.w.heap.size<=b.fb/\b.fb<b.B0
 l3:b.w.heap.size<=b.lb/\b.lb<b.B0
 l4:b.w.heap.size<=b.nb/\b.nb<b.B0
 ln:b.lb ≠ b.nb
 rl:b.m.rb<b.w.heap.size
 wl:b.m.w0.heap.size<=b.w.heap.size
structure At (b:BdS) (kv jv tv:Value) (S:StF) (N:List (Nat × ByteArray)) (x:World):Prop where
 mak:b.m.At kv S.C x
 grew:b.m.Grew b.kv0 kv b.w x
 mbx:x.heap[b.mb]?=some (.cells #[.pointer (some ⟨b.m.M,0,none⟩)] 128 (0,0))
 fbx:x.heap[b.fb]?=some (.cells #[.int .i64 b.f] 3 (0,0))
 lab:LabIs x b.lb S.L
 nam:NamIs x b.nb N
 jo:x.ownsRow b.B0 3 1 jv S.J.length (jCells S.J)
 tor:x.ownsRow b.B0 3 1 tv S.T.length (tCells S.T)
 jt:∀ k,jv.ownBlock=some k->tv.ownBlock ≠ some k
 size:b.B0<=x.heap.size
theorem At.turn {b:BdS} {kv kv' jv tv:Value} {S:StF} {N:List (Nat × ByteArray)} {C:List CodeD} {x y:World} {T:Nat->Prop} (h:b.At kv jv tv S N x) (k:Turned T x y) (h1:¬ T b.mb) (h2:¬ T b.fb) (h3:¬ T b.lb) (h4:¬ T b.nb)
  (h5:∀ i,jv.ownBlock=some i->¬ T i) (h6:∀ i,tv.ownBlock=some i->¬ T i) (mk:b.m.At kv' C y) (gr:b.m.Grew b.kv0 kv' b.w y):b.At kv' jv tv { S with C:=C } N y:=
 ⟨mk,gr,(k.block _ (aE h.mbx).1 h1).trans h.mbx,(k.block _ (aE h.fbx).1 h2).trans h.fbx,h.lab.at (k.block _ h.lab.lt h3),MapG.at h.nam (k.block _ (MapG.lt h.nam) h4),
  own_turn h.jo k h5,own_turn h.tor k h6,h.jt,Nat.le_trans h.size k.size⟩
theorem At.keep {b:BdS} {kv jv tv:Value} {S:StF} {N:List (Nat × ByteArray)} {x y:World} (h:b.At kv jv tv S N x) (k:Below x.heap.size x y):b.At kv jv tv S N y:=
 h.turn (T:=fun _=>False) (C:=S.C) (Turned.of_below k) id id id id (fun _ _=>id) (fun _ _=>id) (h.mak.keep k) (h.grew.trans (MkS.Grew.of_below k))
theorem lab_ne {x:World} {b g:Nat} {L:List (ByteArray × Int)} (h:LabIs x b L) {cs:Array Value} {T:TypeId} (hc:x.heap[g]?=some (.cells cs T (0,0))):b ≠ g:=by
 obtain ⟨M,h1,_⟩:=h;exact map_ne_cells h1 hc
theorem nam_ne {x:World} {b g:Nat} {J:List (Nat × ByteArray)} (h:NamIs x b J) {cs:Array Value} {T:TypeId} (hc:x.heap[g]?=some (.cells cs T (0,0))):b ≠ g:=by
 intro e
 obtain ⟨es,cl,h',_⟩:=h
 rw [e,hc] at h';cases h'
theorem own_ne_lab {w:World} {base:Nat} {e:TypeId} {size:Nat} {v:Value} {n:Nat} {xs:List Value} (h:w.ownsRow base e size v n xs) {b:Nat} {L:List (ByteArray × Int)} (hm:LabIs w b L):v.ownBlock ≠ some b:=by
 obtain ⟨M,h1,_⟩:=hm;exact own_ne_map h h1
theorem own_ne_nam {w:World} {base:Nat} {e:TypeId} {size:Nat} {v:Value} {n:Nat} {xs:List Value} (h:w.ownsRow base e size v n xs) {b:Nat} {J:List (Nat × ByteArray)} (hm:NamIs w b J):v.ownBlock ≠ some b:=by
 intro hk
 obtain ⟨_,cur,hb⟩:=own_is h hk
 obtain ⟨es,cl,h',_⟩:=hm
 rw [hb] at h';cases h'
theorem At.made {b:BdS} {kv kv' jv tv:Value} {S:StF} {N:List (Nat × ByteArray)} {C:List CodeD} {x y:World} (h:b.At kv jv tv S N x) (mk:b.m.At kv' C y) (gr:b.m.Grew kv kv' x y):b.At kv' jv tv { S with C:=C } N y:=by
 refine h.turn gr.1 ?_ ?_ ?_ ?_ ?_ ?_ mk (h.grew.trans gr)
 ·rintro (e|e)
  ·have h1:=h.mbx;rw [e,h.mak.hm] at h1;simp at h1
  ·exact own_ne_cells h.mak.own h.mbx (by decide) e
 ·rintro (e|e)
  ·have h1:=h.fbx;rw [e,h.mak.hm] at h1;simp at h1
  ·exact own_ne_cells h.mak.own h.fbx (by decide) e
 ·rintro (e|e)
  ·exact lab_ne h.lab h.mak.hm e
  ·exact own_ne_lab h.mak.own h.lab e
 ·rintro (e|e)
  ·exact nam_ne h.nam h.mak.hm e
  ·exact own_ne_nam h.mak.own h.nam e
 ·rintro i hi (e|e)
  ·exact own_ne_cells h.jo h.mak.hm (by decide) (by rw [hi,e])
  ·exact MkS.own_ne_own h.jo h.mak.own (by decide) hi e
 ·rintro i hi (e|e)
  ·exact own_ne_cells h.tor h.mak.hm (by decide) (by rw [hi,e])
  ·exact MkS.own_ne_own h.tor h.mak.own (by decide) hi e
theorem At.mkTurn {b:BdS} (H:b.Ok) {kv jv tv:Value} {S:StF} {N:List (Nat × ByteArray)} {x y:World} {T:Nat->Prop} (h:b.At kv jv tv S N x) (k:Turned T x y) (hg:∀ i,T i->b.w.heap.size<=i) (h1:¬ T b.m.M) (h2:∀ i,kv.ownBlock=some i->¬ T i) (h4:∀ i,(Value.slice b.m.sa b.m.E.S.length b.m.sk).ownBlock=some i->¬ T i) :
  b.m.At kv S.C y/\b.m.Grew b.kv0 kv b.w y:=
 ⟨⟨below_then h.mak.below k h.mak.below.size (fun i e=>Nat.le_trans H.wl (hg i e)),(k.block _ h.mak.mlt h1).trans h.mak.hm,own_turn h.mak.own k h2,h.mak.ok,h.mak.regs.at (k.block _ (MapG.lt h.mak.regs) (fun e=>by have:=hg _ e;have:=H.rl;omega)),
  own_turn h.mak.sites k h4,h.mak.sok,h.mak.slen,h.mak.lm⟩,
 ⟨h.grew.1.step k fun i hi e=>by have:=hg i e;omega,h.grew.2⟩⟩
theorem own_ge' {w:World} {base:Nat} {e:TypeId} {size:Nat} {v:Value} {n:Nat} {xs:List Value} (h:w.ownsRow base e size v n xs) {k:Nat} (hk:v.ownBlock=some k):base<=k:=(own_is h hk).1
theorem At.labelled {b:BdS} (H:b.Ok) {kv jv tv:Value} {S:StF} {N:List (Nat × ByteArray)} {L:List (ByteArray × Int)} {x y:World} (h:b.At kv jv tv S N x) (hl:LabIs y b.lb L) (g:x.grownBy y (some b.lb)):b.At kv jv tv { S with L:=L } N y:=by
 have k:Turned (fun i=>i=b.lb) x y:=Turned.of_grown g fun c e=>(Option.some.inj e).symm
 obtain ⟨mk,gr⟩:=h.mkTurn H k (fun i e=>by rw [e];exact H.l3.1) (fun e=>lab_ne h.lab h.mak.hm e.symm) (fun i hi e=>own_ne_lab h.mak.own h.lab (by rw [hi,e])) (fun i hi e=>own_ne_lab h.mak.sites h.lab (by rw [hi,e]))
 exact ⟨mk,gr,(k.block _ (aE h.mbx).1 (fun e=>lab_ne h.lab h.mbx e.symm)).trans h.mbx,(k.block _ (aE h.fbx).1 (fun e=>lab_ne h.lab h.fbx e.symm)).trans h.fbx,hl,MapG.at h.nam (k.block _ (MapG.lt h.nam) (fun e=>H.ln e.symm)),
  own_turn h.jo k (fun i hi e=>own_ne_lab h.jo h.lab (by rw [hi,e])),own_turn h.tor k (fun i hi e=>own_ne_lab h.tor h.lab (by rw [hi,e])),h.jt,Nat.le_trans h.size k.size⟩
theorem At.named {b:BdS} (H:b.Ok) {kv jv tv:Value} {S:StF} {N N':List (Nat × ByteArray)} {x y:World} (h:b.At kv jv tv S N x) (hl:NamIs y b.nb N') (g:x.grownBy y (some b.nb)):b.At kv jv tv S N' y:=by
 have k:Turned (fun i=>i=b.nb) x y:=Turned.of_grown g fun c e=>(Option.some.inj e).symm
 obtain ⟨mk,gr⟩:=h.mkTurn H k (fun i e=>by rw [e];exact H.l4.1) (fun e=>nam_ne h.nam h.mak.hm e.symm) (fun i hi e=>own_ne_nam h.mak.own h.nam (by rw [hi,e])) (fun i hi e=>own_ne_nam h.mak.sites h.nam (by rw [hi,e]))
 exact ⟨mk,gr,(k.block _ (aE h.mbx).1 (fun e=>nam_ne h.nam h.mbx e.symm)).trans h.mbx,(k.block _ (aE h.fbx).1 (fun e=>nam_ne h.nam h.fbx e.symm)).trans h.fbx,h.lab.at (k.block _ h.lab.lt H.ln),hl,
  own_turn h.jo k (fun i hi e=>own_ne_nam h.jo h.nam (by rw [hi,e])),own_turn h.tor k (fun i hi e=>own_ne_nam h.tor h.nam (by rw [hi,e])),h.jt,Nat.le_trans h.size k.size⟩
theorem At.jumped {b:BdS} (H:b.Ok) {kv jv tv v':Value} {S:StF} {N:List (Nat × ByteArray)} {x y:World} {q:Nat × ByteArray} (h:b.At kv jv tv S N x) (ho:y.ownsRow b.B0 3 1 v' (S.J.length+1) (jCells S.J ++ [.int .i64 (q.1:Nat)])) (g:x.grownBy y jv.ownBlock) (hb:v'.ownBlock=jv.ownBlock \/ v'.ownBlock=some x.heap.size) :
  b.At kv v' tv { S with J:=S.J ++ [q] } N y:=by
 have k:Turned (fun i=>jv.ownBlock=some i) x y:=Turned.of_grown g fun c e=>e
 have hge:∀ i,jv.ownBlock=some i->b.B0<=i:=fun i hi=>own_ge' h.jo hi
 have a1:=H.l1;have a2:=H.l2;have a3:=H.l3;have a4:=H.l4
 obtain ⟨mk,gr⟩:=h.mkTurn H k (fun i e=>by have:=hge i e;omega) (fun e=>own_ne_cells h.jo h.mak.hm (by decide) e) (fun i hi e=>MkS.own_ne_own h.jo h.mak.own (by decide) e hi) (fun i hi e=>MkS.own_ne_own h.jo h.mak.sites (by decide) e hi)
 refine ⟨mk,gr,(k.block _ (aE h.mbx).1 (fun e=>by have:=hge _ e;omega)).trans h.mbx,(k.block _ (aE h.fbx).1 (fun e=>by have:=hge _ e;omega)).trans h.fbx,h.lab.at (k.block _ h.lab.lt (fun e=>by have:=hge _ e;omega)),MapG.at h.nam (k.block _ (MapG.lt h.nam) (fun e=>by have:=hge _ e;omega)),?_,own_turn h.tor k (fun i hi e=>h.jt i e hi),?_,Nat.le_trans h.size k.size⟩
 ·have e1:jCells (S.J ++ [q])=jCells S.J ++ [.int .i64 (q.1:Nat)]:=by unfold jCells;simp
  show y.ownsRow _ _ _ _ (S.J ++ [q]).length (jCells (S.J ++ [q]))
  rw [e1,List.length_append,List.length_singleton];exact ho
 ·intro i hi ht
  rcases hb with e|e
  ·exact h.jt i (e.symm.trans hi) ht
  ·have h1:i=x.heap.size:=Option.some.inj (hi.symm.trans e)
   obtain ⟨_,cur,hc⟩:=own_is h.tor ht
   have:=(aE hc).1
   omega
theorem At.returned {b:BdS} (H:b.Ok) {kv jv tv v':Value} {S:StF} {N:List (Nat × ByteArray)} {x y:World} {q:Nat} (h:b.At kv jv tv S N x) (ho:y.ownsRow b.B0 3 1 v' (S.T.length+1) (tCells S.T ++ [.int .i64 (q:Nat)])) (g:x.grownBy y tv.ownBlock) (hb:v'.ownBlock=tv.ownBlock \/ v'.ownBlock=some x.heap.size) :
  b.At kv jv v' { S with T:=S.T ++ [q] } N y:=by
 have k:Turned (fun i=>tv.ownBlock=some i) x y:=Turned.of_grown g fun c e=>e
 have hge:∀ i,tv.ownBlock=some i->b.B0<=i:=fun i hi=>own_ge' h.tor hi
 have a1:=H.l1;have a2:=H.l2;have a3:=H.l3;have a4:=H.l4
 obtain ⟨mk,gr⟩:=h.mkTurn H k (fun i e=>by have:=hge i e;omega) (fun e=>own_ne_cells h.tor h.mak.hm (by decide) e) (fun i hi e=>MkS.own_ne_own h.tor h.mak.own (by decide) e hi) (fun i hi e=>MkS.own_ne_own h.tor h.mak.sites (by decide) e hi)
 refine ⟨mk,gr,(k.block _ (aE h.mbx).1 (fun e=>by have:=hge _ e;omega)).trans h.mbx,(k.block _ (aE h.fbx).1 (fun e=>by have:=hge _ e;omega)).trans h.fbx,h.lab.at (k.block _ h.lab.lt (fun e=>by have:=hge _ e;omega)),MapG.at h.nam (k.block _ (MapG.lt h.nam) (fun e=>by have:=hge _ e;omega)),own_turn h.jo k (fun i hi e=>h.jt i hi e),?_,?_,Nat.le_trans h.size k.size⟩
 ·have e1:tCells (S.T ++ [q])=tCells S.T ++ [.int .i64 (q:Nat)]:=by unfold tCells;simp
  show y.ownsRow _ _ _ _ (S.T ++ [q]).length (tCells (S.T ++ [q]))
  rw [e1,List.length_append,List.length_singleton];exact ho
 ·intro i hi ht
  rcases hb with e|e
  ·exact h.jt i hi (e.symm.trans ht)
  ·have h1:i=x.heap.size:=Option.some.inj (ht.symm.trans e)
   obtain ⟨_,cur,hc⟩:=own_is h.jo hi
   have:=(aE hc).1
   omega
end BdS
theorem code_mid (A B:List CodeD) (x:CodeD) (n:Int):((A ++ x :: B).flatMap cellsCode).set (A.length * 8+3) (.int .i64 n)=(A ++ { x with n:=n } :: B).flatMap cellsCode:=by
 have hA:(A.flatMap cellsCode).length=A.length * 8:=flat_length cellsCode 8 (fun _=>rfl) A
 rw [List.flatMap_append,List.flatMap_append,List.flatMap_cons,List.flatMap_cons,List.set_append,if_neg (by omega),hA,show A.length * 8+3 - A.length * 8=3 by omega]
 rfl
theorem code_set {C:List CodeD} {k:Nat} (hk:k<C.length) (n:Int):(C.flatMap cellsCode).set (k * 8+3) (.int .i64 n)=(EnvF.setN C k n).flatMap cellsCode:=by
 have hP:C=C.take k ++ C[k] :: C.drop (k+1):=by
  rw [<- List.drop_eq_getElem_cons hk,List.take_append_drop]
 have hl:(C.take k).length=k:=by rw [List.length_take];omega
 have h2:EnvF.setN C k n=C.take k ++ { C[k] with n:=n } :: C.drop (k+1):=by
  unfold EnvF.setN
  rw [List.modify_eq_take_cons_drop hk]
 rw [h2,<- code_mid (C.take k) (C.drop (k+1)) C[k] n,hl,<- hP]
theorem MkS.At.patched {m:MkS} {C:List CodeD} {x:World} {g n c k:Nat} (h:m.At (.slice (some ⟨g,0,none⟩) n c) C x) (hk:k<C.length) (v:Int) (hv:InI64 v) :
  m.At (.slice (some ⟨g,0,none⟩) n c) (EnvF.setN C k v) (x.setCell ⟨g,k * 8+3,none⟩ (.int .i64 v))/\m.Grew (.slice (some ⟨g,0,none⟩) n c) (.slice (some ⟨g,0,none⟩) n c) x (x.setCell ⟨g,k * 8+3,none⟩ (.int .i64 v)):=by
 have hn:n=C.length:=by
  obtain ⟨_,⟨e,_⟩|⟨g',cap,cur,e,_⟩⟩:=h.own
  ·simp at e
  ·simp only [Value.slice.injEq] at e;exact e.2.1
 subst hn
 have hst:=World.ownsRow.stored h.own (k * 8+3) (.int .i64 v)
 have hT:Turned (fun i=>i=g) x (x.setCell ⟨g,k * 8+3,none⟩ (.int .i64 v)):=setCell_turned x ⟨g,k * 8+3,none⟩ _
 have hgM:m.M ≠ g:=fun e=>own_ne_cells h.own h.hm (by decide) (by simp [Value.ownBlock,e])
 have hgr:m.rb ≠ g:=fun e=>MkS.own_ne_regs h.own h.regs (by simp [Value.ownBlock,e])
 refine ⟨⟨below_then h.below hT h.below.size (fun i e=>by rw [e];exact (own_is h.own (k:=g) (by simp [Value.ownBlock])).1),(hT.block _ h.mlt hgM).trans h.hm,?_,?_,h.regs.at (hT.block _ (MapG.lt h.regs) hgr),own_turn h.sites hT (fun i hi e=>MkS.own_ne_own h.own h.sites (by decide) (k:=g) (by simp [Value.ownBlock]) (by rw [hi,e])),h.sok,h.slen,h.lm⟩,?_,fun i hi=>.inl hi⟩
 ·rw [<- code_set hk v,EnvF.setN_length];exact hst.1
 ·intro d hd
  unfold EnvF.setN at hd
  rw [List.modify_eq_take_cons_drop hk] at hd
  rcases List.mem_append.1 hd with hd|hd
  ·exact h.ok d (List.mem_of_mem_take hd)
  ·rcases List.mem_cons.1 hd with rfl|hd
   ·obtain ⟨a1,a2,a3,a4,a5⟩:=h.ok C[k] (List.getElem_mem hk)
    exact ⟨a1,a2,a3,hv,a5⟩
   ·exact h.ok d (List.mem_of_mem_drop hd)
 ·exact hT.mono fun i e=>.inr (by simp [Value.ownBlock,e])
section
variable {w:World} {ops:Array Oper} {rest:List Oper} {o:Oper} {a:Act} {Q:Exit->Act->World->Prop}
theorem wpList_lab_store {P:Program} (hg:o.guard=none) (m x v:Operand) (t:TypeId) (hop:o.op=Op.mapUpdate t m x v) (k e:TypeId) (hk:P.underlying k=some .string) (ht:P.underlying t=some (.map k e))
  (b:Nat) (L:List (ByteArray × Int)) (hm:a.eval m=.map (some b)) (s:ByteArray) (hx:a.eval x=.string s) (n:Int) (hv:a.eval v=.int .i64 n) (hs:s.size<=maxLen) (h:LabIs w b L)
  (hK:∀ w',LabIs w' b ((s,n) :: L)->w.grownBy w' (some b)->wpList P ops Q rest (a.put o.dst undef) w'):wpList P ops Q (o :: rest) a w:=by
 refine wpList_plain hg fun K' hK'=>?_
 obtain ⟨w',hrun,r1,r2,r3⟩:=h.store hk ht s hs n
 unfold Oper.wp
 simp [execOp,hop,hm,hx,hv,hrun,Result.andThen]
 exact hK' _ _ (hK w' r1 r2)
theorem wpList_nam_store (hg:o.guard=none) (m x v:Operand) (hop:o.op=Op.mapUpdate 169 m x v)
  (b:Nat) (J:List (Nat × ByteArray)) (hm:a.eval m=.map (some b)) (k:Nat) (hx:a.eval x=.int .i64 (k:Nat)) (s:ByteArray) (hv:a.eval v=.string s) (hn:∀ q ∈ J,q.1<k) (hk:k<=9223372036854775807) (h:NamIs w b J)
  (hK:∀ w',NamIs w' b (J ++ [(k,s)])->w.grownBy w' (some b)->wpList Tryz.prog ops Q rest (a.put o.dst undef) w'):wpList Tryz.prog ops Q (o :: rest) a w:=by
 refine wpList_plain hg fun K' hK'=>?_
 obtain ⟨w',hrun,r1,r2,r3⟩:=h.store k s hn hk
 unfold Oper.wp
 simp [execOp,hop,hm,hx,hv,hrun,Result.andThen]
 exact hK' _ _ (hK w' r1 r2)
end
theorem fnames_at {l:List FuncD} {k:Nat} {x:FuncD} (h:l[k]?=some x):(fNames l)[k]?=some x.name:=by unfold fNames;rw [List.getElem?_map,h];rfl
theorem fnames_len (l:List FuncD):(fNames l).length=l.length:=by unfold fNames;simp
theorem fnIs (x:FuncD) (pv cv:Value) (ib:Nat) (s:ByteArray) (w:World) (hc:w.cell? ⟨ib,3,none⟩=some (.string s)) (hpv:∃ a n c,pv=.slice a n c) (hcv:∃ a n c,cv=.slice a n c) :
  Calls Tryz.prog 126 #[funcV x pv cv,.pointer (some ⟨ib,0,none⟩)] w fun e w'=>e=.returned (.bool (s.toList == x.name.toList))/\Below w.heap.size w w':=by
 obtain ⟨a1,n1,c1,rfl⟩:=hpv
 obtain ⟨a2,n2,c2,rfl⟩:=hcv
 have HV:Hid ((s.toList == x.name.toList)=(x.name.toList == s.toList)):=toList_comm _ _
 go_enter Tryz.func126,Tryz.ntmps126
 go_upto_region 1 with fail
 have hb0:Below w.heap.size w (w.alloc (.cells #[.string x.name,.slice a1 n1 c1,.slice a2 n2 c2,.int .i64 x.line,.int .i64 x.col] 52)):=(bR _ _).alloc (nR _) _
 have G0:=heap_alloc_new w (.cells #[.string x.name,.slice a1 n1 c1,.slice a2 n2 c2,.int .i64 x.line,.int .i64 x.col] 52)
 generalize w.alloc (.cells #[.string x.name,.slice a1 n1 c1,.slice a2 n2 c2,.int .i64 x.line,.int .i64 x.col] 52)=W1 at *
 have i0:=row_of G0 0 (.string x.name) rfl
 have hc1:=cell_keep hb0 hc
 have HB:=Hd hb0
 clear G0 hb0 hc
 go_wp2
 go_ret
 exact ⟨by rw [HV.out];rfl,HB.out⟩
theorem fnIndex (fv:Value) (fs:List FuncD) (ib:Nat) (s:ByteArray) (w:World) (h:RdFuncs none w fv fs) (hc:w.cell? ⟨ib,3,none⟩=some (.string s)) :
  Calls Tryz.prog 116 #[fv,.func (.func 126) #[] #[.pointer (some ⟨ib,0,none⟩)]] w fun e w'=>e=.returned (.int .i64 (idxS s (fNames fs) 0))/\Below w.heap.size w w':=by
 obtain ⟨a,cp,rfl,⟨hl,_⟩,hr⟩:=id h
 have HR:=Hd hr
 have HS:=Hd hc
 have hal:=fnames_len fs
 clear h hc hr
 go_enter Tryz.func116,Tryz.ntmps116
 go_wp2
 go_loopw [5,8] (fun _ i wr=>∃ k:Nat,k<=fs.length/\i=.int .i64 k/\Hid (idxS s (fNames fs) 0=idxS s ((fNames fs).drop k) k)/\Below w.heap.size w wr) (fun _ i _=>fs.length - (intOf i).toNat)
 case atStart=>exact ⟨0,Nat.zero_le _,rfl,rfl,bR _ _⟩
 case round=>
  obtain ⟨k,hk,rfl,HQ,hb⟩:=hrel
  obtain ⟨w1,rfl⟩:∃ x:World,x=wr:=⟨_,rfl⟩
  have HB:=Hd hb
  clear hb
  by_cases hlt:k<fs.length
  ·have hlt1:(k:Int)<fs.length:=by omega
   obtain ⟨x,hx⟩:∃ x,fs[k]?=some x:=⟨_,lG hlt⟩
   obtain ⟨b,o,pv2,cv2,rfl,_,c0,c1,c2,c3,c4,hf⟩:=HR.out k x hx
   obtain ⟨ap,kp,rfl,_⟩:=id hf.1
   obtain ⟨ac,kc,rfl,_⟩:=id hf.2.1
   have d0:=cell_keepB HB.out c0 (block_lt_of_cell c0)
   have d1:=cell_keepB HB.out c1 (block_lt_of_cell c1)
   have d2:=cell_keepB HB.out c2 (block_lt_of_cell c2)
   have d3:=cell_keepB HB.out c3 (block_lt_of_cell c3)
   have d4:=cell_keepB HB.out c4 (block_lt_of_cell c4)
   have hs:=idxS_at (s:=s) (l:=fNames fs) (k:=k) (x:=x.name) (fnames_at hx)
   have HI:=Hd (fnIs x (.slice ap x.params.length kp) (.slice ac x.code.length kc) ib s w1 (cell_keep HB.out HS.out) ⟨_,_,_,rfl⟩ ⟨_,_,_,rfl⟩)
   clear hx c0 c1 c2 c3 c4 hal hf
   cases he:(s.toList == x.name.toList)
   ·rw [he,if_neg (by simp)] at hs
    rw [he] at HI
    have HN:=Hd (HQ.out.trans hs)
    clear hs he
    go_wp2_with (go_at_call 126;refine HI.out.mono ?_;rintro e w' ⟨rfl,hz⟩;have B1:=Hd (bcomp HB.out hz);clear hz)
    go_roundw
    case rel=>exact ⟨k+1,by omega,by go_num,HN,B1.out⟩
    case measure=>simp [intOf];omega
   ·rw [he,if_pos rfl] at hs
    rw [he] at HI
    have HN:=Hd (HQ.out.trans hs)
    clear hs he
    go_wp2_with (go_at_call 126;refine HI.out.mono ?_;rintro e w' ⟨rfl,hz⟩;have B1:=Hd (bcomp HB.out hz);clear hz)
    go_ret
    exact ⟨by rw [HN.out];rfl,B1.out⟩
  ·obtain rfl:k=fs.length:=by omega
   have HN:Hid (idxS s (fNames fs) 0=-1):=by
    show _=_
    rw [HQ.out,<- hal,List.drop_length];rfl
   have hlt1:¬ (fs.length:Int)<fs.length:=by omega
   clear hal
   go_wp2
   go_ret
   exact ⟨by rw [HN.out];rfl,HB.out⟩
open Go.Maps (Keyed string_keyed int_keyed)
open Go.WideShapes Go.ChangeMaps Go.MapKept Go.WideMaps Go.ChangeAt Go.RowKit Go.ChangeShapes
theorem MkS.At.box_keep {m:MkS} {kv kv':Value} {C:List CodeD} {w w':World} {b:Nat} {cs:Array Value} {T:TypeId} (h:m.At kv C w) (hb:w.heap[b]?=some (.cells cs T (0,0))) (h1:T ≠ 131) (h2:T ≠ 58) (g:m.Grew kv kv' w w'):w'.heap[b]?=some (.cells cs T (0,0)):=by
 refine (g.1.block b (aE hb).1 ?_).trans hb
 rintro (e|e)
 ·rw [e,h.hm] at hb;simp at hb;exact h1 hb.2.symm
 ·exact own_ne_cells h.own hb h2 e
def BodyC (m:MkS) (n:Nat) (g:Int):Prop:=∀ (dst:Int) (kv:Value) (C:List CodeD) (w:World),InI64 dst->m.At kv C w->C.length<=40000 ->
 Calls Tryz.prog 74 #[.pointer (some ⟨m.M,0,none⟩),.int .i64 g,.int .i64 dst] w fun e w'=>e=.returned (.tuple #[])/\∃ kv',m.At kv' (m.E.body n g dst C) w'/\m.Grew kv kv' w w'
theorem regN_i64 (m:MkS) (H:m.Ok) (f:Int) (s:ByteArray):InI64 (m.E.reg f s):=by
 have:=regN_lt m.E.R f s
 have:=H.rlen
 unfold EnvF.reg InI64
 omega
theorem i64_0:InI64 0:=⟨by decide,by decide⟩
theorem i64_m1:InI64 (-1):=⟨by decide,by decide⟩
theorem u64_0:InU64 0:=⟨by decide,by decide⟩
theorem u8_0:InU8 0:=⟨by decide,by decide⟩
theorem trim_ok (m:MkS) (H:m.Ok) (v:Int) (ha:InU64 v):InU64 (trimW m.E.p.width v):=by
 unfold trimW
 split
 ·exact ha
 ·have h1:=H.wd.1
  have h2:=H.wd.2
  obtain ⟨a1,a2,a3⟩:=mod_in m.E.p.width.toNat (by omega) v
  exact ⟨a1,by omega⟩
theorem ref_ok (m:MkS) (H:m.Ok) (f:Int) (a:ArgD) (ha:InU64 a.num):InI64 (m.E.ref f a).reg/\InU64 (m.E.ref f a).num:=by
 unfold EnvF.ref refF
 split
 ·exact ⟨i64_m1,trim_ok m H _ ha⟩
 ·exact ⟨regN_i64 m H f a.name,u64_0⟩
theorem copy_ok (m:MkS) (H:m.Ok) (d:Int) (r:RefD) (hd:InI64 d) (hr:InI64 r.reg/\InU64 r.num):okC (EnvF.copy d r):=
 ⟨u8_0,u8_0,hd,i64_0,hr.1,hr.2,i64_0,u64_0⟩
theorem bodyF_fn {p:ProgD} {g:Nat} {x:FuncD} (h:p.funcs[g]?=some x):bodyF p (g:Int)=(x.params,x.code):=by
 unfold bodyF
 rw [if_neg (by omega)]
 simp [h]
theorem locals_fn {p:ProgD} {g:Nat} {x:FuncD} (hc:checkF p=none) (h:p.funcs[g]?=some x):localsF p (g:Int)=(localsL x.params x.code [],0):=by
 unfold localsF
 rw [hc]
 have:=(lE h).1
 simp only
 rw [if_neg (by omega),bodyF_fn h]
theorem zeros_snoc (E:EnvF) (g:Int) (l:List ByteArray) (s:ByteArray):E.zeros g (l ++ [s])=E.zeros g l ++ [EnvF.copy (E.reg g s) ⟨-1,0⟩]:=by unfold EnvF.zeros;rw [List.map_append];rfl
theorem parms_take (E:EnvF) (f g:Int) (args:List ArgD) (l:List ByteArray) (j:Nat) (s:ByteArray) (h:l[j]?=some s):E.parms f g args 0 (l.take (j+1))=E.parms f g args 0 (l.take j) ++ [EnvF.copy (E.reg g s) (E.arg f args j)]:=by
 have hj:=(lE h).1
 rw [List.take_add_one,h]
 show E.parms f g args 0 (l.take j ++ [s])=_
 rw [EnvF.parms_snoc,List.length_take,Nat.min_eq_left (by omega),Nat.zero_add]
theorem rdStrs_at {lo:Option (Nat->Prop)} {w:World} {a:Option Addr} {n c:Nat} {l:List ByteArray} (h:RdStrs lo w (.slice a n c) l) {i:Nat} {s:ByteArray} (hs:l[i]?=some s):∃ b o,a=some ⟨b,o,none⟩/\w.cell? ⟨b,o+i,none⟩=some (.string s)/\s.size<=maxLen:=by
 obtain ⟨a',c',e,_,hr⟩:=h
 simp only [Value.slice.injEq] at e
 obtain ⟨rfl,_,_⟩:=e
 obtain ⟨b,o,e2,_,h1,h2⟩:=hr i s hs
 exact ⟨b,o,e2,h1,h2⟩
theorem rdStrs_grew {m:MkS} {kv kv':Value} {C:List CodeD} {w w':World} {G:Nat->Prop} {v:Value} {l:List ByteArray} (h:m.At kv C w) (hr:RdStrs (some G) w v l) (g:m.Grew kv kv' w w'):RdStrs (some G) w' v l:=by
 refine RdStrs.map (S:=fun T=>T=9) (fun T b hT hb hf=>?_) (fun T b o u hT hf hc=>?_) rfl hr
 ·obtain ⟨h1,cs,h2⟩:=hf G rfl
  subst hT
  exact Free.of h1 (h.box_keep h2 (by decide) (by decide) g)
 ·obtain ⟨h1,cs,h2⟩:=hf G rfl
  subst hT
  rw [World.cell?_of_block (w:=w) ((h.box_keep h2 (by decide) (by decide) g).trans h2.symm)]
  exact hc
theorem call_any (m:MkS) (H:m.Ok) (hs:EnvF.Small m.E.p) (n g:Nat) (f dst:Int) (x:InstrD) (aa:Option Addr) (ca mb fb:Nat) (kv:Value) (C:List CodeD) (w:World) (h:m.At kv C w) (hmb:w.heap[mb]?=some (.cells #[.pointer (some ⟨m.M,0,none⟩)] 128 (0,0)))
  (hfb:w.heap[fb]?=some (.cells #[.int .i64 f] 3 (0,0))) (hf:InI64 f) (hd:InI64 dst) (hx:RdArgs none m.w0 (.slice aa x.args.length ca) x.args)
  (hg:idxS x.name (fNames m.E.p.funcs) 0=g) (hgl:g<m.E.p.funcs.length) (har:x.args.length=(bodyF m.E.p g).1.length) (hB:BodyC m n g) (hl:C.length<=4096) :
  Calls Tryz.prog 106 #[.pointer (some ⟨m.M,0,none⟩),instrV x (.slice aa x.args.length ca),.int .i64 dst,.func (.func 102) #[] #[.pointer (some ⟨mb,0,none⟩),.pointer (some ⟨fb,0,none⟩)],.func (.func 104) #[] #[.pointer (some ⟨mb,0,none⟩)]] w
   fun e w'=>e=.returned (.tuple #[])/\∃ kv',m.At kv' (m.E.body n g dst (C ++ m.E.ahead f x)) w'/\m.Grew kv kv' w w':=by
 obtain ⟨fd,hfd⟩:∃ fd,m.E.p.funcs[g]?=some fd:=⟨_,lG hgl⟩
 have hfn:m.E.fnOf x.name=(g:Int):=hg
 have hbf:=bodyF_fn hfd
 have HAH:Hid (m.E.ahead f x=m.E.parms f g x.args 0 fd.params ++ m.E.zeros g (localsL fd.params fd.code [])):=by
  show _=_
  unfold EnvF.ahead
  rw [hfn,hbf]
 rw [hbf] at har
 have hpl:fd.params.length<=32:=by have:=(hs (g:Int)).1;rw [hbf] at this;exact this
 have hll:(localsL fd.params fd.code []).length<=33792:=by
  obtain ⟨_,h2,h3⟩:=hs (g:Int)
  rw [hbf] at h2 h3
  have:=localsL_len fd.params fd.code [] h3
  simp only [List.length_nil] at this
  simp only at h2
  omega
 have hgi:InI64 (g:Int):=by have:=H.prog.2.2.1;obtain ⟨a,c,e,⟨q,_⟩,_⟩:=this;unfold InI64;omega
 have HLC:=Hd (locals_fn H.chk hfd)
 have hb0:=(bR w.heap.size w).alloc (nR _) (.cells #[.int .u8 x.kind,.int .u8 x.op,.string x.dst,.string x.name,.slice aa x.args.length ca,.int .i64 x.line,.int .i64 x.col] 50)
 have hg0:=heap_alloc_new w (.cells #[.int .u8 x.kind,.int .u8 x.op,.string x.dst,.string x.name,.slice aa x.args.length ca,.int .i64 x.line,.int .i64 x.col] 50)
 have HA:=Hd (h.keep hb0)
 have HMB:=Hd ((hb0.block mb (aE hmb).1).trans hmb)
 have HFB:=Hd ((hb0.block fb (aE hfb).1).trans hfb)
 have HB0:=Hd hb0
 have HX0:=Hd hg0
 obtain ⟨xa',xc',xe',_,hxr⟩:=id hx
 have HXR:=Hd hxr
 simp only [Value.slice.injEq] at xe'
 obtain ⟨rfl,_,rfl⟩:=xe'
 have HF:=Hd hf
 have HD:=Hd hd
 have HBC:=Hd hB
 have HFD:=Hd hfd
 have HAR:=Hd har
 have HPL:=Hd hpl
 have HLL:=Hd hll
 have hmf:∀ (fn:Fn) (first cap:Array Value) (w:World),(Instr.makeFunc fn first cap).run Tryz.prog w=.ok (.func fn first cap) w:=fun _ _ _ _=>rfl
 have HG:Hid (∀ z ib,m.At kv C z->z.cell? ⟨ib,3,none⟩=some (.string x.name)->Calls Tryz.prog 116 #[.slice m.af m.E.p.funcs.length m.kf,.func (.func 126) #[] #[.pointer (some ⟨ib,0,none⟩)]] z fun e w'=>e=.returned (.int .i64 (g:Nat))/\Below z.heap.size z w'):=fun z ib hz hc=>by
  have:=fnIndex _ m.E.p.funcs ib x.name z (hz.prog H).2.2.1 hc
  rw [hg] at this
  exact this
 clear h hmb hfb hf hd hx hg har hB hb0 hg0 hbf hpl hll hfd hxr
 go_enter Tryz.func106,Tryz.ntmps106
 go_upto_region 1 with fail
 generalize w.alloc (.cells #[.int .u8 x.kind,.int .u8 x.op,.string x.dst,.string x.name,.slice aa x.args.length ca,.int .i64 x.line,.int .i64 x.col] 50)=W at *
 obtain ⟨ib,hib⟩:∃ ib,w.heap.size=ib:=⟨_,rfl⟩
 rw [hib] at HX0
 rw [hib]
 have HIB:=Hd hib
 clear hib
 have c3:=HA.out.c3
 have i3:=row_of HX0.out 3 (.string x.name) rfl
 go_upto_region 2 with (go_at_call 116;refine (HG.out _ _ HA.out i3).mono ?_;rintro e w1 ⟨rfl,hz⟩;have B1:=Hd hz;clear hz)
 clear c3 i3 HG hmf
 have HA1:=Hd (HA.out.keep B1.out)
 have HMB1:=Hd ((B1.out.block mb (aE HMB.out).1).trans HMB.out)
 have HFB1:=Hd ((B1.out.block fb (aE HFB.out).1).trans HFB.out)
 have HX1:=Hd ((B1.out.block ib (aE HX0.out).1).trans HX0.out)
 have HGR1:=Hd (MkS.Grew.of_below (m:=m) (a:=kv) (bcomp HB0.out B1.out))
 clear HA HMB HFB HX0
 have c3:=HA1.out.c3
 obtain ⟨a',c',e',hl',hr'⟩:=H.prog.2.2.1
 simp only [Value.slice.injEq] at e'
 obtain ⟨q,o,pv,cv,e'',_,f0,f1,f2,f3,f4,hri⟩:=hr' g fd HFD.out
 obtain ⟨ap,kp,rfl,⟨hpz,_⟩,hpr⟩:=id hri.1
 have HPR:=Hd hpr
 rw [e'.1,e''] at c3
 have f5:=cell_keep HA1.out.below f1
 have hgl2:(g:Int)<(m.E.p.funcs.length:Int):=by omega
 clear hri hr' hpr e' f0 f1 f2 f3 f4
 go_wp2_with fail
 go_loopw [11,12,34] (fun _ _ i wr=>∃ (j:Nat) (kv1:Value),j<=fd.params.length/\i=.int .i64 j/\m.At kv1 (C ++ m.E.parms f g x.args 0 (fd.params.take j)) wr/\m.Grew kv kv1 w wr/\wr.heap[mb]?=some (.cells #[.pointer (some ⟨m.M,0,none⟩)] 128 (0,0))/\wr.heap[fb]?=some (.cells #[.int .i64 f] 3 (0,0))/\wr.heap[ib]?=some (.cells #[.int .u8 x.kind,.int .u8 x.op,.string x.dst,.string x.name,.slice aa x.args.length ca,.int .i64 x.line,.int .i64 x.col] 50 (0,0))) (fun _ _ i _=>fd.params.length - (intOf i).toNat)
 case atStart=>exact ⟨0,kv,Nat.zero_le _,rfl,by simpa [EnvF.parms] using HA1.out,HGR1.out,HMB1.out,HFB1.out,HX1.out⟩
 case round=>
  obtain ⟨wo,rfl⟩:∃ x:World,x=wr:=⟨_,rfl⟩
  obtain ⟨j,kv1,hj,rfl,hat,hgr,hm1,hf1,hx1⟩:=hrel
  have HAT:=Hd hat
  have HGR:=Hd hgr
  have HM1:=Hd hm1
  have HF1:=Hd hf1
  have HX1':=Hd hx1
  clear hat hgr hm1 hf1 hx1
  by_cases hlt:j<fd.params.length
  rotate_left
  ·obtain rfl:j=fd.params.length:=by omega
   have hlt2:¬ (fd.params.length:Int)<(fd.params.length:Int):=by omega
   have h9:=HAT.out
   rw [List.take_length] at h9
   have HAP:=Hd h9
   have c0:=h9.c0;have c1:=h9.c1;have c2:=h9.c2;have c3':=h9.c3;have c4:=h9.c4
   have hloc:=locals_any m.E.p _ _ _ _ (g:Int) wo (h9.prog H) (h9.laid H) hgi
   rw [HLC.out] at hloc
   have HLOC:=Hd hloc
   obtain ⟨locs,hlocs⟩:∃ l,localsL fd.params fd.code []=l:=⟨_,rfl⟩
   rw [hlocs] at HLOC HLL HAH
   clear hloc h9 hlocs HLC HAT HX1' HF1 f5 c3
   go_upto_region 8 with (go_at_call 70;refine HLOC.out.mono ?_;rintro e w2 ⟨v,rfl,hrd,hz⟩;obtain ⟨al,kl,rfl,_⟩:=id hrd;have HRD:=Hd hrd;have BZ:=Hd hz;clear hrd hz)
   clear c0 c1 c2 c3' c4
   have hz9:locs.length<=33792:=HLL.out
   go_wp2_with fail
   go_loopw [16,69] (fun _ i wr=>∃ (j:Nat) (kv2:Value),j<=locs.length/\i=.int .i64 j/\m.At kv2 (C ++ m.E.parms f g x.args 0 fd.params ++ m.E.zeros g (locs.take j)) wr/\m.Grew kv kv2 w wr/\wr.heap[mb]?=some (.cells #[.pointer (some ⟨m.M,0,none⟩)] 128 (0,0))/\RdStrs (some (upFrom wo.heap.size)) wr (.slice al locs.length kl) locs) (fun _ i _=>locs.length - (intOf i).toNat)
   case atStart=>exact ⟨0,kv1,Nat.zero_le _,rfl,by simpa [EnvF.zeros] using HAP.out.keep BZ.out,HGR.out.trans (MkS.Grew.of_below BZ.out),(BZ.out.block mb (aE HM1.out).1).trans HM1.out,HRD.out⟩
   case round=>
    obtain ⟨wi,rfl⟩:∃ x:World,x=wr:=⟨_,rfl⟩
    obtain ⟨j,kv2,hj,rfl,hat,hgr,hm1,hr1⟩:=hrel
    have HAT:=Hd hat
    have HGR2:=Hd hgr
    have HM2:=Hd hm1
    have HR2:=Hd hr1
    have hlen:(C ++ m.E.parms f g x.args 0 fd.params ++ m.E.zeros g (locs.take j)).length<=40000:=by
     rw [List.length_append,List.length_append,EnvF.parms_length]
     unfold EnvF.zeros
     rw [List.length_map,List.length_take]
     have:=HPL.out
     omega
    have HLEN:=Hd hlen
    clear hat hgr hm1 hlen
    by_cases hlt:j<locs.length
    rotate_left
    ·obtain rfl:j=locs.length:=by omega
     have hlt2:¬ (locs.length:Int)<(locs.length:Int):=by omega
     clear hr1
     go_wp2_with (go_at_call 74;refine (HBC.out dst kv2 _ wi HD.out HAT.out HLEN.out).mono ?_;rintro e w9 ⟨rfl,kv9,hat9,hgr9⟩)
     go_end0
     refine ⟨rfl,kv9,?_,HGR2.out.trans hgr9⟩
     rw [HAH.out,<- List.append_assoc]
     rw [List.take_length] at hat9
     exact hat9
    obtain ⟨s,hsj⟩:∃ s,locs[j]?=some s:=⟨_,lG hlt⟩
    obtain ⟨bl,ol,rfl,n0,hsz⟩:=rdStrs_at hr1 hsj
    have HSJ:=Hd hsj
    have hjlt:(j:Int)<(locs.length:Int):=by omega
    obtain ⟨d,hd⟩:∃ d:Int,m.E.reg g s=d:=⟨_,rfl⟩
    have hdi:InI64 d:=by rw [<- hd];exact regN_i64 m H g s
    have hlook:=RegsIs.look HAT.out.regs H.nodup (g:Int) s hgi hsz
    rw [show ((regN m.E.R (g:Int) s:Nat):Int)=d from hd] at hlook
    have HDD:=Hd hd
    have HOK:=Hd (copy_ok m H d ⟨-1,0⟩ hdi ⟨i64_m1,u64_0⟩)
    have c11:=HAT.out.c11
    clear hr1 hsj hd hdi hsz
    go_wp2_with (go_at_call 104;refine (put_any m mb (EnvF.copy d ⟨-1,0⟩) kv2 _ wi HAT.out HM2.out HOK.out (Nat.le_trans HLEN.out (by decide))).mono ?_;rintro e w8 ⟨rfl,kv3,hat3,hgr3⟩)
    go_roundw
    case rel=>
     refine ⟨j+1,kv3,by omega,by go_num,?_,HGR2.out.trans hgr3,HAT.out.box_keep HM2.out (by decide) (by decide) hgr3,rdStrs_grew HAT.out HR2.out hgr3⟩
     rw [List.take_add_one,HSJ.out]
     show m.At kv3 (C ++ m.E.parms f g x.args 0 fd.params ++ m.E.zeros g (locs.take j ++ [s])) w8
     rw [zeros_snoc,HDD.out,<- List.append_assoc]
     exact hat3
    case measure=>simp [intOf];omega
  obtain ⟨s,hsj⟩:∃ s,fd.params[j]?=some s:=⟨_,lG hlt⟩
  have har2:x.args.length=fd.params.length:=HAR.out
  obtain ⟨y,hy⟩:∃ y,x.args[j]?=some y:=⟨_,lG (by omega)⟩
  obtain ⟨bp,op,rfl,_,n0,hsz⟩:=HPR.out j s hsj
  obtain ⟨ba,oa,hxa,_,y0,y1,hyn,hys⟩:=HXR.out j y hy
  have n1:=cell_keep HAT.out.below n0
  have y2:=cell_keep HAT.out.below y0
  have y3:=cell_keep HAT.out.below y1
  have HSJ:=Hd hsj
  have HY:=Hd hy
  have hjlt:(j:Int)<(fd.params.length:Int):=by omega
  have hjlt2:(j:Int)<(x.args.length:Int):=by omega
  have i4:=row_of HX1'.out 4 (.slice aa x.args.length ca) rfl
  rw [hxa] at i4
  have c11:=HAT.out.c11
  have HREF:Hid (∀ z,m.At kv1 (C ++ m.E.parms f g x.args 0 (fd.params.take j)) z->Below wo.heap.size wo z->Calls Tryz.prog 102 #[.agg #[.string y.name,.int .u64 y.num],.pointer (some ⟨mb,0,none⟩),.pointer (some ⟨fb,0,none⟩)] z fun e w'=>e=.returned (refA (m.E.ref f y))/\Below z.heap.size z w'):=fun z hz hb=>
   ref_any m H kv1 _ f y mb fb z hz ((hb.block mb (aE HM1.out).1).trans HM1.out) ((hb.block fb (aE HF1.out).1).trans HF1.out) HF.out ⟨hyn,hys⟩
  have hrok:=ref_ok m H f y hyn
  have harg:m.E.arg f x.args j=m.E.ref f y:=by unfold EnvF.arg argF;rw [HY.out];rfl
  have HARG:=Hd harg
  obtain ⟨r,hr⟩:∃ r,m.E.ref f y=r:=⟨_,rfl⟩
  rw [hr] at HREF hrok HARG
  obtain ⟨d,hd⟩:∃ d:Int,m.E.reg g s=d:=⟨_,rfl⟩
  have hdi:InI64 d:=by rw [<- hd];exact regN_i64 m H g s
  have hlook:=ext_look HAT.out.regs H.nodup (g:Int) s hgi hsz d hd
  have HDD:=Hd hd
  have HOK:=Hd (copy_ok m H d r hdi hrok)
  clear n0 y0 y1 hsj hy harg hr hd hrok hdi hyn hys har2 hxa
  go_upto_region 5 with fail
  have e0:=ext_cell i4
  have e1:=ext_cell y2
  have e2:=ext_cell y3
  have e3:=ext_cell c11
  clear i4 y2 y3 c11 n1
  (refine wp_region_calm_tail 17 (by kernel_rfl) (by kernel_rfl) ?_; simp only [List.take_succ_cons, List.take_zero, List.drop_succ_cons, List.drop_zero]; (repeat (go_big_quiet_step ((go_at_call 102;exact calls_calm (HREF.out _ (HAT.out.keep (ext_below _ _)) (ext_below _ _)))))); refine wpQuiet_nil ?_; intro wc hwc)
  clear e0 e1 e2 e3 hlook
  have HATc:=Hd (HAT.out.keep hwc)
  have HMc:=Hd ((hwc.block mb (aE HM1.out).1).trans HM1.out)
  have hlen:(C ++ m.E.parms f g x.args 0 (fd.params.take j)).length<=2000000:=by
   rw [List.length_append,EnvF.parms_length,List.length_take]
   have:=HPL.out
   omega
  go_wp2_with (go_at_call 104;refine (put_any m mb (EnvF.copy d r) kv1 _ wc HATc.out HMc.out HOK.out hlen).mono ?_;rintro e w8 ⟨rfl,kv2,hat2,hgr2⟩)
  go_roundw
  case rel=>
   have hg9:=(MkS.Grew.of_below (m:=m) (a:=kv1) hwc).trans hgr2
   refine ⟨j+1,kv2,by omega,by go_num,?_,HGR.out.trans hg9,HAT.out.box_keep HM1.out (by decide) (by decide) hg9,HAT.out.box_keep HF1.out (by decide) (by decide) hg9,HAT.out.box_keep HX1'.out (by decide) (by decide) hg9⟩
   rw [parms_take m.E f g x.args fd.params j s HSJ.out,HARG.out,HDD.out,<- List.append_assoc]
   exact hat2
  case measure=>simp [intOf];omega
end Go.Proofs.YtgllkgedjplpdaaGreatDoor
