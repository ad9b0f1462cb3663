/- The walks of rules.instrs and of rules.Check. Condition: what comes in reads as the plain data; the tables hold what they are laid with. -/
import Derived.Test.YtgllkgedjplpdaaGreatDoorRuC
import Derived.Maps.AppendAt
set_option linter.all false
set_option maxRecDepth 1000000
set_option maxHeartbeats 12800000
set_option linter.unusedVariables false
set_option linter.unusedSimpArgs false
namespace Go.Proofs.YtgllkgedjplpdaaGreatDoor
open Go.ChangeShapes Go.WideShapes Go.ChangeAt Go.RowKit
theorem own_instrsN {w:World} {base:Nat} {v:Value} {l:List InstrD} {P:List (InstrD × Value)} (hP:P.map Prod.fst=l) (h:w.ownsRow base 50 7 v l.length (P.flatMap insCells)) (hl:l.length * 80<=140737488351232) (hs:∀ p ∈ P,RdInstr none w p.1 p.2):RdInstrs none w v l:=by
 have hlen:P.length=l.length:=by rw [<- hP,List.length_map]
 obtain ⟨a,c,rfl,_⟩:=own_read h
 refine ⟨a,c,rfl,⟨hl,own_cap h⟩,fun i s hi=>?_⟩
 have hi':i<P.length:=by rw [hlen];exact (lE hi).1
 obtain ⟨p,hp⟩:∃ p,P[i]?=some p:=⟨_,lG hi'⟩
 have hps:p.1=s:=by
  have:(P.map Prod.fst)[i]?=some p.1:=by rw [List.getElem?_map,hp];rfl
  rw [hP,hi] at this;exact (Option.some.inj this).symm
 obtain ⟨g,c',e',hf,hc⟩:=own_at h (by rw [flat_length insCells 7 (fun _=>rfl)];omega)
 simp only [Value.slice.injEq] at e'
 obtain ⟨rfl,_,_⟩:=e'
 have hg:∀ j,j<7->(P.flatMap insCells)[i * 7+j]?=(insCells p)[j]?:=fun j hj=>flat_get insCells 7 (fun _=>rfl) P i j p hp hj
 subst hps
 exact ⟨g,0,p.2,rfl,Free.none _ _ _,hc _ _ (hg 0 (by omega)),hc _ _ (hg 1 (by omega)),hc _ _ (hg 2 (by omega)),hc _ _ (hg 3 (by omega)),hc _ _ (hg 4 (by omega)),hc _ _ (hg 5 (by omega)),hc _ _ (hg 6 (by omega)),hs p (List.mem_of_getElem? hp)⟩
theorem run_append_noneU {P:Program} {w:World} (base:Nat) (t ty e:TypeId) (i:TypeInfo) (size:Nat) (ht:P.underlying t=some (.slice e)) (hi:P.info? e=some i)
  (v:Value) (n c:Nat) (xs:List Value) (hown:w.ownsRow base e size v n xs) :
  (Builtin.append_ #[t,t] ty #[v,.slice none 0 c]).run P w=.ok v w:=by
 rcases hown.2 with ⟨rfl,rfl⟩|⟨g,cap,cur,rfl,_,_,hnc,_⟩
 ·simp [Builtin.append_,run_underlying ht,sizeOf,typeInfo,hi,Builtin.lenOf,Builtin.firstCells]
 ·simp [Builtin.append_,run_underlying ht,sizeOf,typeInfo,hi,Builtin.lenOf,Builtin.firstCells,hnc,storeCells]
theorem wpList_append_noneU {P:Program} {w:World} {ops:Array Oper} {rest:List Oper} {o:Oper} {a:Act} {Q:Exit->Act->World->Prop} (hgd:o.guard=none) (s x:Operand) (t:TypeId)
  (ho:o.op=.call { callee:=.builtin .append,args:=#[s,x],argTypes:=#[t,t] })
  (base:Nat) (e:TypeId) (i:TypeInfo) (size:Nat) (ht:P.underlying t=some (.slice e)) (hi:P.info? e=some i)
  (v:Value) (n c:Nat) (xs:List Value) (hs:a.eval s=v) (hown:w.ownsRow base e size v n xs) (hx:a.eval x=.slice none 0 c)
  (h:wpList P ops Q rest (a.put o.dst v) w):wpList P ops Q (o :: rest) a w:=by
 refine wpList_plain hgd fun K hK=>?_
 have hrun:=run_append_noneU (P:=P) (w:=w) base t o.type e i size ht hi v n c xs hown
 unfold Oper.wp
 simp [execOp,ho,resolve,invoke,builtin,hs,hx,hrun,Result.andThen]
 exact hK _ _ h
theorem wpList_append_instrs {w0 w:World} {ops:Array Oper} {rest:List Oper} {o:Oper} {a:Act} {Q:Exit->Act->World->Prop} (hgd:o.guard=none) (s x:Operand)
  (ho:o.op=.call { callee:=.builtin .append,args:=#[s,x],argTypes:=#[25,25] }) (base:Nat)
  (v:Value) (n:Nat) (xs:List Value) (hs:a.eval s=v) (hown:w.ownsRow base 50 7 v n xs) (hb:Below w0.heap.size w0 w) (xv:Value) (l:List InstrD) (hx:a.eval x=xv) (hrd:RdInstrs none w0 xv l)
  (hn:n+l.length<=1000000000) (hbase:base<=w.heap.size)
  (h:∀ a' c' w' (P:List (InstrD × Value)),P.map Prod.fst=l->(∀ q ∈ P,RdInstr none w0 q.1 q.2)->w'.ownsRow base 50 7 (.slice a' (n+l.length) c') (n+l.length) (xs ++ P.flatMap insCells)->Turned (fun k=>v.ownBlock=some k) w w'->wpList Tryz.prog ops Q rest (a.put o.dst (.slice a' (n+l.length) c')) w') :
  wpList Tryz.prog ops Q (o :: rest) a w:=by
 obtain ⟨i0,hi,hz0,hz1,hz2⟩:=info_parts infoInstr
 obtain ⟨ax,cx,rfl,⟨hl,_⟩,hr⟩:=id hrd
 cases ax with
 | none=>
  have hl0:l=[]:=by
   cases l with
   | nil=>rfl
   | cons y r=>obtain ⟨b,o',_,e,_⟩:=hr 0 y rfl;cases e
  subst hl0
  refine wpList_append_noneU hgd s x 25 ho base 50 i0 7 Tryz.underlying25 hi v n cx xs hs hown hx ?_
  obtain ⟨a',c',rfl,_⟩:=own_read hown
  exact h a' c' w [] rfl (fun q hq=>by cases hq) (by simpa using hown) (Turned.refl _ _)
 | some ad=>
  obtain ⟨P,hP,hc,hq⟩:=instrs_cells hrd
  have hPl:P.length=l.length:=by rw [<- hP,List.length_map]
  refine wpList_append_own_at _ hgd s x 25 ho base 50 i0 (.agg #[.int .u8 0,.int .u8 0,.string ⟨#[]⟩,.string ⟨#[]⟩,.slice none 0 0,.int .i64 0,.int .i64 0]) 7 80 Tryz.underlying25 hi hz0 hz1 hz2 rfl (by decide) v n xs hs hown ad l.length cx (P.flatMap insCells) hx (by rw [flat_length insCells 7 (fun _=>rfl),hPl]) (fun j u hj=>cell_keep hb (hc j u hj)) (fun u hu=>by
   obtain ⟨y,hy,hu⟩:=List.mem_flatMap.1 hu
   have h1:=rdArgs_one (hq y hy).1
   simp [insCells] at hu
   rcases hu with rfl|rfl|rfl|rfl|rfl|rfl|rfl <;> first|rfl|exact h1) (by unfold maxLen;omega) (by omega) hbase ?_
  intro v' w' ho' hg' _ hb'
  obtain ⟨a',c',rfl,_⟩:=own_read ho'
  exact h a' c' w' P hP hq ho' (Turned.of_grown hg' (fun b e=>e))
theorem codesOf_take {l:List FuncD} {k:Nat} {x:FuncD} (h:l[k]?=some x):codesOf (l.take (k+1))=codesOf (l.take k) ++ x.code:=by
 rw [List.take_add_one,h]
 unfold codesOf
 rw [List.flatMap_append]
 simp
theorem codesOf_len (l:List FuncD) (k:Nat):(codesOf (l.take k)).length<=(codesOf l).length:=by
 conv=>rhs;rw [<- List.take_append_drop k l]
 unfold codesOf
 rw [List.flatMap_append,List.length_append]
 omega
theorem rulesInstrs (p:ProgD) (cv av fv mv:Value) (w:World) (h:RdProg none w p cv av fv mv) (hN:(codesOf p.funcs).length+p.main.length<=100000) :
  Calls Tryz.prog 26 #[progV p cv av fv mv] w fun e w'=>∃ a k,e=.returned (.slice a (allI p).length k)/\RdInstrs none w' (.slice a (allI p).length k) (allI p)/\Below w.heap.size w w':=by
 obtain ⟨ac,kc,rfl,-,-⟩:=id h.1
 obtain ⟨aa,ka,rfl,-,-⟩:=id h.2.1
 obtain ⟨af,kf,rfl,⟨hlf,-⟩,-⟩:=id h.2.2.1
 obtain ⟨am,km,rfl,-,-⟩:=id h.2.2.2.1
 have HB0:=Hd ((bR w.heap.size w).alloc (nR _) (.cells #[.int .i64 p.width,.slice ac p.chans.length kc,.slice aa p.arrays.length ka,.slice af p.funcs.length kf,.slice am p.main.length km] 27))
 have HX0:=Hd (heap_alloc_new w (.cells #[.int .i64 p.width,.slice ac p.chans.length kc,.slice aa p.arrays.length ka,.slice af p.funcs.length kf,.slice am p.main.length km] 27))
 have HSW:Hid ((w.alloc (.cells #[.int .i64 p.width,.slice ac p.chans.length kc,.slice aa p.arrays.length ka,.slice af p.funcs.length kf,.slice am p.main.length km] 27)).heap.size=w.heap.size+1):=by show _=_;simp
 have H:=Hd h
 have HN:=Hd hN
 clear h hN
 go_enter Tryz.func26,Tryz.ntmps26
 go_upto_region 1 with fail
 generalize w.alloc (.cells #[.int .i64 p.width,.slice ac p.chans.length kc,.slice aa p.arrays.length ka,.slice af p.funcs.length kf,.slice am p.main.length km] 27)=W at *
 obtain ⟨pb,hpb⟩:∃ pb,w.heap.size=pb:=⟨_,rfl⟩
 have HPB:=Hd hpb
 rw [hpb] at HX0 HSW
 rw [hpb]
 clear hpb
 have c3:=row_of HX0.out 3 (.slice af p.funcs.length kf) rfl
 go_wp2_with fail
 go_loopw [3,5,9] (fun v _ i wr=>∃ (k:Nat) (P:List (InstrD × Value)),k<=p.funcs.length/\i=.int .i64 k/\P.map Prod.fst=codesOf (p.funcs.take k)/\wr.ownsRow (pb+1) 50 7 v P.length (P.flatMap insCells)/\(∀ q ∈ P,RdInstr none w q.1 q.2)/\Below W.heap.size W wr) (fun _ _ i _=>p.funcs.length - (intOf i).toNat)
 case atStart=>exact ⟨0,[],Nat.zero_le _,rfl,rfl,World.ownsRow_nil _ _ _ _,(fun q hq=>by cases hq),bR _ _⟩
 case round=>
  obtain ⟨k,P,hk,rfl,hP,hown,hp,hb⟩:=hrel
  obtain ⟨w1,rfl⟩:∃ x:World,x=wr:=⟨_,rfl⟩
  obtain ⟨a0,k0,rfl,_⟩:=own_read hown
  have HP:=Hd hP
  have HQ:=Hd hp
  have HO:=Hd hown
  have HB:=Hd hb
  have HBW:=Hd (bcomp HB0.out hb)
  have hPl:P.length<=100000:=by
   have h1:=codesOf_len p.funcs k
   have h2:P.length=(codesOf (p.funcs.take k)).length:=by rw [<- hP,List.length_map]
   have:=HN.out
   omega
  have HPL:=Hd hPl
  have HPB1:Hid (pb+1<=w1.heap.size):=by have:=HB.out.size;have:=HSW.out;show _<=_;omega
  clear hP hp hb hown hPl
  by_cases hlt:k<p.funcs.length
  ·have hlt1:(k:Int)<p.funcs.length:=by omega
   obtain ⟨x,hx⟩:∃ x,p.funcs[k]?=some x:=⟨_,lG hlt⟩
   obtain ⟨a',c',e',_,hrr⟩:=H.out.2.2.1
   simp only [Value.slice.injEq] at e'
   obtain ⟨bx,ox,pv,kv,e2,_,i0,i1,i2,i3,i4,hri⟩:=hrr k x hx
   have e3:af=some ⟨bx,ox,none⟩:=e'.1.trans e2
   obtain ⟨pa,pk,rfl,_⟩:=id hri.1
   obtain ⟨ka2,kk2,rfl,_⟩:=id hri.2.1
   have HRI:=Hd hri.2.1
   have j0:=cell_keep HBW.out i0
   have j1:=cell_keep HBW.out i1
   have j2:=cell_keep HBW.out i2
   have j3:=cell_keep HBW.out i3
   have j4:=cell_keep HBW.out i4
   have HNX:=Hd (codesOf_take hx)
   have hxl:x.code.length<=100000:=by
    have h1:=codesOf_len p.funcs (k+1)
    rw [codesOf_take hx,List.length_append] at h1
    have:=HN.out
    omega
   have HXL:=Hd hxl
   subst e3
   clear hrr hx hri e' e2 i0 i1 i2 i3 i4 hxl
   go_upto_region 5 with fail
   have HAL:Hid (Below w1.heap.size w1 (w1.alloc (.cells #[.string x.name,.slice pa x.params.length pk,.slice ka2 x.code.length kk2,.int .i64 x.line,.int .i64 x.col] 52))):=(bR _ _).alloc (nR _) _
   have HX:=Hd (heap_alloc_new w1 (.cells #[.string x.name,.slice pa x.params.length pk,.slice ka2 x.code.length kk2,.int .i64 x.line,.int .i64 x.col] 52))
   generalize w1.alloc (.cells #[.string x.name,.slice pa x.params.length pk,.slice ka2 x.code.length kk2,.int .i64 x.line,.int .i64 x.col] 52)=W6 at *
   have HO6:=Hd (own_below HO.out HAL.out)
   have HB6:=Hd (bcomp HBW.out HAL.out)
   have HBw:=Hd (bcomp HB.out HAL.out)
   have hcode:=row_of HX.out 2 (.slice ka2 x.code.length kk2) rfl
   clear j0 j1 j2 j3 j4
   go_wp2_with (at_builtin;refine wpList_append_instrs rfl (.tmp 13) (.tmp 15) rfl (pb+1) _ P.length (P.flatMap insCells) rfl HO6.out HB6.out _ x.code rfl HRI.out (by have:=HPL.out;have:=HXL.out;omega) (by have:=HPB1.out;have:=HAL.out.size;omega) ?_;intro a1 k1 z1 P2 hP2 hq2 ho2 hT2;have HP2:=Hd hP2;have HQ2:=Hd hq2;have HO2:=Hd ho2;have HT2:=Hd hT2;clear hP2 hq2 ho2 hT2)
   have hl2:P.length+x.code.length=(P ++ P2).length:=by rw [List.length_append];(have:P2.length=x.code.length:=(by rw [<- HP2.out,List.length_map]));omega
   go_roundw
   case rel=>
    have h1:=HO2.out
    rw [hl2,<- List.flatMap_append] at h1
    refine ⟨k+1,P ++ P2,by omega,by go_num,by rw [List.map_append,HP.out,HP2.out,HNX.out],?_,fun q hq=>?_,below_then HBw.out HT2.out HBw.out.size (fun i e=>?_)⟩
    ·rw [hl2];exact h1
    ·rcases List.mem_append.1 hq with h|h
     ·exact HQ.out q h
     ·exact HQ2.out q h
    ·have h3:=(own_is HO6.out e).1
     have h5:=HSW.out
     omega
   case measure=>simp [intOf];omega
  ·obtain rfl:k=p.funcs.length:=by omega
   have hlt1:¬ (p.funcs.length:Int)<p.funcs.length:=by omega
   clear hk hlt
   have HP1:Hid (P.map Prod.fst=codesOf p.funcs):=by have:=HP.out;rwa [List.take_length] at this
   have HPX:=Hd ((HB.out.block pb (aE HX0.out).1).trans HX0.out)
   have c4:=row_of HPX.out 4 (.slice am p.main.length km) rfl
   have hml:p.main.length<=100000:=by have:=HN.out;omega
   have HML:=Hd hml
   clear hml
   go_wp2_with (at_builtin;refine wpList_append_instrs rfl (.tmp 18) (.tmp 20) rfl (pb+1) _ P.length (P.flatMap insCells) rfl HO.out HBW.out _ p.main rfl H.out.2.2.2.1 (by have:=HPL.out;have:=HML.out;omega) HPB1.out ?_;intro a1 k1 z1 P2 hP2 hq2 ho2 hT2;have HP2:=Hd hP2;have HQ2:=Hd hq2;have HO2:=Hd ho2;have HT2:=Hd hT2;clear hP2 hq2 ho2 hT2)
   have hl2:P.length+p.main.length=(allI p).length:=by
    unfold allI
    rw [List.length_append,<- HP1.out,List.length_map]
   have hbz:Below w.heap.size w z1:=below_then HBW.out HT2.out HBW.out.size (fun i e=>by have:=(own_is HO.out e).1;have:=HPB.out;omega)
   go_ret
   rw [hl2]
   refine ⟨a1,k1,rfl,own_instrsN (base:=pb+1) (P:=P ++ P2) (by rw [List.map_append,HP1.out,HP2.out];rfl) ?_ (by have:=HPL.out;have:=HML.out;omega) (fun q hq=>?_),hbz⟩
   ·have h1:=HO2.out
    rw [hl2,<- List.flatMap_append] at h1
    exact h1
   ·rcases List.mem_append.1 hq with h|h
    ·exact (HQ.out q h).keep hbz
    ·exact (HQ2.out q h).keep hbz
theorem heap3_ofU {w:World} {A B C:Obj}:(((w.alloc A).alloc B).alloc C).heap[w.heap.size]?=some A/\(((w.alloc A).alloc B).alloc C).heap[w.heap.size+1]?=some B/\(((w.alloc A).alloc B).alloc C).heap[w.heap.size+1+1]?=some C/\Below w.heap.size w (((w.alloc A).alloc B).alloc C):=by
 obtain ⟨h0,h1,h2⟩:=heap2_of (w:=w) (A:=A) (B:=B) ((bR ((w.alloc A).alloc B).heap.size ((w.alloc A).alloc B)).alloc (nR _) C)
 have hs:((w.alloc A).alloc B).heap.size=w.heap.size+1+1:=by simp
 have h3:=heap_alloc_new ((w.alloc A).alloc B) C
 rw [hs] at h3
 exact ⟨h0,h1,h3,h2⟩
theorem funcs_le {p:ProgD} (h:checkF p=none):p.funcs.length<=32:=by
 unfold checkF at h
 simp only [Option.or_eq_none_iff] at h
 obtain ⟨h1,h2,h3,h4,h5,h6,_⟩:=h
 unfold needF at h6
 split at h6
 ·rename_i hd;exact of_decide_eq_true hd
 ·cases h6
theorem allI_len {p:ProgD} (hc:checkF p=none):(codesOf p.funcs).length+p.main.length<=100000:=by
 have h1:=check_none hc
 have h2:∀ l:List FuncD,(∀ f ∈ l,f.code.length<=1024)->(codesOf l).length<=l.length * 1024:=by
  intro l
  induction l with
  | nil=>intro _;simp [codesOf]
  | cons x r ih=>
   intro h
   have h3:=ih (fun f hf=>h f (by simp [hf]))
   have h4:=h x (by simp)
   have e:codesOf (x :: r)=x.code ++ codesOf r:=by simp [codesOf]
   rw [e,List.length_append,List.length_cons,Nat.succ_mul]
   omega
 have h5:=h2 p.funcs (fun f hf=>(h1.2 f hf).2.1)
 have h6:=funcs_le hc
 have h7:=h1.1.1
 omega
theorem rulesCheck (p:ProgD) (pc pa pf pm:Value) (q:PolD) (lv ov cv sv:Value) (w:World) (h:RdProg none w p pc pa pf pm) (g:RdPol none w q lv ov cv sv) (hL:Laid w) (hT:BitsAt w) :
  Calls Tryz.prog 9 #[progV p pc pa pf pm,polV q lv ov cv sv] w fun e w'=>e=.returned (.tuple #[.agg #[.int .i64 (rulesC p q).1.1,.int .i64 (rulesC p q).1.2],.int .i64 (rulesC p q).2])/\Below w.heap.size w w':=by
 obtain ⟨ac,kc,rfl,⟨hcl,-⟩,-⟩:=id h.1
 obtain ⟨aa,ka,rfl,-,-⟩:=id h.2.1
 obtain ⟨af,kf,rfl,-,-⟩:=id h.2.2.1
 obtain ⟨am,km,rfl,-,-⟩:=id h.2.2.2.1
 obtain ⟨la,lc,rfl⟩:=g.1.is
 obtain ⟨oa,oc,rfl⟩:=g.2.1.is
 obtain ⟨ca,cc,rfl⟩:=g.2.2.1.is
 obtain ⟨sa,sc,rfl⟩:=g.2.2.2.1.is
 obtain ⟨hx0,hx1,hx2,hb0⟩:=heap3_ofU (w:=w) (A:=.cells #[.int .i64 p.width,.slice ac p.chans.length kc,.slice aa p.arrays.length ka,.slice af p.funcs.length kf,.slice am p.main.length km] 27) (B:=.cells #[.slice la q.levels.length lc,.slice oa q.order.length oc,.slice ca q.chans.length cc,.slice sa q.sites.length sc,.bool q.sens,.int .i64 q.steps,.int .i64 q.paths,.int .i64 q.nodes,.int .i64 q.confs] 31) (C:=.cells #[.int .i64 0,.int .i64 0] 35)
 have H:=Hd (h.keep hb0)
 have G:=Hd (g.keep hb0)
 have HL:=Hd (hL.keep hb0)
 have HT:=Hd (hT.keep hb0)
 have HX0:=Hd hx0
 have HX1:=Hd hx1
 have HX2:=Hd hx2
 have HB0:=Hd hb0
 have hmf:∀ (fn:Fn) (first cap:Array Value) (w:World),(Instr.makeFunc fn first cap).run Tryz.prog w=.ok (.func fn first cap) w:=fun _ _ _ _=>rfl
 clear h g hL hT hx0 hx1 hx2 hb0
 go_enter Tryz.func9,Tryz.ntmps9
 go_upto_region 1 with fail
 generalize ((w.alloc (.cells #[.int .i64 p.width,.slice ac p.chans.length kc,.slice aa p.arrays.length ka,.slice af p.funcs.length kf,.slice am p.main.length km] 27)).alloc (.cells #[.slice la q.levels.length lc,.slice oa q.order.length oc,.slice ca q.chans.length cc,.slice sa q.sites.length sc,.bool q.sens,.int .i64 q.steps,.int .i64 q.paths,.int .i64 q.nodes,.int .i64 q.confs] 31)).alloc (.cells #[.int .i64 0,.int .i64 0] 35)=W at *
 obtain ⟨pb,hpb⟩:∃ pb,w.heap.size=pb:=⟨_,rfl⟩
 rw [hpb] at HX0 HX1 HX2
 rw [hpb]
 have HPB:=Hd hpb
 clear hpb
 have c0:=row_of HX0.out 0 (.int .i64 p.width) rfl
 have c1:=row_of HX0.out 1 (.slice ac p.chans.length kc) rfl
 have c2:=row_of HX0.out 2 (.slice aa p.arrays.length ka) rfl
 have c3:=row_of HX0.out 3 (.slice af p.funcs.length kf) rfl
 have c4:=row_of HX0.out 4 (.slice am p.main.length km) rfl
 have hck:=check_any p _ _ _ _ _ H.out HL.out
 cases hc:checkF p with
 | some FF=>
  rw [hc] at hck
  have HV:Hid (rulesC p q=((FF.line,FF.col),FF.e)):=by show _=_;unfold rulesC;rw [hc]
  have hF:=check_fault hc
  have hne:(FF.e != 0)=true:=by have:=hF.1;simp;omega
  have HC:=Hd hck
  simp only [posL,posC,errOf] at HC
  clear hck hc hF H G HL HT hmf
  go_upto_region 3 with (go_at_call 24;refine HC.out.mono ?_;rintro e w1 ⟨rfl,hb2⟩;have B2:=Hd hb2;clear hb2)
  have KEY:Hid (∀ A,(w1.alloc A).heap[pb+1+1]?=some (.cells #[.int .i64 0,.int .i64 0] 35 (0,0))):=fun A=>((B2.out.alloc B2.out.size A).block _ (aE HX2.out).1).trans HX2.out
  have HBz:Hid (∀ A,Below w.heap.size w (w1.alloc A)):=fun A=>bcomp HB0.out (B2.out.alloc B2.out.size A)
  clear c0 c1 c2 c3 c4 HC
  go_wp2_with (refine wpList_store_row rfl 35 (.tmp 4) (.tmp 27) rfl (pb+1+1) #[.int .i64 FF.line,.int .i64 FF.col] rfl rfl 35 #[.int .i64 0,.int .i64 0] ?hs27 (by as_aux_lemma=>kernel_rfl) (by as_aux_lemma=>kernel_rfl) (by as_aux_lemma=>kernel_rfl) ?_;exact KEY.out _)
  refine bodyPost_ret (v:=.tuple #[.agg #[.int .i64 FF.line,.int .i64 FF.col],.int .i64 FF.e]) ?_ rfl ⟨by rw [HV.out],below_row (HBz.out _) (by have:=HPB.out;omega) _⟩
  try simp only [Act.put]
  exact results_cell_two (P:=Tryz.prog) (fn:=Tryz.f9) rfl _ _ (pb+1+1) 35 #[.int .i64 FF.line,.int .i64 FF.col] (0,0) _ rfl (setRow_heap _ _ _ _ _ _ (KEY.out _)) Tryz.underlying35 rfl (by kernel_rfl)
 | none=>
  rw [hc] at hck
  simp only [posL,posC,errOf] at hck
  have HC1:=Hd hck
  have HC:=Hd hc
  have HLEN:=Hd (allI_len hc)
  have HV0:Hid (rulesC p q=fitF p q):=by show _=_;unfold rulesC;rw [hc]
  clear hck hc
  go_upto_region 4 with (go_at_call 24;refine HC1.out.mono ?_;rintro e w1 ⟨rfl,hb2⟩;have B2:=Hd hb2;clear hb2)
  clear HC1 c0 c1 c2 c3 c4
  have BZ:Hid (Below W.heap.size W (w1.alloc (.cells #[.int .i64 0,.int .i64 0] 35))):=B2.out.alloc B2.out.size _
  generalize w1.alloc (.cells #[.int .i64 0,.int .i64 0] 35)=W2 at *
  have H2:=Hd (H.out.keep BZ.out)
  have G2:=Hd (G.out.keep BZ.out)
  have HT2:=Hd (HT.out.keep BZ.out)
  have HP2:=Hd ((BZ.out.block _ (aE HX0.out).1).trans HX0.out)
  have HQ2:=Hd ((BZ.out.block _ (aE HX1.out).1).trans HX1.out)
  have HR2:=Hd ((BZ.out.block _ (aE HX2.out).1).trans HX2.out)
  have HB2:=Hd (bcomp HB0.out BZ.out)
  clear H G HL HT HX0 HX1 HX2 BZ HB0 B2
  have d0:=row_of HQ2.out 0 (.slice la q.levels.length lc) rfl
  have d1:=row_of HQ2.out 1 (.slice oa q.order.length oc) rfl
  have d2:=row_of HQ2.out 2 (.slice ca q.chans.length cc) rfl
  have d3:=row_of HQ2.out 3 (.slice sa q.sites.length sc) rfl
  have d4:=row_of HQ2.out 4 (.bool q.sens) rfl
  have d5:=row_of HQ2.out 5 (.int .i64 q.steps) rfl
  have d6:=row_of HQ2.out 6 (.int .i64 q.paths) rfl
  have d7:=row_of HQ2.out 7 (.int .i64 q.nodes) rfl
  have d8:=row_of HQ2.out 8 (.int .i64 q.confs) rfl
  have hpc:=polCheck q _ _ _ _ W2 G2.out HT2.out
  obtain ⟨E,hE⟩:∃ E,polErr q=E:=⟨_,rfl⟩
  rw [hE] at hpc
  have HPC:=Hd hpc
  have HE:=Hd hE
  clear hpc hE
  by_cases hz:E=0
  rotate_left
  ·have hne:(E != 0)=true:=by simpa using hz
   have HV:Hid (rulesC p q=((0,0),E)):=by show _=_;rw [HV0.out];unfold fitF;rw [HE.out,if_pos hz]
   clear hz
   go_upto_region 6 with (go_at_call 25;refine HPC.out.mono ?_;rintro e w3 ⟨rfl,hb3⟩;have B3:=Hd hb3;clear hb3)
   have KEY:=Hd ((B3.out.block _ (aE HR2.out).1).trans HR2.out)
   have HBz:=Hd (bcomp HB2.out B3.out)
   clear d0 d1 d2 d3 d4 d5 d6 d7 d8 HPC
   go_wp2_with (refine wpList_store_row rfl 35 (.tmp 4) (.tmp 33) rfl (pb+1+1) #[.int .i64 0,.int .i64 0] rfl rfl 35 #[.int .i64 0,.int .i64 0] ?hs33 (by as_aux_lemma=>kernel_rfl) (by as_aux_lemma=>kernel_rfl) (by as_aux_lemma=>kernel_rfl) ?_;exact KEY.out)
   refine bodyPost_ret (v:=.tuple #[.agg #[.int .i64 0,.int .i64 0],.int .i64 E]) ?_ rfl ⟨by rw [HV.out],below_row HBz.out (by have:=HPB.out;omega) _⟩
   try simp only [Act.put]
   exact results_cell_two (P:=Tryz.prog) (fn:=Tryz.f9) rfl _ _ (pb+1+1) 35 #[.int .i64 0,.int .i64 0] (0,0) _ rfl (setRow_heap _ _ _ _ _ _ KEY.out) Tryz.underlying35 rfl (by kernel_rfl)
  subst hz
  go_upto_region 7 with (go_at_call 25;refine HPC.out.mono ?_;rintro e W3 ⟨rfl,hb3⟩;have B3:=Hd hb3;clear hb3)
  clear d0 d1 d2 d3 d4 d5 d6 d7 d8 HPC
  have H3:=Hd (H2.out.keep B3.out)
  have G3:=Hd (G2.out.keep B3.out)
  have HP3:=Hd ((B3.out.block _ (aE HP2.out).1).trans HP2.out)
  have HQ3:=Hd ((B3.out.block _ (aE HQ2.out).1).trans HQ2.out)
  have HR3:=Hd ((B3.out.block _ (aE HR2.out).1).trans HR2.out)
  have HB3:=Hd (bcomp HB2.out B3.out)
  clear H2 G2 HT2 HP2 HQ2 HR2 HB2 B3
  have c0:=row_of HP3.out 0 (.int .i64 p.width) rfl
  have c1:=row_of HP3.out 1 (.slice ac p.chans.length kc) rfl
  have c2:=row_of HP3.out 2 (.slice aa p.arrays.length ka) rfl
  have c3:=row_of HP3.out 3 (.slice af p.funcs.length kf) rfl
  have c4:=row_of HP3.out 4 (.slice am p.main.length km) rfl
  have HRI:=Hd (rulesInstrs p _ _ _ _ W3 H3.out HLEN.out)
  go_upto_region 8 with (go_at_call 26;refine HRI.out.mono ?_;rintro e W4 ⟨ia,ik,rfl,hri,hz⟩;have HI4:=Hd hri;have B4:=Hd hz;clear hri hz)
  clear c0 c1 c2 c3 c4 HRI
  have H4:=Hd (H3.out.keep B4.out)
  have G4:=Hd (G3.out.keep B4.out)
  have HP4:=Hd ((B4.out.block _ (aE HP3.out).1).trans HP3.out)
  have HQ4:=Hd ((B4.out.block _ (aE HQ3.out).1).trans HQ3.out)
  have HR4:=Hd ((B4.out.block _ (aE HR3.out).1).trans HR3.out)
  have HB4:=Hd (bcomp HB3.out B4.out)
  clear H3 G3 HP3 HQ3 HR3 HB3 B4
  have c1:=row_of HP4.out 1 (.slice ac p.chans.length kc) rfl
  go_wp2_with fail
  go_loopw [11,12,13,14,15,40] (fun _ _ _ _ _ i wr=>∃ k:Nat,k<=p.chans.length/\i=.int .i64 k/\Hid ((p.chans.take k).find? (noChan q)=none)/\Below W4.heap.size W4 wr) (fun _ _ _ _ _ i _=>p.chans.length - (intOf i).toNat)
  case atStart=>exact ⟨0,Nat.zero_le _,rfl,rfl,bR _ _⟩
  case round=>
   obtain ⟨k,hk,rfl,HQF,hb⟩:=hrel
   obtain ⟨w5,rfl⟩:∃ x:World,x=wr:=⟨_,rfl⟩
   have HB:=Hd hb
   clear hb c1
   by_cases hlt:k<p.chans.length
   ·have hlt1:(k:Int)<p.chans.length:=by omega
    obtain ⟨s,hs⟩:∃ s,p.chans[k]?=some s:=⟨_,lG hlt⟩
    have hst:=find_stepF (noChan q) p.chans k s hs HQF.out
    obtain ⟨a',c',e',_,hrr⟩:=H4.out.1
    simp only [Value.slice.injEq] at e'
    obtain ⟨bx,ox,e2,_,i0,_⟩:=hrr k s hs
    have e3:ac=some ⟨bx,ox,none⟩:=e'.1.trans e2
    have j0:=cell_keep HB.out i0
    subst e3
    have HST:=Hd hst
    clear hrr hs e' e2 i0 hst
    go_upto_region 11 with fail
    have HAL:Hid (Below w5.heap.size w5 (w5.alloc (.cells #[.string s] 9))):=(bR _ _).alloc (nR _) _
    have HX:=Hd (heap_alloc_new w5 (.cells #[.string s] 9))
    generalize w5.alloc (.cells #[.string s] 9)=W6 at *
    obtain ⟨xb,hxb⟩:∃ xb,w5.heap.size=xb:=⟨_,rfl⟩
    rw [hxb] at HX
    rw [hxb]
    clear hxb j0
    have HB6:=Hd (bcomp HB.out HAL.out)
    have d2:=row_of ((HB6.out.block _ (aE HQ4.out).1).trans HQ4.out) 2 (.slice ca q.chans.length cc) rfl
    have x0:=row_of HX.out 0 (.string s) rfl
    have hlv:=level_any _ q.chans s W6 (G4.out.2.2.1.keep HB6.out)
    have hnc:noChan q s=(levelOf q.chans s).isNone:=rfl
    cases hv:levelOf q.chans s with
    | some n=>
     rw [hv] at hlv hnc
     have HN2:=Hd (HST.out.2 hnc)
     have HLV:=Hd hlv
     clear hv hnc hlv
     go_wp2_with (go_at_call 27;refine HLV.out.mono ?_;rintro e w7 ⟨rfl,hz⟩;have B7:=Hd (bcomp HB6.out hz);clear hz)
     go_roundw
     case rel=>exact ⟨k+1,by omega,by go_num,HN2,B7.out⟩
     case measure=>simp [intOf];omega
    | none=>
     rw [hv] at hlv hnc
     have HV:Hid (rulesC p q=(atI ((allI p).find? (rwB s)),6)):=by
      show _=_
      rw [HV0.out];unfold fitF
      rw [HE.out,if_neg (by simp),HST.out.1 hnc]
     have HLV:=Hd hlv
     clear hv hnc hlv
     go_upto_region 13 with (go_at_call 27;refine HLV.out.mono ?_;rintro e w7 ⟨rfl,hz⟩;have B7:=Hd hz;clear hz)
     clear d2 x0
     have HBr:=Hd (bcomp HB6.out B7.out)
     have HXz:=Hd ((B7.out.block _ (aE HX.out).1).trans HX.out)
     have HFD:=Hd (rwFind _ (allI p) s xb w7 (HI4.out.keep HBr.out) (row_of HXz.out 0 (.string s) rfl))
     go_upto_region 14 with (go_at_call 28;refine HFD.out.mono ?_;rintro e w8 ⟨x,xa,xn,xk,rfl,HPX,hz⟩;have B8:=Hd hz;clear hz)
     have KEY:Hid (∀ A,(w8.alloc A).heap[pb+1+1]?=some (.cells #[.int .i64 0,.int .i64 0] 35 (0,0))):=fun A=>(((bcomp HBr.out (B8.out.alloc B8.out.size A)).block _ (aE HR4.out).1)).trans HR4.out
     have HBz:Hid (∀ A,Below w.heap.size w (w8.alloc A)):=fun A=>bcomp HB4.out (bcomp HBr.out (B8.out.alloc B8.out.size A))
     have HPV:Hid (rulesC p q=((x.line,x.col),6)):=by show _=_;rw [HV.out,<- HPX.out]
     clear HFD HLV
     go_wp2_with (refine wpList_store_row rfl 35 (.tmp 4) (.tmp 60) rfl (pb+1+1) #[.int .i64 x.line,.int .i64 x.col] rfl rfl 35 #[.int .i64 0,.int .i64 0] ?hs60 (by as_aux_lemma=>kernel_rfl) (by as_aux_lemma=>kernel_rfl) (by as_aux_lemma=>kernel_rfl) ?_;exact KEY.out _)
     refine bodyPost_ret (v:=.tuple #[.agg #[.int .i64 x.line,.int .i64 x.col],.int .i64 6]) ?_ rfl ⟨by rw [HPV.out],below_row (HBz.out _) (by have:=HPB.out;omega) _⟩
     try simp only [Act.put]
     exact results_cell_two (P:=Tryz.prog) (fn:=Tryz.f9) rfl _ _ (pb+1+1) 35 #[.int .i64 x.line,.int .i64 x.col] (0,0) _ rfl (setRow_heap _ _ _ _ _ _ (KEY.out _)) Tryz.underlying35 rfl (by kernel_rfl)
   ·obtain rfl:k=p.chans.length:=by omega
    have hlt1:¬ (p.chans.length:Int)<p.chans.length:=by omega
    have HNC:Hid (p.chans.find? (noChan q)=none):=by have:=HQF.out;rwa [List.take_length] at this
    have hal:(allI p).length<=100000:=by have:=HLEN.out;unfold allI;rw [List.length_append];exact this
    clear hk hlt HQF
    go_wp2_with fail
    go_loopw [17,18,19,64] (fun _ _ _ i wr=>∃ k:Nat,k<=(allI p).length/\i=.int .i64 k/\Hid (((allI p).take k).find? (relB q)=none)/\Below W4.heap.size W4 wr) (fun _ _ _ i _=>(allI p).length - (intOf i).toNat)
    case atStart=>exact ⟨0,Nat.zero_le _,rfl,rfl,HB.out⟩
    case round=>
     obtain ⟨k,hk,rfl,HQF,hb⟩:=hrel
     obtain ⟨w6,rfl⟩:∃ x:World,x=wr:=⟨_,rfl⟩
     have HB':=Hd hb
     clear hb
     by_cases hlt:k<(allI p).length
     ·have hlt2:(k:Int)<(allI p).length:=by omega
      obtain ⟨x,hx⟩:∃ x,(allI p)[k]?=some x:=⟨_,lG hlt⟩
      have hst:=find_stepF (relB q) (allI p) k x hx HQF.out
      obtain ⟨bx,ox,av,rfl,_,i0,i1,i2,i3,i4,i5,i6,hri⟩:=atInstr HI4.out hx
      obtain ⟨aa2,ca2,rfl,_⟩:=id hri.1
      have j0:=cell_keep HB'.out i0
      have j1:=cell_keep HB'.out i1
      have j2:=cell_keep HB'.out i2
      have j3:=cell_keep HB'.out i3
      have j4:=cell_keep HB'.out i4
      have j5:=cell_keep HB'.out i5
      have j6:=cell_keep HB'.out i6
      have HST:=Hd hst
      clear hx i0 i1 i2 i3 i4 i5 i6 hri hst
      go_upto_region 19 with fail
      have HAL:Hid (Below w6.heap.size w6 (w6.alloc (.cells #[.int .u8 x.kind,.int .u8 x.op,.string x.dst,.string x.name,.slice aa2 x.args.length ca2,.int .i64 x.line,.int .i64 x.col] 50))):=(bR _ _).alloc (nR _) _
      have HX:=Hd (heap_alloc_new w6 (.cells #[.int .u8 x.kind,.int .u8 x.op,.string x.dst,.string x.name,.slice aa2 x.args.length ca2,.int .i64 x.line,.int .i64 x.col] 50))
      generalize w6.alloc (.cells #[.int .u8 x.kind,.int .u8 x.op,.string x.dst,.string x.name,.slice aa2 x.args.length ca2,.int .i64 x.line,.int .i64 x.col] 50)=W8 at *
      obtain ⟨xb,hxb⟩:∃ xb,w6.heap.size=xb:=⟨_,rfl⟩
      rw [hxb] at HX
      rw [hxb]
      clear hxb j0 j1 j2 j3 j4 j5 j6
      have HB8:=Hd (bcomp HB'.out HAL.out)
      have x0:=row_of HX.out 0 (.int .u8 x.kind) rfl
      have hrb:relB q x=(x.kind == 7 && (levelOf q.sites x.name).isNone):=rfl
      cases hk7:(x.kind == 7) with
      | false=>
       have hk7':(x.kind != 7)=true:=by unfold bne;rw [hk7];rfl
       rw [hk7] at hrb
       have HN2:=Hd (HST.out.2 hrb)
       clear hrb hk7
       go_wp2_with fail
       go_roundw
       case rel=>exact ⟨k+1,by omega,by go_num,HN2,HB8.out⟩
       case measure=>simp [intOf];omega
      | true=>
       have hk7':(x.kind != 7)=false:=by unfold bne;rw [hk7];rfl
       rw [hk7,Bool.true_and] at hrb
       have d3:=row_of ((HB8.out.block _ (aE HQ4.out).1).trans HQ4.out) 3 (.slice sa q.sites.length sc) rfl
       have x3:=row_of HX.out 3 (.string x.name) rfl
       have hlv:=level_any _ q.sites x.name W8 (G4.out.2.2.2.1.keep HB8.out)
       clear hk7
       cases hv:levelOf q.sites x.name with
       | some n=>
        rw [hv] at hlv hrb
        have HN2:=Hd (HST.out.2 hrb)
        have HLV:=Hd hlv
        clear hv hrb hlv
        go_wp2_with (go_at_call 27;refine HLV.out.mono ?_;rintro e w7 ⟨rfl,hz⟩;have B7:=Hd (bcomp HB8.out hz);clear hz)
        go_roundw
        case rel=>exact ⟨k+1,by omega,by go_num,HN2,B7.out⟩
        case measure=>simp [intOf];omega
       | none=>
        rw [hv] at hlv hrb
        have HPV:Hid (rulesC p q=((x.line,x.col),6)):=by
         show _=_
         rw [HV0.out];unfold fitF
         rw [HE.out,if_neg (by simp),HNC.out]
         simp only
         rw [HST.out.1 hrb];rfl
        have HLV:=Hd hlv
        clear hv hrb hlv
        go_upto_region 22 with (go_at_call 27;refine HLV.out.mono ?_;rintro e w7 ⟨rfl,hz⟩;have B7:=Hd hz;clear hz)
        have HBr:=Hd (bcomp HB8.out B7.out)
        have HXz:=Hd ((B7.out.block _ (aE HX.out).1).trans HX.out)
        have x5:=row_of HXz.out 5 (.int .i64 x.line) rfl
        have x6:=row_of HXz.out 6 (.int .i64 x.col) rfl
        have KEY:=Hd ((HBr.out.block _ (aE HR4.out).1).trans HR4.out)
        have HBz:=Hd (bcomp HB4.out HBr.out)
        clear d3 x3 HLV x0
        go_wp2_with (refine wpList_store_row rfl 35 (.tmp 4) (.tmp 82) rfl (pb+1+1) #[.int .i64 x.line,.int .i64 x.col] rfl rfl 35 #[.int .i64 0,.int .i64 0] ?hs82 (by as_aux_lemma=>kernel_rfl) (by as_aux_lemma=>kernel_rfl) (by as_aux_lemma=>kernel_rfl) ?_;exact KEY.out)
        refine bodyPost_ret (v:=.tuple #[.agg #[.int .i64 x.line,.int .i64 x.col],.int .i64 6]) ?_ rfl ⟨by rw [HPV.out],below_row HBz.out (by have:=HPB.out;omega) _⟩
        try simp only [Act.put]
        exact results_cell_two (P:=Tryz.prog) (fn:=Tryz.f9) rfl _ _ (pb+1+1) 35 #[.int .i64 x.line,.int .i64 x.col] (0,0) _ rfl (setRow_heap _ _ _ _ _ _ KEY.out) Tryz.underlying35 rfl (by kernel_rfl)
     ·obtain rfl:k=(allI p).length:=by omega
      have hlt2:¬ ((allI p).length:Int)<(allI p).length:=by omega
      have HNR:Hid ((allI p).find? (relB q)=none):=by have:=HQF.out;rwa [List.take_length] at this
      have HPV:Hid (rulesC p q=((0,0),0)):=by
       show _=_
       rw [HV0.out];unfold fitF
       rw [HE.out,if_neg (by simp),HNC.out]
       simp only
       rw [HNR.out]
      have KEY:=Hd ((HB'.out.block _ (aE HR4.out).1).trans HR4.out)
      have HBz:=Hd (bcomp HB4.out HB'.out)
      clear hk hlt
      go_wp2_with (refine wpList_store_row rfl 35 (.tmp 4) (.tmp 84) rfl (pb+1+1) #[.int .i64 0,.int .i64 0] rfl rfl 35 #[.int .i64 0,.int .i64 0] ?hs84 (by as_aux_lemma=>kernel_rfl) (by as_aux_lemma=>kernel_rfl) (by as_aux_lemma=>kernel_rfl) ?_;exact KEY.out)
      refine bodyPost_ret (v:=.tuple #[.agg #[.int .i64 0,.int .i64 0],.int .i64 0]) ?_ rfl ⟨by rw [HPV.out],below_row HBz.out (by have:=HPB.out;omega) _⟩
      try simp only [Act.put]
      exact results_cell_two (P:=Tryz.prog) (fn:=Tryz.f9) rfl _ _ (pb+1+1) 35 #[.int .i64 0,.int .i64 0] (0,0) _ rfl (setRow_heap _ _ _ _ _ _ KEY.out) Tryz.underlying35 rfl (by kernel_rfl)
end Go.Proofs.YtgllkgedjplpdaaGreatDoor
