/- Contracts of the kit's EqualInputs and EqualWitness for equal ones. Condition: what comes in reads as the plain data. -/
import Derived.Test.YtkjkpddajjmloaaGreatDoorWtE
import Derived.Test.YtkjkpddajjmloaaGreatDoorCalm
set_option linter.all false
set_option maxRecDepth 1000000
set_option maxHeartbeats 6400000
namespace Go.Proofs.YtkjkpddajjmloaaGreatDoor
open Go.ChangeShapes Go.WideShapes Go.ChangeAt Go.RowKit
open Go.Lib (hid)
theorem gsWtJ {α:Type} {a:Array α} {i:Nat} {v:α} (h:a[i]?=some v):i<a.size:=(Array.getElem?_eq_some_iff.1 h).1
theorem lgWtJ {α:Type} {l:List α} {i:Nat} (h:i<l.length):l[i]?=some l[i]:=List.getElem?_eq_getElem h
theorem eqNum_slf (l:List Int):eqL eqNum l l=true:=eqL_refl (fun x=>by simp[eqNum]) l
theorem listsSelf (L:List (List Int)) (av bv:Value) (w:World) (h:RdLists none w av L) (g:RdLists none w bv L) :
  Calls Tryz.prog 40 #[av,bv] w fun e w'=>e=.returned (.bool true)∧Below w.heap.size w w':=by
 obtain⟨a,c,rfl⟩:=h.is
 obtain⟨a',c',rfl⟩:=g.is
 have HX:=hid h
 have HY:=hid g
 have hl:L.length*24≤140737488351232:=h.size
 have e0:((L.length:Int) != (L.length:Int))=false:=by simp
 clear h g
 go_enter Tryz.func40,Tryz.ntmps40
 go_wp2_with fail
 go_loopw [5] (fun i wr=>∃ k:Nat,k≤L.length∧i=.int .i64 k∧Below w.heap.size w wr) (fun i _=>L.length-(intOf i).toNat)
 case atStart=>exact⟨0,Nat.zero_le _,rfl,Below.refl _ _⟩
 case round=>
  obtain⟨k,hk,rfl,hb⟩:=hrel
  by_cases hlt:k<L.length
  ·obtain⟨x,hx⟩:∃ x,L[k]?=some x:=⟨_,lgWtJ hlt⟩
   obtain⟨b,o,xa,xc,rfl,_,c0,hx0⟩:=RdLists.at (HX.out.keep hb) hx
   obtain⟨b',o',xa',xc',rfl,_,c0',hx0'⟩:=RdLists.at (HY.out.keep hb) hx
   have HCE:=hid (fun (z:World)=>by have:=equalNum _ _ _ _ (ext wr z) (hx0.forget.keep (ext_below wr z)) (hx0'.forget.keep (ext_below wr z));rw[eqNum_slf] at this;exact this)
   have hk1:(k:Int)<(L.length:Int):=by omega
   have e1:=ext_cell c0
   have e2:=ext_cell c0'
   clear hx c0 c0' hx0 hx0'
   go_upto_region 6 with fail
   (refine wp_region_calm (by kernel_rfl) (by kernel_rfl) ?_;(repeat (go_big_quiet_step ((go_at_call 66;exact calls_calm (HCE.out _)))));refine wpQuiet_nil ?_;intro wc hwc)
   have HBN:=hid (hb.trans (hwc.mono (by have:=hb.size;omega)))
   clear e1 e2 hwc
   go_wp2_with fail
   go_roundw
   case rel=>exact⟨k+1,by omega,by go_num,HBN.out⟩
   case measure=>simp[intOf];omega
  ·have hk1:¬ (k:Int)<(L.length:Int):=by omega
   go_wp2_with fail
   go_ret
   exact⟨rfl,hb⟩
def WitC (w:World) (l:Int) (A B:List (List Int)) (i:Bool) (c:Array Value):Prop:=∃ va vb,c=#[.int .i64 l,va,vb,.bool i]∧RdLists none w va A∧RdLists none w vb B
theorem WitC.keep {w w':World} {l:Int} {A B:List (List Int)} {i:Bool} {c:Array Value} (h:WitC w l A B i c) (k:Below w.heap.size w w'):WitC w' l A B i c:=by
 obtain⟨va,vb,e,h1,h2⟩:=h;exact⟨va,vb,e,h1.keep k,h2.keep k⟩
theorem witSelf (l:Int) (A B:List (List Int)) (i:Bool) (c d:Array Value) (w:World) (h:WitC w l A B i c) (g:WitC w l A B i d) :
  Calls Tryz.prog 18 #[.agg c,.agg d] w fun e w'=>e=.returned (.bool true)∧Below w.heap.size w w':=by
 obtain⟨v1,v2,rfl,h1,h2⟩:=h
 obtain⟨u1,u2,rfl,g1,g2⟩:=g
 obtain⟨a1,a2,rfl⟩:=h1.is
 obtain⟨a3,a4,rfl⟩:=h2.is
 obtain⟨b1,b2,rfl⟩:=g1.is
 obtain⟨b3,b4,rfl⟩:=g2.is
 have hal:=((Below.refl w.heap.size w).alloc (Nat.le_refl _) (.cells #[.int .i64 l,.slice a1 A.length a2,.slice a3 B.length a4,.bool i] 43)).alloc (by simp) (.cells #[.int .i64 l,.slice b1 A.length b2,.slice b3 B.length b4,.bool i] 43)
 have hx:=heap2_of (w:=w) (A:=.cells #[.int .i64 l,.slice a1 A.length a2,.slice a3 B.length a4,.bool i] 43 (0,0)) (B:=.cells #[.int .i64 l,.slice b1 A.length b2,.slice b3 B.length b4,.bool i] 43 (0,0)) (Below.refl _ _)
 have HB:=hid hal
 have HC1:=hid (listsSelf A _ _ _ (h1.keep hal) (g1.keep hal))
 have HR2:=hid (h2.keep hal)
 have GR2:=hid (g2.keep hal)
 have p0:=row_of hx.1 0 (.int .i64 l) rfl
 have p1:=row_of hx.1 1 (.slice a1 A.length a2) rfl
 have p2:=row_of hx.1 2 (.slice a3 B.length a4) rfl
 have p3:=row_of hx.1 3 (.bool i) rfl
 have q0:=row_of hx.2.1 0 (.int .i64 l) rfl
 have q1:=row_of hx.2.1 1 (.slice b1 A.length b2) rfl
 have q2:=row_of hx.2.1 2 (.slice b3 B.length b4) rfl
 have q3:=row_of hx.2.1 3 (.bool i) rfl
 have e0:(l==l)=true:=by simp
 have e1:(i==i)=true:=by simp
 clear hal hx h1 h2 g1 g2
 go_enter Tryz.func18,Tryz.ntmps18
 go_upto_region 1 with fail
 generalize (w.alloc (.cells #[.int .i64 l,.slice a1 A.length a2,.slice a3 B.length a4,.bool i] 43)).alloc (.cells #[.int .i64 l,.slice b1 A.length b2,.slice b3 B.length b4,.bool i] 43)=W at *
 go_wp2_with (go_at_call 40;first|(with_reducible refine HC1.out.mono ?_;rintro e z ⟨rfl,hz⟩;have BZ:=hid hz;have r2:=cell_keep hz p2;have r3:=cell_keep hz p3;have s2:=cell_keep hz q2;have s3:=cell_keep hz q3;have HC2:=hid (listsSelf B _ _ _ (HR2.out.keep hz) (GR2.out.keep hz));clear hz HC1)|(with_reducible refine HC2.out.mono ?_;rintro e z2 ⟨rfl,hz⟩;have B2:=hid (bcomp BZ.out hz);have t3:=cell_keep hz r3;have u3:=cell_keep hz s3;clear hz))
 go_ret
 exact⟨rfl,bcomp HB.out B2.out⟩
theorem check2_any (m p:Nat) (i j:Bool) (w:World) (hm:w.cell? ⟨m,3,none⟩=some (.bool i)) (hp:w.cell? ⟨p,3,none⟩=some (.bool j)) :
  Calls Tryz.prog 38 #[.pointer (some ⟨m,0,none⟩),.pointer (some ⟨p,0,none⟩)] w fun e w'=>e=.returned (.int .i64 (if i=j then 0 else 4))∧w=w':=by
 cases i <;> cases j <;>
 ·go_enter Tryz.func38,Tryz.ntmps38
  go_wp2_with fail
  go_ret
  exact⟨rfl,rfl⟩
def Check1 (w:World) (gm:Nat) (E:Int) (I:Bool) (e:Ending) (w':World):Prop:=
 e=.returned (.int .i64 E)∧(∃ v:Bool,w'.cell? ⟨gm,3,none⟩=some (.bool v)∧(E=0→v=I))∧(∀ b,b≠gm→b<w.heap.size→w'.heap[b]?=w.heap[b]?)∧∀ n a,n≤gm→Below n a w→Below n a w'
theorem check1_any (f:FlatD) (q:PolD) (cF cP:Array Value) (level:Int) (av bv:Value) (A B:List (List Int)) (i:Bool) (gf gq gw gm:Nat) (w:World) (hF:FlatC w f cF) (hP:PolC w q cP) (hL:Laid w) (hT:BitsAt w) (hlv:InI64 level) (ha:RdLists none w av A) (hb:RdLists none w bv B) (hzA:∀ l∈A,l.length≤1000000) (hzB:∀ l∈B,l.length≤1000000)
  (h1:w.heap[gf]?=some (.cells cF 26 (0,0))) (h2:w.heap[gq]?=some (.cells cP 30 (0,0))) (h3:w.heap[gw]?=some (.cells #[.int .i64 level,av,bv,.bool i] 43 (0,0))) (h4:w.heap[gm]?=some (.cells #[.int .i64 0,.slice none 0 0,.slice none 0 0,.bool false] 43 (0,0))) :
  Calls Tryz.prog 37 #[.pointer (some ⟨gf,0,none⟩),.pointer (some ⟨gq,0,none⟩),.pointer (some ⟨gw,0,none⟩),.pointer (some ⟨gm,0,none⟩)] w (Check1 w gm (makeE f q level A B) (implB (runT f A q.steps) (runT f B q.steps))):=by
 obtain⟨aa,ac,rfl⟩:=ha.is
 obtain⟨ba,bc,rfl⟩:=hb.is
 have hgm:gm<w.heap.size:=(gsWtJ h4)
 have c0:=row_of h3 0 (.int .i64 level) rfl
 have c1:=row_of h3 1 (.slice aa A.length ac) rfl
 have c2:=row_of h3 2 (.slice ba B.length bc) rfl
 have HFI:=hid hF.info
 have HPI:=hid hP.info
 have H1:=hid h1
 have H2:=hid h2
 have H4:=hid h4
 obtain⟨E,hE⟩:∃ E,makeE f q level A B=E:=⟨_,rfl⟩
 rw[hE]
 by_cases h0:E=0
 ·subst h0
  have HM:=hid (make_good f q cF cP level _ _ A B w hF hP hL hT hlv ha hb hzA hzB hE)
  clear hF hP hL hT hlv ha hb hzA hzB hE h1 h2 h3 h4
  go_enter Tryz.func37,Tryz.ntmps37
  go_wp2_with (first|(refine wpList_load_row rfl 26 (.tmp 0) rfl gf rfl 26 cF (0,0) _ ?l1 Tryz.underlying26 rfl ?i1 ?_;exact H1.out;exact HFI.out)|(refine wpList_load_row rfl 30 (.tmp 1) rfl gq rfl 30 cP (0,0) _ ?l2 Tryz.underlying30 rfl ?i2 ?_;exact H2.out;exact HPI.out)|(go_at_call 19;refine HM.out.mono ?_;rintro e z ⟨va,vsa,vb,vsb,rfl,ho1,ho2,hz⟩;obtain⟨xa,xb,rfl,-⟩:=own_read ho1.own;obtain⟨ya,yb,rfl,-⟩:=own_read ho2.own;clear ho1 ho2;have BZ:=hid hz;have HGM:=hid ((hz.block _ hgm).trans H4.out);clear hz)|(refine wpList_store_row rfl 43 (.tmp 3) (.tmp 15) rfl gm #[.int .i64 level,.slice xa vsa.length xb,.slice ya vsb.length yb,.bool (implB (runT f A q.steps) (runT f B q.steps))] rfl rfl 43 #[.int .i64 0,.slice none 0 0,.slice none 0 0,.bool false] ?h3 (by as_aux_lemma=>kernel_rfl) (by as_aux_lemma=>kernel_rfl) (by as_aux_lemma=>kernel_rfl) ?_;exact HGM.out))
  go_ret
  have hh:=setRow_heap _ _ _ #[.int .i64 level,.slice xa vsa.length xb,.slice ya vsb.length yb,.bool (implB (runT f A q.steps) (runT f B q.steps))] _ _ HGM.out
  exact⟨rfl,⟨_,row_of hh 3 _ rfl,fun _=>rfl⟩,fun b hne hl=>(setRow_other _ _ _ _ hne).trans (BZ.out.block b hl),fun n a hn hba=>below_row (hba.trans (BZ.out.mono (by omega))) hn _⟩
 ·have HM:=hid (make_bad f q cF cP level _ _ A B w hF hP hL hT hlv ha hb hzA hzB hE h0)
  clear hF hP hL hT hlv ha hb hzA hzB hE h1 h2 h3 h4
  go_enter Tryz.func37,Tryz.ntmps37
  go_wp2_with (first|(refine wpList_load_row rfl 26 (.tmp 0) rfl gf rfl 26 cF (0,0) _ ?l4 Tryz.underlying26 rfl ?i4 ?_;exact H1.out;exact HFI.out)|(refine wpList_load_row rfl 30 (.tmp 1) rfl gq rfl 30 cP (0,0) _ ?l5 Tryz.underlying30 rfl ?i5 ?_;exact H2.out;exact HPI.out)|(go_at_call 19;refine HM.out.mono ?_;rintro e z ⟨rfl,hz⟩;have BZ:=hid hz;have HGM:=hid ((hz.block _ hgm).trans H4.out);clear hz)|(refine wpList_store_row rfl 43 (.tmp 3) (.tmp 15) rfl gm #[.int .i64 0,.slice none 0 0,.slice none 0 0,.bool false] rfl rfl 43 #[.int .i64 0,.slice none 0 0,.slice none 0 0,.bool false] ?h6 (by as_aux_lemma=>kernel_rfl) (by as_aux_lemma=>kernel_rfl) (by as_aux_lemma=>kernel_rfl) ?_;exact HGM.out))
  go_ret
  have hh:=setRow_heap _ _ _ #[.int .i64 0,.slice none 0 0,.slice none 0 0,.bool false] _ _ HGM.out
  exact⟨rfl,⟨_,row_of hh 3 _ rfl,fun h=>absurd h h0⟩,fun b hne hl=>(setRow_other _ _ _ _ hne).trans (BZ.out.block b hl),fun n a hn hba=>below_row (hba.trans (BZ.out.mono (by omega))) hn _⟩
def checkE (f:FlatD) (q:PolD) (level:Int) (A B:List (List Int)) (i:Bool):Int:=if makeE f q level A B≠0 then makeE f q level A B else if implB (runT f A q.steps) (runT f B q.steps)=i then 0 else 4
theorem check_any (f:FlatD) (q:PolD) (cF cP cW:Array Value) (level:Int) (A B:List (List Int)) (i:Bool) (w:World) (hF:FlatC w f cF) (hP:PolC w q cP) (hW:WitC w level A B i cW) (hL:Laid w) (hT:BitsAt w) (hlv:InI64 level) (hzA:∀ l∈A,l.length≤1000000) (hzB:∀ l∈B,l.length≤1000000) :
  Calls Tryz.prog 16 #[.agg cF,.agg cP,.agg cW] w fun e w'=>e=.returned (.int .i64 (checkE f q level A B i))∧Below w.heap.size w w':=by
 obtain⟨av,bv,rfl,ha,hb⟩:=hW
 obtain⟨R,hR⟩:∃ R,checkE f q level A B i=R:=⟨_,rfl⟩
 rw[hR]
 have HR:=hid hR
 clear hR
 have hmf:∀ (fn:Fn) (first cap:Array Value) (w:World),(Instr.makeFunc fn first cap).run Tryz.prog w=.ok (.func fn first cap) w:=fun _ _ _ _=>rfl
 obtain⟨x1,x2,x3,x4,x5⟩:=heap4_of w (.cells cF 26 (0,0)) (.cells cP 30 (0,0)) (.cells #[.int .i64 level,av,bv,.bool i] 43 (0,0)) (.cells #[.int .i64 0,.slice none 0 0,.slice none 0 0,.bool false] 43 (0,0))
 have X1:=hid x1
 have X2:=hid x2
 have X3:=hid x3
 have X4:=hid x4
 have X5:=hid x5
 have HF:=hid (hF.keep x5)
 have HP:=hid (hP.keep x5)
 have HA:=hid (ha.keep x5)
 have HB:=hid (hb.keep x5)
 have HL:=hid (hL.keep x5)
 have HT:=hid (hT.keep x5)
 have HLV:=hid hlv
 have HZA:=hid hzA
 have HZB:=hid hzB
 obtain⟨a1,a2,rfl⟩:=ha.is
 obtain⟨b1,b2,rfl⟩:=hb.is
 clear x1 x2 x3 x4 x5 hF hP ha hb hL hT hlv hzA hzB
 go_enter Tryz.func16,Tryz.ntmps16
 go_upto_region 2 with fail
 generalize (((w.alloc (.cells cF 26)).alloc (.cells cP 30)).alloc (.cells #[.int .i64 level,.slice a1 A.length a2,.slice b1 B.length b2,.bool i] 43)).alloc (.cells #[.int .i64 0,.slice none 0 0,.slice none 0 0,.bool false] 43)=W at *
 have hs4:w.heap.size+1+1+1<W.heap.size:=(gsWtJ X4.out)
 have hal:=(Below.refl W.heap.size W).alloc (Nat.le_refl _) (.cells #[.func (.func 37) #[] #[.pointer (some ⟨w.heap.size,0,none⟩),.pointer (some ⟨w.heap.size+1,0,none⟩),.pointer (some ⟨w.heap.size+1+1,0,none⟩),.pointer (some ⟨w.heap.size+1+1+1,0,none⟩)],.func (.func 38) #[] #[.pointer (some ⟨w.heap.size+1+1+1,0,none⟩),.pointer (some ⟨w.heap.size+1+1,0,none⟩)]] 80)
 have hfn:=heap_alloc_new W (.cells #[.func (.func 37) #[] #[.pointer (some ⟨w.heap.size,0,none⟩),.pointer (some ⟨w.heap.size+1,0,none⟩),.pointer (some ⟨w.heap.size+1+1,0,none⟩),.pointer (some ⟨w.heap.size+1+1+1,0,none⟩)],.func (.func 38) #[] #[.pointer (some ⟨w.heap.size+1+1+1,0,none⟩),.pointer (some ⟨w.heap.size+1+1,0,none⟩)]] 80)
 have c0:=row_of hfn 0 _ rfl
 have c1:=row_of hfn 1 _ rfl
 have HC:=hid (check1_any f q cF cP level _ _ A B i w.heap.size (w.heap.size+1) (w.heap.size+1+1) (w.heap.size+1+1+1) _ (HF.out.keep hal) (HP.out.keep hal) (HL.out.keep hal) (HT.out.keep hal) HLV.out (HA.out.keep hal) (HB.out.keep hal) HZA.out HZB.out ((hal.block _ (by omega)).trans X1.out) ((hal.block _ (by omega)).trans X2.out) ((hal.block _ (by omega)).trans X3.out) ((hal.block _ hs4).trans X4.out))
 have d3:=row_of ((hal.block _ (by omega)).trans X3.out) 3 (.bool i) rfl
 have HB5:=hid (bcomp X5.out hal)
 have hs5:W.heap.size<(W.alloc (.cells #[.func (.func 37) #[] #[.pointer (some ⟨w.heap.size,0,none⟩),.pointer (some ⟨w.heap.size+1,0,none⟩),.pointer (some ⟨w.heap.size+1+1,0,none⟩),.pointer (some ⟨w.heap.size+1+1+1,0,none⟩)],.func (.func 38) #[] #[.pointer (some ⟨w.heap.size+1+1+1,0,none⟩),.pointer (some ⟨w.heap.size+1+1,0,none⟩)]] 80)).heap.size:=by simp
 clear hal hfn
 go_upto_region 3 with fail
 generalize W.alloc (.cells #[.func (.func 37) #[] #[.pointer (some ⟨w.heap.size,0,none⟩),.pointer (some ⟨w.heap.size+1,0,none⟩),.pointer (some ⟨w.heap.size+1+1,0,none⟩),.pointer (some ⟨w.heap.size+1+1+1,0,none⟩)],.func (.func 38) #[] #[.pointer (some ⟨w.heap.size+1+1+1,0,none⟩),.pointer (some ⟨w.heap.size+1+1,0,none⟩)]] 80)=W1 at *
 obtain⟨E,hE⟩:∃ E,makeE f q level A B=E:=⟨_,rfl⟩
 obtain⟨I,hI⟩:∃ I,implB (runT f A q.steps) (runT f B q.steps)=I:=⟨_,rfl⟩
 have HRE:Hid (R=if E≠0 then E else if I=i then 0 else 4):=by show R=_;rw[← HR.out,checkE,hE,hI]
 rw[hE,hI] at HC
 clear hE hI HR HF HP HA HB HL HT X1 X2 X3 X4 X5
 go_wp2_with fail
 go_loopw [17] (fun j wr=>(j=.int .i64 0∧wr=W1) ∨ (j=.int .i64 1∧Hid (E=0)∧Hid (wr.cell? ⟨w.heap.size+1+1+1,3,none⟩=some (.bool I))∧Hid (∀ b,b≠w.heap.size+1+1+1→b<W1.heap.size→wr.heap[b]?=W1.heap[b]?)∧Hid (Below w.heap.size w wr)) ∨ (j=.int .i64 2∧Hid (R=0)∧Hid (Below w.heap.size w wr))) (fun j _=>2-(intOf j).toNat)
 case atStart=>exact .inl ⟨rfl,rfl⟩
 case round=>
  rcases hrel with ⟨rfl,rfl⟩|⟨rfl,HE0,HI,HO,HBW⟩|⟨rfl,HR0,HBW⟩
  ·by_cases h0:E=0
   ·subst h0
    have h00:((0:Int) != 0)=false:=rfl
    go_wp2_with (go_at_call 37;refine HC.out.mono ?_;rintro e z ⟨rfl,hv,ho,hbz⟩;have HV:=hid hv;have HOZ:=hid ho;have HBZ:=hid (hbz _ _ (by omega) HB5.out);clear hv ho hbz)
    go_roundw
    case rel=>
     obtain⟨v,hv,hv2⟩:=HV.out
     have hvv:v=I:=hv2 (by first|trivial|rfl)
     subst hvv
     exact .inr (.inl ⟨by go_num,by first|trivial|rfl,hv,HOZ.out,HBZ.out⟩)
    case measure=>simp[intOf]
   ·have h1:(E != 0)=true:=by simpa using h0
    obtain rfl:R=E:=by rw[HRE.out,if_pos h0]
    go_wp2_with (go_at_call 37;refine HC.out.mono ?_;rintro e z ⟨rfl,hv,ho,hbz⟩;have HBZ:=hid (hbz _ _ (by omega) HB5.out);clear hv ho hbz)
    go_ret
    exact⟨rfl,HBZ.out⟩
  ·obtain rfl:E=0:=HE0.out
   obtain⟨w2,rfl⟩:∃ x:World,x=wr:=⟨_,rfl⟩
   have e1:=(World.cell?_of_block (HO.out W.heap.size (by omega) hs5)).trans c1
   have e3:=(World.cell?_of_block (HO.out (w.heap.size+1+1) (by omega) (by omega))).trans d3
   have hc2:=check2_any (w.heap.size+1+1+1) (w.heap.size+1+1) I i w2 HI.out e3
   have h00:((0:Int) != 0)=false:=rfl
   have h40:((4:Int) != 0)=true:=rfl
   by_cases hi:I=i
   ·rw[if_pos hi] at hc2
    have HC2:=hid hc2
    have HR0:Hid (R=0):=by show R=0;rw[HRE.out,if_neg (by simp),if_pos hi]
    clear hc2 c0 c1
    go_wp2_with (go_at_call 38;refine HC2.out.mono ?_;rintro e z ⟨rfl,rfl⟩)
    go_roundw
    case rel=>exact .inr (.inr ⟨by go_num,HR0.out,HBW.out⟩)
    case measure=>simp[intOf]
   ·rw[if_neg hi] at hc2
    have HC2:=hid hc2
    obtain rfl:R=4:=by rw[HRE.out,if_neg (by simp),if_neg hi]
    clear hc2 c0 c1
    go_wp2_with (go_at_call 38;refine HC2.out.mono ?_;rintro e z ⟨rfl,rfl⟩)
    go_ret
    exact⟨rfl,HBW.out⟩
  ·obtain rfl:R=0:=HR0.out
   go_wp2_with fail
   go_ret
   exact⟨rfl,HBW.out⟩
end Go.Proofs.YtkjkpddajjmloaaGreatDoor
