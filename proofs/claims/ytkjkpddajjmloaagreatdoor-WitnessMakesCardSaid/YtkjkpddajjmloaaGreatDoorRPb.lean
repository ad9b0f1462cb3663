/- Contracts of the reference's inputs: input, Inputs, Trimmed. Condition: what comes in reads as the plain data. -/
import Derived.Test.YtkjkpddajjmloaaGreatDoorRLd
import Derived.Test.YtkjkpddajjmloaaGreatDoorAgT
import Derived.Test.YtkjkpddajjmloaaGreatDoorLMe
import Derived.Test.YtkjkpddajjmloaaGreatDoorKOl
set_option linter.all false
set_option maxRecDepth 1000000
set_option maxHeartbeats 6400000
namespace Go.Proofs.YtkjkpddajjmloaaGreatDoor
open Go.ChangeShapes Go.WideShapes Go.ChangeAt Go.RowKit
open Go.Lib (hid)
theorem gsRPb {α:Type} {a:Array α} {i:Nat} {v:α} (h:a[i]?=some v):i<a.size:=(Array.getElem?_eq_some_iff.1 h).1
theorem lgRPb {α:Type} {l:List α} {i:Nat} (h:i<l.length):l[i]?=some l[i]:=List.getElem?_eq_getElem h
theorem run_max2 {P:Program} (ats:Array TypeId) (ty:TypeId) (a b:Int) (w:World):(Builtin.max_ ats ty #[.int .i64 a,.int .i64 b]).run P w=.ok (.int .i64 (max a b)) w:=by
 have:(if a<b then b else a)=max a b:=by split <;> omega
 simp[Builtin.max_,Builtin.max2,this]
theorem allN_snoc (n:Nat) (f:Nat→Bool):allN (n+1) f=(allN n f&&f n):=by simp[allN,List.range_succ]
theorem allN_nil (f:Nat→Bool):allN 0 f=true:=by simp[allN]
theorem FlatC.width0 {w:World} {f:FlatD} {c:Array Value} (h:FlatC w f c):c[0]?=some (.int .i64 f.width):=by obtain⟨a,b,d,e,rfl,_⟩:=h;rfl
theorem refInput (av:Value) (A:List (List Int)) (c k:Nat) (w:World) (h:RdLists none w av A) (hc:c≤1000000) (hk:k≤140737488351232) :
  Calls Tryz.prog 60 #[av,.int .i64 c,.int .i64 k] w fun e w'=>e=.returned (.int .u64 (inpAt A c k))∧w=w':=by
 obtain⟨aa,ac,rfl⟩:=h.is
 obtain⟨V,hV⟩:∃ V,inpAt A c k=V:=⟨_,rfl⟩
 rw[hV]
 have HV:=hid hV
 have HA:=hid h
 have hal:A.length*24≤140737488351232:=h.size
 clear hV h
 go_enter Tryz.func60,Tryz.ntmps60
 by_cases hlt:c<A.length
 ·have hlt1:(c:Int)<(A.length:Int):=by omega
  obtain⟨l,hl⟩:∃ l,A[c]?=some l:=⟨_,lgRPb hlt⟩
  obtain⟨b,o,v,rfl,cc,hr⟩:=lists_at HA.out c l hl
  have HIN:Hid (∀ x,l[k]?=some x→V=x):=fun x hx=>by rw[← HV.out];unfold inpAt inAt;rw[hl];simp[hx]
  have HNO:Hid (l[k]?=none→V=0):=fun hx=>by rw[← HV.out];unfold inpAt inAt;rw[hl];simp[hx]
  obtain⟨la,lc,rfl⟩:=hr.is
  have hll:l.length*8≤140737488351232:=hr.size
  have HR:=hid hr
  clear hl hr HV
  by_cases hkl:k<l.length
  ·have hkl1:(k:Int)<(l.length:Int):=by omega
   obtain⟨x,hx⟩:∃ x,l[k]?=some x:=⟨_,lgRPb hkl⟩
   obtain⟨b2,o2,rfl,-,cx,hxi⟩:=atNum HR.out hx
   obtain rfl:V=x:=HIN.out x hx
   clear hx HIN HNO hxi
   go_wp2_with fail
   go_ret
   exact⟨rfl,rfl⟩
  ·have hkl1:¬ (k:Int)<(l.length:Int):=by omega
   obtain rfl:V=0:=HNO.out (List.getElem?_eq_none (by omega))
   clear HIN HNO
   go_wp2_with fail
   go_ret
   exact⟨rfl,rfl⟩
 ·have hlt1:¬ (c:Int)<(A.length:Int):=by omega
  obtain rfl:V=0:=by rw[← HV.out];unfold inpAt inAt;rw[List.getElem?_eq_none (by omega)];rfl
  clear HV
  go_wp2_with fail
  go_ret
  exact⟨rfl,rfl⟩
theorem lenAt_some {A:List (List Int)} {c:Nat} {l:List Int} (h:A[c]?=some l):lenAt A c=l.length:=by unfold lenAt;rw[List.getD_eq_getElem?_getD,h];rfl
theorem lenAt_none {A:List (List Int)} {c:Nat} (h:¬ c<A.length):lenAt A c=0:=by unfold lenAt;rw[List.getD_eq_getElem?_getD,List.getElem?_eq_none (by omega)];rfl
theorem refInputs (L:LatD) (v lvs av bv:Value) (level:Int) (levels:List Int) (A B:List (List Int)) (w:World) (h:RefLat w v L) (hlv:InI64 level) (hr:RdRow kInt none w lvs levels) (hlen:levels.length≤1000000) (ha:RdLists none w av A) (hb:RdLists none w bv B) :
  Calls Tryz.prog 32 #[v,.int .i64 level,lvs,av,bv] w fun e w'=>e=.returned (.tuple #[.bool (inpErr L level levels A B==0&&inpSame L level levels A B),.int .i64 (inpErr L level levels A B)])∧Below w.heap.size w w':=by
 obtain⟨la,lc,rfl⟩:=hr.is
 obtain⟨aa,ac,rfl⟩:=ha.is
 obtain⟨ba,bc,rfl⟩:=hb.is
 have hal:A.length*24≤140737488351232:=ha.size
 have hbl:B.length*24≤140737488351232:=hb.size
 obtain⟨E,hE⟩:∃ E,inpErr L level levels A B=E:=⟨_,rfl⟩
 obtain⟨S,hS⟩:∃ S,inpSame L level levels A B=S:=⟨_,rfl⟩
 rw[hE,hS]
 have HE:=hid hE
 have HS:=hid hS
 have HKN:=hid (refKnown L v _ level levels w h hlv hr hlen)
 have HL:=hid h
 have HR:=hid hr
 have HA:=hid ha
 have HB:=hid hb
 have HLV:=hid hlv
 obtain⟨lo,p,g,c,B',K,rfl,-⟩:=h
 have hmx:=fun ats ty a b w=>run_max2 (P:=Tryz.prog) ats ty a b w
 clear hE hS hr ha hb hlv
 go_enter Tryz.func32,Tryz.ntmps32
 obtain⟨kn,hkn⟩:∃ kn,knownL L level levels=kn:=⟨_,rfl⟩
 rw[hkn] at HKN
 have HKD:=hid hkn
 clear hkn
 cases kn
 ·obtain rfl:E=3:=by rw[← HE.out,inpErr,if_pos (.inl HKD.out)]
  go_wp2_with (go_at_call 58;refine HKN.out.mono ?_;rintro e z ⟨rfl,hz⟩;have BZ:=hid hz;clear hz)
  go_ret2
  exact⟨rfl,BZ.out⟩
 by_cases hA:levels.length<A.length
 ·obtain rfl:E=3:=by rw[← HE.out,inpErr,if_pos (.inr (.inl hA))]
  have hA1:(levels.length:Int)<(A.length:Int):=by omega
  go_wp2_with (go_at_call 58;refine HKN.out.mono ?_;rintro e z ⟨rfl,hz⟩;have BZ:=hid hz;clear hz)
  go_ret2
  exact⟨rfl,BZ.out⟩
 have hA1:¬ (levels.length:Int)<(A.length:Int):=by omega
 by_cases hB:levels.length<B.length
 ·obtain rfl:E=3:=by rw[← HE.out,inpErr,if_pos (.inr (.inr hB))]
  have hB1:(levels.length:Int)<(B.length:Int):=by omega
  go_wp2_with (go_at_call 58;refine HKN.out.mono ?_;rintro e z ⟨rfl,hz⟩;have BZ:=hid hz;clear hz)
  go_ret2
  exact⟨rfl,BZ.out⟩
 have hB1:¬ (levels.length:Int)<(B.length:Int):=by omega
 obtain rfl:E=0:=by
  rw[← HE.out,inpErr,if_neg]
  rintro (h|h|h)
  ·rw[HKD.out] at h;cases h
  ·exact hA h
  ·exact hB h
 obtain⟨F,hF⟩:∃ F:Nat→Bool,(fun c=>!leL L (levels.getD c 0) level||chanSame A B c)=F:=⟨_,rfl⟩
 have HFD:Hid (∀ c,F c=(!leL L (levels.getD c 0) level||chanSame A B c)):=fun c=>by rw[← hF]
 have HSF:Hid (S=allN levels.length F):=by show S=_;rw[← HS.out,← hF];rfl
 clear HE HS HKD hF
 go_upto_region 5 with (go_at_call 58;refine HKN.out.mono ?_;rintro e z ⟨rfl,hz⟩;have BZ:=hid hz;clear hz)
 clear HKN hA hB hA1 hB1
 have HL1:=hid (HL.out.keep BZ.out)
 have HR1:=hid (HR.out.keep BZ.out)
 have HA1:=hid (HA.out.keep BZ.out)
 have HB1:=hid (HB.out.keep BZ.out)
 clear HL HR HA HB
 go_wp2_with fail
 go_loopw [12,13,14,15] (fun sv cv _ _ wr=>∃ (q:Nat) (s:Bool),q≤levels.length∧sv=.bool s∧cv=.int .i64 q∧Hid (s=allN q F)∧z=wr) (fun _ cv _ _ _=>levels.length-(intOf cv).toNat)
 case atStart=>exact⟨0,true,Nat.zero_le _,rfl,rfl,(by show _=_;rw[allN_nil]),rfl⟩
 case round=>
  obtain⟨q,s,hq,rfl,rfl,HQ,rfl⟩:=hrel
  by_cases hlt:q<levels.length
  ·have hlt1:(q:Int)<(levels.length:Int):=by omega
   obtain⟨y,hy⟩:∃ y,levels[q]?=some y:=⟨_,lgRPb hlt⟩
   obtain⟨yb,yo,rfl,_,d0,hyi⟩:=atInt HR1.out hy
   obtain⟨TT,hT⟩:∃ T,leL L y level=T:=⟨_,rfl⟩
   have hle:=refLe L _ y level z HL1.out hyi HLV.out
   rw[hT] at hle
   have HLE:=hid hle
   have HFQ:Hid (F q=(!TT||chanSame A B q)):=by show _=_;rw[HFD.out,List.getD_eq_getElem?_getD,hy,← hT];rfl
   have HSN:=hid (allN_snoc q F)
   clear hy hT hle
   go_upto_if 46 with fail
   go_cut [14] from 43 to 54 (fun c14 wx=>c14=.int .i64 (lenAt A q:Nat)∧z=wx)
   case first=>
    by_cases hqa:q<A.length
    ·have hqa1:(q:Int)<(A.length:Int):=by omega
     obtain⟨l,hl⟩:∃ l,A[q]?=some l:=⟨_,lgRPb hqa⟩
     obtain⟨b,o,v,rfl,cc,hr⟩:=lists_at HA1.out q l hl
     obtain⟨ra,rc,rfl⟩:=hr.is
     have HLA:=hid (lenAt_some hl)
     clear hl hr
     try rw[decide_eq_true hqa1]
     go_wp2_with fail
     go_meet
     exact⟨by rw[HLA.out],rfl⟩
    ·have hqa1:¬ (q:Int)<(A.length:Int):=by omega
     have HLA:=hid (lenAt_none hqa)
     try rw[decide_eq_false hqa1]
     go_wp2_with fail
     go_meet
     exact⟨by rw[HLA.out];try rfl,rfl⟩
   case rest=>
   obtain⟨rfl,rfl⟩:=hcut
   obtain⟨n1,hn1⟩:∃ n1:Nat,lenAt A q=n1:=⟨_,rfl⟩
   rw[hn1]
   have HN1:=hid hn1
   clear hn1
   go_upto_if 57 with fail
   go_cut [14] from 54 to 65 (fun c14 wx=>c14=.int .i64 ((max n1 (lenAt B q):Nat):Int)∧z=wx)
   case first=>
    by_cases hqb:q<B.length
    ·have hqb1:(q:Int)<(B.length:Int):=by omega
     obtain⟨l,hl⟩:∃ l,B[q]?=some l:=⟨_,lgRPb hqb⟩
     obtain⟨b,o,v,rfl,cc,hr⟩:=lists_at HB1.out q l hl
     obtain⟨ra,rc,rfl⟩:=hr.is
     have HLB:=hid (lenAt_some hl)
     clear hl hr
     try rw[decide_eq_true hqb1]
     go_wp2_with fail
     go_meet
     exact⟨by rw[HLB.out];congr 1;omega,rfl⟩
    ·have hqb1:¬ (q:Int)<(B.length:Int):=by omega
     have HLB:=hid (lenAt_none hqb)
     try rw[decide_eq_false hqb1]
     go_wp2_with fail
     go_meet
     exact⟨by rw[HLB.out];congr 1;omega,rfl⟩
   case rest=>
   obtain⟨rfl,rfl⟩:=hcut
   obtain⟨N,hN⟩:∃ N:Nat,max n1 (lenAt B q)=N:=⟨_,rfl⟩
   rw[hN]
   obtain⟨G,hG⟩:∃ G:Nat→Bool,(fun k=>inpAt A q k==inpAt B q k)=G:=⟨_,rfl⟩
   have HGD:Hid (∀ k,G k=(inpAt A q k==inpAt B q k)):=fun k=>by rw[← hG]
   have HCS:Hid (chanSame A B q=allN N G):=by show _=_;rw[chanSame,HN1.out,hN,hG]
   have hNb:N≤140737488351232:=by
    have e1:lenAt A q≤140737488351232:=by
     by_cases hqa:q<A.length
     ·obtain⟨l,hl⟩:∃ l,A[q]?=some l:=⟨_,lgRPb hqa⟩
      obtain⟨b,o,v,_,cc,hr⟩:=lists_at HA1.out q l hl
      rw[lenAt_some hl]
      have:=hr.size
      have h8:l.length*8≤140737488351232:=this
      omega
     ·rw[lenAt_none hqa];omega
    have e2:lenAt B q≤140737488351232:=by
     by_cases hqa:q<B.length
     ·obtain⟨l,hl⟩:∃ l,B[q]?=some l:=⟨_,lgRPb hqa⟩
      obtain⟨b,o,v,_,cc,hr⟩:=lists_at HB1.out q l hl
      rw[lenAt_some hl]
      have:=hr.size
      have h8:l.length*8≤140737488351232:=this
      omega
     ·rw[lenAt_none hqa];omega
    rw[HN1.out] at e1
    omega
   clear hN hG HN1
   go_wp2_with fail
   go_loopw [12,15] (fun sv kv wr=>∃ (k:Nat) (t:Bool),k≤N∧sv=.bool t∧kv=.int .i64 k∧Hid (t=(s&&allN k G))∧Hid (TT=true ∨ k=0)∧z=wr) (fun _ kv _=>N-(intOf kv).toNat)
   case atStart=>exact⟨0,s,Nat.zero_le _,rfl,rfl,(by show _=_;rw[allN_nil,Bool.and_true]),.inr rfl,rfl⟩
   case round=>
    obtain⟨k,t,hk,rfl,rfl,HT,HZ,rfl⟩:=hrel
    by_cases hkN:k<N
    ·have hkN1:(k:Int)<(N:Int):=by omega
     cases TT
     ·obtain rfl:k=0:=by rcases HZ.out with h|h;cases h;exact h
      have HQ2:Hid (t=allN (q+1) F):=by
       show t=_
       rw[HSN.out,HFQ.out,HT.out,allN_nil,HQ.out];simp
      go_wp2_with (go_at_call 59;refine HLE.out.mono ?_;rintro e z1 ⟨rfl,rfl⟩)
      go_roundw
      case rel=>exact⟨q+1,t,by omega,rfl,by go_num,HQ2,by first|trivial|rfl⟩
      case measure=>simp[intOf];omega
     ·have HT2:Hid ((t&&(inpAt A q k==inpAt B q k))=(s&&allN (k+1) G)):=by show _=_;rw[allN_snoc,← Bool.and_assoc,← HT.out,HGD.out]
      go_upto_region 17 with (go_at_call 59;refine HLE.out.mono ?_;rintro e z1 ⟨rfl,rfl⟩)
      cases t
      ·have HT3:Hid (false=(s&&allN (k+1) G)):=by show _=_;rw[← HT2.out];rfl
       clear HT2 HT
       go_wp2_with fail
       go_roundw
       case rel=>exact⟨k+1,false,by omega,rfl,by go_num,HT3,(by first|exact .inl trivial|exact .inl rfl),by first|trivial|rfl⟩
       case measure=>simp[intOf];omega
      ·have h1:=refInput _ A q k z HA1.out (by omega) (by omega)
       have h2:=refInput _ B q k z HB1.out (by omega) (by omega)
       obtain⟨x1,hx1⟩:∃ x,inpAt A q k=x:=⟨_,rfl⟩
       obtain⟨x2,hx2⟩:∃ x,inpAt B q k=x:=⟨_,rfl⟩
       rw[hx1] at h1
       rw[hx2] at h2
       rw[hx1,hx2] at HT2
       have H1:=hid h1
       have H2:=hid h2
       clear h1 h2 hx1 hx2 HT
       by_cases hxx:x1=x2
       ·subst hxx
        have HT3:Hid (true=(s&&allN (k+1) G)):=by show _=_;rw[← HT2.out];simp
        clear HT2
        go_wp2_with (first|(go_at_call_of 60 (Value.slice aa A.length ac);refine H1.out.mono ?_;rintro e z1 ⟨rfl,rfl⟩)|(go_at_call_of 60 (Value.slice ba B.length bc);refine H2.out.mono ?_;rintro e z1 ⟨rfl,rfl⟩))
        go_roundw
        case rel=>exact⟨k+1,true,by omega,rfl,by go_num,HT3,(by first|exact .inl trivial|exact .inl rfl),by first|trivial|rfl⟩
        case measure=>simp[intOf];omega
       ·have HT3:Hid (false=(s&&allN (k+1) G)):=by show _=_;rw[← HT2.out];simp[hxx]
        have hxx2:(x1==x2)=false:=by simp[hxx]
        clear HT2
        go_wp2_with (first|(go_at_call_of 60 (Value.slice aa A.length ac);refine H1.out.mono ?_;rintro e z1 ⟨rfl,rfl⟩)|(go_at_call_of 60 (Value.slice ba B.length bc);refine H2.out.mono ?_;rintro e z1 ⟨rfl,rfl⟩))
        go_roundw
        case rel=>exact⟨k+1,false,by omega,rfl,by go_num,HT3,(by first|exact .inl trivial|exact .inl rfl),by first|trivial|rfl⟩
        case measure=>simp[intOf];omega
    ·have hkN1:¬ (k:Int)<(N:Int):=by omega
     obtain rfl:k=N:=by omega
     have HQ2:Hid (t=allN (q+1) F):=by
      show t=_
      rw[HSN.out,HFQ.out,HT.out,HCS.out,HQ.out]
      rcases HZ.out with h|h
      ·rw[h];rfl
      ·subst h;rw[allN_nil];simp
     go_wp2_with fail
     go_roundw
     case rel=>exact⟨q+1,t,by omega,rfl,by go_num,HQ2,by first|trivial|rfl⟩
     case measure=>simp[intOf];omega
  ·obtain rfl:q=levels.length:=by omega
   have hlt1:¬ (levels.length:Int)<(levels.length:Int):=by omega
   obtain rfl:S=s:=by rw[HSF.out,HQ.out]
   go_wp2_with fail
   go_ret2
   exact⟨rfl,BZ.out⟩
theorem refTrimmed (f:FlatD) (cF:Array Value) (av:Value) (A:List (List Int)) (w:World) (hF:FlatC w f cF) (h1:1≤f.width) (h2:f.width≤64) (ha:RdLists none w av A) (hs:A.length≤1000000) (hz:∀ l∈A,l.length≤1000000) :
  Calls Tryz.prog 33 #[.agg cF,av] w fun e w'=>∃ v,e=.returned v∧RdLists none w' v (trimL f A)∧Below w.heap.size w w':=by
 obtain⟨W,hW⟩:∃ W:Nat,f.width=W:=⟨f.width.toNat,by omega⟩
 have hw1:1≤W:=by omega
 have hw2:W≤64:=by omega
 obtain⟨T,hT⟩:∃ T,trimL f A=T:=⟨_,rfl⟩
 rw[hT]
 have HTA:Hid (∀ (i:Nat) (l:List Int),A[i]?=some l→T[i]?=some (l.map fun x=>x%2 ^ W)):=fun i l hl=>by rw[← hT,trimL,List.getElem?_map,hl,hW];rfl
 have HTL:Hid (T.length=A.length):=by show _=_;rw[← hT,trimL,List.length_map]
 have HTZ:Hid (∀ l∈T,l.length≤1000000):=fun l hl=>by
  rw[← hT,trimL] at hl
  obtain⟨l0,h0,rfl⟩:=List.mem_map.1 hl
  rw[List.length_map];exact hz l0 h0
 have hw0:=hF.width0
 rw[hW] at hw0
 have HW0:=hid hw0
 have HFI:=hid hF.info
 have HA:=hid ha
 have HZ:=hid hz
 have HMK:=hid (mask_is W hw1 hw2)
 have HAM:=hid (fun (v:Int) (hv:InU64 v)=>and_mask W hw1 hw2 v hv)
 have HMI:=hid (fun (v:Int)=>mod_in W hw2 v)
 have HB0:=hid ((Below.refl w.heap.size w).alloc (Nat.le_refl _) (.cells cF 26))
 have HG0:=hid (heap_alloc_new w (.cells cF 26))
 clear hT hw0 hF ha hz hW h1 h2
 go_enter Tryz.func33,Tryz.ntmps33
 go_upto_region 1 with fail
 generalize w.alloc (.cells cF 26)=w1 at *
 have HC:=hid (copyListsOwn _ A w1 (HA.out.keep HB0.out))
 go_upto_region 2 with (go_at_call 36;refine HC.out.mono ?_;rintro e z2 ⟨ov,vs,rfl,ho,hz⟩;obtain⟨la,lc,rfl,-⟩:=own_read ho.own;have HO:=hid ho;have BZ1:=hid hz;clear ho hz)
 have HVL:Hid (vs.length=A.length):=HO.out.len
 have hlt0:w.heap.size<w1.heap.size:=(gsRPb HG0.out)
 have HK:Hid (∀ w',Below w1.heap.size w1 w'→w'.cell? ⟨w.heap.size,0,none⟩=some (.int .i64 W)):=fun w' hb=>row_of ((hb.block _ hlt0).trans HG0.out) 0 _ HW0.out
 clear HC HG0
 go_wp2_with fail
 go_loopw [6,7] (fun i _ wr=>∃ n:Nat,n≤A.length∧i=.int .i64 n∧(∃ vs':List Value,vs'.length=vs.length∧OwnL w1.heap.size wr (.slice la vs.length lc) vs' (midI T A n))∧Below w1.heap.size w1 wr) (fun i _ _=>A.length-(intOf i).toNat)
 case atStart=>exact⟨0,Nat.zero_le _,rfl,⟨vs,rfl,by simpa[midI] using HO.out⟩,BZ1.out⟩
 case round=>
  obtain⟨n,hn,rfl,⟨vs2,hv2,ho⟩,hb⟩:=hrel
  obtain⟨w9,rfl⟩:∃ x:World,x=wr:=⟨_,rfl⟩
  have HV2:=hid hv2
  have HB9:=hid hb
  have HO9:=hid ho
  clear hv2 hb
  by_cases hlt:n<A.length
  ·obtain⟨l0,hl0⟩:∃ l0,A[n]?=some l0:=⟨_,lgRPb hlt⟩
   have hl20:l0.length≤1000000:=HZ.out l0 (List.mem_of_getElem? hl0)
   have hln:(midI T A n)[n]?=some l0:=by rw[midI_at HTL.out hlt];exact hl0
   have hn1:(n:Int)<(vs.length:Int):=by have:=HVL.out;omega
   obtain⟨tl,htl⟩:∃ tl,(l0.map fun x=>x%2 ^ W)=tl:=⟨_,rfl⟩
   have HAN:Hid (T[n]?=some tl):=by show _=_;rw[← htl];exact HTA.out n l0 hl0
   have HLN:=hid hln
   have HML:Hid (tl.length=l0.length):=by show _=_;rw[← htl,List.length_map]
   have HTX:Hid (∀ (k:Nat) (x:Int),l0[k]?=some x→tl[k]?=some (x%2 ^ W)):=fun k x hx=>by rw[← htl,List.getElem?_map,hx];rfl
   have HT64:Hid (¬ W<64→tl=l0):=fun h=>by
    have h64:W=64:=by omega
    have hok:=HO9.out.ok l0 (List.mem_of_getElem? hln)
    rw[← htl,h64]
    refine (List.map_congr_left fun x hx=>?_).trans (List.map_id _)
    obtain⟨g1,g2⟩:=hok x hx
    exact Int.emod_eq_of_lt g1 (by omega)
   clear hln hl0 htl
   obtain⟨g,gc,u,e1,hu,hcu,hfu,hur,hgn,hgl,hug⟩:=ho.at HLN.out
   rw[HV2.out] at e1
   simp only[Value.slice.injEq,true_and] at e1
   obtain⟨rfl,rfl⟩:=e1
   obtain⟨ua,uc,rfl,-⟩:=own_read hur
   have HU:=hid hu
   have HSET0:Hid ((midI T A n).set n l0=midI T A n):=set_same HLN.out
   clear ho hcu hfu hur hug hu
   go_wp2_with fail
   go_loopw [7] (fun kv wr=>∃ k:Nat,k≤l0.length∧kv=.int .i64 k∧OwnL w1.heap.size wr (.slice (some ⟨g,0,none⟩) vs.length lc) vs2 ((midI T A n).set n (midL tl l0 k))∧Below w1.heap.size w1 wr) (fun kv _=>l0.length-(intOf kv).toNat)
   case atStart=>exact⟨0,Nat.zero_le _,rfl,by rw[midL_zero,HSET0.out];exact HO9.out,HB9.out⟩
   case round=>
    obtain⟨k,hk,rfl,ho,hb⟩:=hrel
    obtain⟨w10,rfl⟩:∃ x:World,x=wr:=⟨_,rfl⟩
    have HLK:=hid (midL_len HML.out hk)
    have hat:((midI T A n).set n (midL tl l0 k))[n]?=some (midL tl l0 k):=List.getElem?_set_self (by rw[midI_len HTL.out hn];exact hlt)
    obtain⟨g',gc',u',e1,hu',hcu,hfu,hur,hgn',hgl',hug⟩:=ho.at hat
    rw[HV2.out] at e1
    simp only[Value.slice.injEq,Option.some.injEq,Addr.mk.injEq,and_true,true_and] at e1
    obtain⟨rfl,rfl⟩:=e1
    rw[HU.out] at hu'
    cases hu'
    have y0:=HK.out w10 hb
    have HO10:=hid ho
    have HB10:=hid hb
    have HUR:=hid hur
    have HAT:=hid hat
    clear ho hb hur hat hfu
    by_cases hk0:k<l0.length
    ·have hk1:(k:Int)<(l0.length:Int):=by omega
     by_cases hw64:W<64
     ·have hw641:(W:Int)<64:=by omega
      obtain⟨x0,hx0⟩:∃ x0,l0[k]?=some x0:=⟨_,lgRPb hk0⟩
      have hmk:(midL tl l0 k)[k]?=some x0:=by rw[midL_at HML.out hk0];exact hx0
      have HMS:=hid (midL_set HML.out (HTX.out k x0 hx0))
      obtain⟨ub,uc2,cur,e2,hcur,hub,hcl,hfr⟩:=own_in HUR.out (by rw[kNum_len,HLK.out];omega)
      rw[HLK.out] at e2
      simp only[Value.slice.injEq,true_and] at e2
      obtain⟨rfl,rfl⟩:=e2
      have hcur':=hid hcur
      have HCL:=hid (hcl k _ (kNum_at hmk))
      have hx0in:InU64 x0:=HO10.out.ok _ (List.mem_of_getElem? HAT.out) x0 (List.mem_of_getElem? hmk)
      obtain⟨MSK,hMSK⟩:∃ M:Int,2 ^ W-1=M:=⟨_,rfl⟩
      have hand:=HAM.out x0 hx0in
      have hmki:=HMK.out
      rw[hMSK] at hand hmki
      obtain⟨yy,hyy⟩:∃ y,x0%2 ^ W=y:=⟨_,rfl⟩
      rw[hyy] at hand HMS
      have HYI:Hid (InU64 yy):=by
       show InU64 yy
       rw[← hyy]
       obtain⟨m1,m2,m3⟩:=HMI.out x0
       exact⟨m1,by omega⟩
      clear hmk hx0 hcl hfr hcur hug hgl' hgn' hx0in hMSK hyy
      go_upto_region 8 with fail
      have i1c:=ext_cell hcu
      have i2c:=ext_cell y0
      have i4c:=ext_cell HCL.out
      clear hcu y0
      (refine wp_region_calm_tail 19 (by kernel_rfl) (by kernel_rfl) ?_;simp only[List.take_succ_cons,List.take_zero,List.drop_succ_cons,List.drop_zero];(repeat (go_big_quiet_step (fail)));refine wpQuiet_nil ?_;intro wc hwc)
      have hcw:=(hwc.block ub (gsRPb hcur'.out)).trans hcur'.out
      have c1:=cell_keep hwc HCL.out
      have f1:=frozen_of_row wc ub k _ _ hcw
      have hse:=(HO10.out.keep hwc).setElem HU.out HAT.out k yy HYI.out
      rw[set_twice,HMS.out] at hse
      have HSE:=hid hse
      have HBE:Hid (Below w1.heap.size w1 (wc.setCell ⟨ub,k,none⟩ (.int .u64 yy))):=(HB10.out.trans (hwc.mono (by have:=HB10.out.size;omega))).setCell hub _
      clear hse hcw i1c i2c i4c
      go_wp2_with fail
      go_roundw
      case rel=>exact⟨k+1,by omega,by go_num,HSE.out,HBE.out⟩
      case measure=>simp[intOf];omega
     ·have hw641:¬ (W:Int)<64:=by omega
      have HN:Hid (OwnL w1.heap.size w10 (.slice (some ⟨g,0,none⟩) vs.length lc) vs2 (midI T A (n+1))):=by
       show OwnL _ _ _ _ _
       have h:=HO10.out
       have e:midL tl l0 k=tl:=by rw[HT64.out hw64];exact List.take_append_drop _ _
       rw[e,midI_set HTL.out HAN.out] at h
       exact h
      go_wp2_with fail
      go_roundw
      case rel=>exact⟨n+1,by omega,by go_num,⟨vs2,HV2.out,HN.out⟩,HB10.out⟩
      case measure=>simp[intOf];omega
    ·have hk1:¬ (k:Int)<(l0.length:Int):=by omega
     obtain rfl:k=l0.length:=by omega
     have HN:Hid (OwnL w1.heap.size w10 (.slice (some ⟨g,0,none⟩) vs.length lc) vs2 (midI T A (n+1))):=by
      show OwnL _ _ _ _ _
      have h:=HO10.out
      rw[midL_end HML.out,midI_set HTL.out HAN.out] at h
      exact h
     go_wp2_with fail
     go_roundw
     case rel=>exact⟨n+1,by omega,by go_num,⟨vs2,HV2.out,HN.out⟩,HB10.out⟩
     case measure=>simp[intOf];omega
  ·obtain rfl:n=A.length:=by omega
   have hn1:¬ ((A.length:Nat):Int)<(vs.length:Int):=by have:=HVL.out;omega
   have hoe:OwnL w1.heap.size w9 (.slice la vs.length lc) vs2 T:=by have h:=ho;rw[midI_end HTL.out] at h;exact h
   have HRO:=hid (hoe.rd (by rw[HTL.out];exact hs) HTZ.out).forget
   clear hoe ho
   go_wp2_with fail
   go_ret
   exact⟨_,rfl,HRO.out,bcomp HB0.out HB9.out⟩
end Go.Proofs.YtkjkpddajjmloaaGreatDoor
