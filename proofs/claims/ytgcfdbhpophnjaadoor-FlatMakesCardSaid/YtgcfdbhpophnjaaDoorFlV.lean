/- The contract of the reference's body, a step of the induction. Conditions: the maker lies in memory; the calls go at most so deep. -/
import Derived.Test.YtgcfdbhpophnjaaDoorFlQ
set_option linter.all false
set_option maxRecDepth 1000000
set_option maxHeartbeats 12800000
namespace Go.Proofs.YtgcfdbhpophnjaaDoor
open Go.WideShapes Go.ChangeMaps Go.MapKept Go.WideMaps Go.ChangeAt Go.RowKit Go.ChangeShapes
open Go.Lib (hid)
theorem gsFlV {α:Type} {a:Array α} {i:Nat} {v:α} (h:a[i]?=some v):i<a.size:=(Array.getElem?_eq_some_iff.1 h).1
theorem lgFlV {α:Type} {l:List α} {i:Nat} (h:i<l.length):l[i]?=some l[i]:=List.getElem?_eq_getElem h
theorem u8nR (k:Int) (h:decide (0≤k∧k≤255)=true):InU8 k:=by have h1:=of_decide_eq_true h;exact h1
theorem infoPatch:(Tryd.prog.info? 133).map (fun i=>(i.zero,i.size,i.bytes))=some (some (.agg #[.int .i64 0,.string ⟨#[]⟩]),2,24):=by kernel_rfl
def NewCR (v:Value) (w:World) (lo:Nat):Prop:=∃ g,v=.pointer (some ⟨g,0,none⟩)∧lo≤g∧w.heap[g]?=some (.cells #[.int .u8 0,.int .u8 0,.int .i64 0,.int .i64 0,.int .i64 0,.int .u64 0,.int .i64 0,.int .u64 0] 48 (0,0))
theorem NewCR.keep {w w':World} {v:Value} {lo:Nat} (h:NewCR v w lo) (k:Below w.heap.size w w'):NewCR v w' lo:=by
 obtain⟨g,e,h1,h⟩:=h
 exact⟨g,e,h1,(k.block _ (gsFlV h)).trans h⟩
theorem newCR_of (w:World):NewCR (.pointer (some ⟨w.heap.size,0,none⟩)) (w.alloc (.cells #[.int .u8 0,.int .u8 0,.int .i64 0,.int .i64 0,.int .i64 0,.int .u64 0,.int .i64 0,.int .u64 0] 48)) w.heap.size:=⟨_,rfl,Nat.le_refl _,heap_alloc_new _ _⟩
def ValR (v x:Value):Prop:=v=x
def NamesV (w:World) (v:Value) (l:List ByteArray):Prop:=∃ a c,v=.slice a l.length c∧RdStrs none w v l
theorem NamesV.keep {w w':World} {v:Value} {l:List ByteArray} (h:NamesV w v l) (k:Below w.heap.size w w'):NamesV w' v l:=by
 obtain⟨a,c,e,h⟩:=h;exact⟨a,c,e,h.keep k⟩
theorem wpList_buildR {P:Program} {w:World} {ops:Array Oper} {rest:List Oper} {o:Oper} {a:Act} {Q:Exit→Act→World→Prop} (hg:o.guard=none) (t:TypeId) (parts:Array (Nat × Operand)) (ho:o.op=.build t parts) (vs:List (Nat × Value)) (hv:(parts.map fun (i,x)=>(i,a.eval x)).toList=vs) {cells:Array Value}
  (hb:P.built t vs=some cells) (hK:wpList P ops Q rest (a.put o.dst (.agg cells)) w):wpList P ops Q (o :: rest) a w:=by
 refine wpList_plain hg fun K' hK'=>?_
 unfold Oper.wp execOp
 simp only[ho,Sem.run_bind,run_build w t _ cells (by rw[hv];exact hb),Result.andThen_ok]
 exact hK' _ _ hK
theorem builtR3 (q:Int) (r0 r1:RefD):Tryd.prog.built 48 [(0,.int .u8 3),(3,.int .i64 q),(4,.agg #[.int .i64 r0.reg,.int .u64 r0.num]),(5,.agg #[.int .i64 r1.reg,.int .u64 r1.num])]=some #[.int .u8 3,.int .u8 0,.int .i64 0,.int .i64 q,.int .i64 r0.reg,.int .u64 r0.num,.int .i64 r1.reg,.int .u64 r1.num]:=by kernel_rfl
theorem rbody_step (m:RMk) (H:m.Ok) (n:Nat) (hn:n≤100) (f:Nat) (hf:f≤m.E.p.funcs.length) (hfit:EnvF.Fits m.E.p (n+1) (fiR m.E.p f)) (IH:∀ g:Nat,g<m.E.p.funcs.length→EnvF.Fits m.E.p n g→RBodyC m n g):RBodyC m (n+1) f:=by
 intro dst kv00 long0 C0 D0 w hdst hinv0 h0
 obtain⟨kv0,hkv0⟩:∃ v,v=kv00:=⟨_,rfl⟩
 subst hkv0
 have hW:=wfP_of H.chk
 have hcf:=code_fiR hf
 obtain⟨mn,hwc,hmn⟩:=wfC_fiR hW hf
 have hb2:=fun z (hz:m.At kv0 long0 C0 z)=>refBody2 m.E.p _ _ _ _ f z (hz.prog H) hf
 obtain⟨code,hcode⟩:∃ code,codeAt m.E.p f=code:=⟨_,rfl⟩
 rw[hcode] at hcf hwc hb2
 have HCODE:=hid hcode
 have hfs:∀ x∈code,x.kind=4→∃ (g:Nat) (fd:FuncD),m.E.p.funcs[g]?=some fd∧fd.name=x.name∧x.args.length=fd.params.length∧EnvF.Fits m.E.p n g:=fun x hx hk=>by
  obtain⟨g,fd,h1,h2,h3⟩:=(hwc.ins x hx).call hk
  obtain⟨g',h4,h5,h6,h7⟩:=hfit x (by rw[hcf];exact hx) hk
  have:=idxS_fn hW.fn h1
  rw[h2,h4] at this
  obtain rfl:g'=g:=by omega
  exact⟨g',fd,h1,h2,h3,h7⟩
 have HBD:Hid (∀ z,m.At kv0 long0 C0 z→Calls Tryd.prog 72 #[.agg #[.int .i64 m.E.p.width,.slice m.ac m.E.p.chans.length m.kc,.slice m.aa m.E.p.arrays.length m.ka,.slice m.af m.E.p.funcs.length m.kf,.slice m.am m.E.p.main.length m.km],.int .i64 f] z fun e w'=>∃ a c,e=.returned (.slice a code.length c)∧RdInstrs none m.w0 (.slice a code.length c) code∧Below z.heap.size z w'):=fun z hz=>by
  refine (hb2 z hz).mono ?_
  rintro e w' ⟨v,rfl,hr,hb⟩
  have h1:=hr m.w0 H.prog hz.below
  obtain⟨a,c,rfl,_⟩:=id h1
  exact⟨a,c,rfl,h1,hb⟩
 have HCF:=hid hcf
 have HWC:=hid hwc
 have HMN:=hid hmn
 have HFS:=hid hfs
 have HIH:=hid IH
 have HDST:=hid hdst
 have HH0:=hid h0
 have HINV0:=hid hinv0
 have HF:=hid hf
 have hcl2:code.length≤1024:=hwc.len
 have hmk:=makeIntsR code.length (by omega)
 have hfl32:m.E.p.funcs.length≤32:=hW.fl
 obtain⟨iP,hiP,hzP0,hzP1,hzP2⟩:=info_parts infoPatch
 clear hfit IH hdst h0 hinv0 hf hb2 hcf hwc hmn hfs hcode hW
 go_enter Tryd.func39,Tryd.ntmps39
 have e0:=row_of HH0.out.hm 0 (.int .i64 m.E.p.width) rfl
 have e1:=row_of HH0.out.hm 1 (.slice m.ac m.E.p.chans.length m.kc) rfl
 have e2:=row_of HH0.out.hm 2 (.slice m.aa m.E.p.arrays.length m.ka) rfl
 have e3:=row_of HH0.out.hm 3 (.slice m.af m.E.p.funcs.length m.kf) rfl
 have e4:=row_of HH0.out.hm 4 (.slice m.am m.E.p.main.length m.km) rfl
 go_upto_region 1 with (go_at_call 72;refine (HBD.out _ HH0.out).mono ?_;rintro e z ⟨ac2,kc2,rfl,hrd,hz⟩;have HRD:=hid hrd;have BZ:=hid hz;clear hrd hz)
 clear e0 e1 e2 e3 e4 HBD
 have hlz:=heap_alloc_new z (.cells (i64sR (List.replicate code.length 0)) 3)
 have hbz:Below z.heap.size z (z.alloc (.cells (i64sR (List.replicate code.length 0)) 3)):=(Below.refl _ _).alloc (Nat.le_refl _) _
 have HLZ:=hid hlz
 have HBW:=hid (bcomp BZ.out hbz)
 have HSZ:Hid (w.heap.size≤z.heap.size∧(z.alloc (.cells (i64sR (List.replicate code.length 0)) 3)).heap.size=z.heap.size+1):=⟨BZ.out.size,by simp⟩
 clear hlz hbz BZ
 go_upto_region 2 with fail
 clear hmk
 generalize z.alloc (.cells (i64sR (List.replicate code.length 0)) 3)=W2 at *
 obtain⟨lb,hlb⟩:∃ lb,z.heap.size=lb:=⟨_,rfl⟩
 rw[hlb] at HLZ HSZ
 rw[hlb]
 clear hlb
 have HBO:Hid (BdR.Ok ⟨m,kv0,w,lb+1,lb⟩):=⟨⟨HSZ.out.1,by show lb<lb+1;omega⟩,HH0.out.below.size,HH0.out.hc1⟩
 have HAT0:Hid (BdR.At ⟨m,kv0,w,lb+1,lb⟩ kv0 long0 C0 (List.replicate code.length 0) (.slice none 0 0) [] W2):=
  ⟨HH0.out.keep HBW.out,RMk.Grew.of_below HBW.out,HLZ.out,World.ownsRow_nil _ _ _ _,by show lb+1≤_;have:=HSZ.out.2;omega⟩
 clear HLZ HBW
 go_wp2_with fail
 go_loopw [8,9] (fun pv i wr=>∃ (k:Nat) (kv:Value) (long:Bool) (C:List CodeD) (LB:List Int) (M:List (Nat × ByteArray)),k≤code.length∧i=.int .i64 k∧InvR (m.E.stI (m.E.bodyI n) (fiR m.E.p f) dst D0 code k).C C long∧BdR.At ⟨m,kv0,w,lb+1,lb⟩ kv long C LB pv M wr∧LB.length=code.length∧Hid (long=false→M=m.E.mI (m.E.bodyI n) (fiR m.E.p f) dst D0 code k∧∀ j,j<k→LB[j]?=some ((m.E.stI (m.E.bodyI n) (fiR m.E.p f) dst D0 code j).C.length:Int))∧M.length≤k) (fun _ i _=>code.length-(intOf i).toNat)
 case atStart=>exact⟨0,kv0,long0,C0,List.replicate code.length 0,[],Nat.zero_le _,rfl,by rw[EnvF.stI_zero];exact HINV0.out,HAT0.out,by simp,(fun _=>⟨rfl,fun j hj=>by omega⟩),Nat.zero_le _⟩
 case round=>
  clear HAT0 HINV0
  obtain⟨wo,rfl⟩:∃ x:World,x=wr:=⟨_,rfl⟩
  obtain⟨k,kv,long,C,LB,M,hk,rfl,hinv,hat,hlbl,HQ,hMk⟩:=hrel
  have HAT:=hid hat
  have HINV:=hid hinv
  have HMK:=hid hMk
  obtain⟨pa,pc,rfl,_⟩:=own_read hat.pat
  obtain⟨ka,kcap,rfl,_⟩:=own_read hat.mak.own
  have g13:=row_of hat.mak.hm 13 (.bool long) rfl
  have HLBL:=hid hlbl
  clear hinv hat hMk hlbl
  by_cases hgo:k<code.length∧long=false
  rotate_left
  ·as_aux_lemma=>
    have hcase:((k:Int)<(code.length:Int)∧long=true) ∨ (¬ (k:Int)<(code.length:Int)∧k=code.length):=by
     by_cases h1:k<code.length
     ·refine .inl ⟨by omega,?_⟩
      cases hb:long with
      | true=>rfl
      | false=>exact absurd ⟨h1,hb⟩ hgo
     ·exact .inr ⟨by omega,by omega⟩
    obtain⟨S,hS⟩:∃ S,m.E.stI (m.E.bodyI n) (fiR m.E.p f) dst D0 code code.length=S:=⟨_,rfl⟩
    have hinv9:InvR S.C C long:=by
     rcases hcase with ⟨h1,rfl⟩|⟨_,h1⟩
     ·refine HINV.out.grow ?_
      rw[← hS,m.E.stI_all]
      exact stI_mono m.E n _ dst D0 code k
     ·rw[← hS,← h1];exact HINV.out
    have hq9:long=false→M=m.E.mI (m.E.bodyI n) (fiR m.E.p f) dst D0 code code.length∧∀ j,j<code.length→LB[j]?=some ((m.E.stI (m.E.bodyI n) (fiR m.E.p f) dst D0 code j).C.length:Int):=by
     rcases hcase with ⟨h1,rfl⟩|⟨_,h1⟩
     ·intro h;cases h
     ·rw[← h1];exact HQ.out
    have HINV9:=hid hinv9
    have HQ9:=hid hq9
    have HS9:=hid hS
    have hWf:=wfP_of H.chk
    have hres:=resR_merged m.E hWf n f HF.out dst D0 code HCODE.out
    have hresl:=resR_lenM m.E hWf n f HF.out dst D0 code HCODE.out
    rw[hS] at hres hresl
    have HRESM:=hid hres
    have HRESL:=hid hresl
    have g3:=row_of HAT.out.mak.hm 3 (.slice m.af m.E.p.funcs.length m.kf) rfl
    have hput9:=fun (z:World) (hz:Below wo.heap.size wo z)=>rput_any m ⟨0,0,dst,0,⟨-1,0⟩,zeroRef⟩ _ _ _ z (HAT.out.mak.keep hz) ⟨u8nR _ rfl,u8_0,HDST.out,i64_0,i64_m1,u64_0,i64_0,u64_0⟩ hinv9.len
    simp only[codeA,zeroRef] at hput9
    have HPT9:=hid hput9
    have hnum:=number_any m H _ _ _ 0 wo HAT.out.mak u64_0
    rw[trimW_zeroR] at hnum
    have HNUM:=hid hnum
    have hpin:=fun h:f<m.E.p.funcs.length=>(show InvR (preR m.E f dst S.C) _ _ by unfold preR;rw[if_pos h];exact hinv9.put ⟨0,0,dst,0,⟨-1,0⟩,zeroRef⟩)
    have HPIN:=hid hpin
    have HMK9:=HMK.out
    have hmk9:M.length≤1024:=by omega
    clear hput9 hnum hpin hres hresl hq9 hinv9 hS hWf HQ HINV HMK9
    have hcase':((k:Int)<(code.length:Int)∧long=true) ∨ ¬ (k:Int)<(code.length:Int):=by
     rcases hcase with h|⟨h,_⟩
     ·exact .inl h
     ·exact .inr h
    clear hcase hgo
    rcases hcase' with ⟨hklt,rfl⟩|hkn
    ·skip
     go_upto_if 306 with fail
     go_cut [] from 299 to 312 (fun wx=>∃ kv' long' C',InvR (preR m.E f dst S.C) C' long'∧(long'=false→true=false)∧BdR.At ⟨m,kv0,w,lb+1,lb⟩ kv' long' C' LB (.slice pa M.length pc) M wx)
     case first=>
      by_cases hfn:(f:Int)<(m.E.p.funcs.length:Int)
      ·go_wp2_with (first|(go_at_call 78;refine HNUM.out.mono ?_;rintro e z8 ⟨rfl,hz8⟩;have B8:=hid hz8;clear hz8)|(go_at_call 40;refine (HPT9.out _ B8.out).mono ?_;rintro e z9 ⟨rfl,kv9,hat9,hgr9⟩;have HAT9:=hid ((HAT.out.keep B8.out).made hat9 hgr9);clear hat9 hgr9))
       go_meet
       refine⟨kv9,_,_,HPIN.out (by omega),?_,HAT9.out⟩
       intro h
       split at h
       ·cases h
       ·exact h
      ·go_wp2_with fail
       go_meet
       exact⟨_,_,_,by unfold preR;rw[if_neg (by omega)];exact HINV9.out,fun h=>h,HAT.out⟩
     case rest=>
      obtain⟨W9,rfl⟩:∃ z:World,z=wc:=⟨_,rfl⟩
      obtain⟨kv9,long9,C9,hin9,hlg9,hat9⟩:=hcut
      have HAT9:=hid hat9
      have HIN9:=hid hin9
      have HLG9:=hid hlg9
      clear hat9 hin9 hlg9 g3 g13 HAT HNUM HPT9 HPIN HINV9
      go_wp2_with fail
      cases long9 with
      | true=>
       have HRL:Hid (InvR (resR m.E (n+1) f dst D0) C9 true):=HIN9.out.grow (by rw[HRESL.out];exact Nat.le_refl _)
       go_loopw [12] (fun i wr=>i=.int .i64 0∧BdR.At ⟨m,kv0,w,lb+1,lb⟩ kv9 true C9 LB (.slice pa M.length pc) M wr) (fun _ _=>0)
       case atStart=>exact⟨rfl,HAT9.out⟩
       case round=>
        obtain⟨rfl,hat⟩:=hrel
        have HATe:=hid hat
        have g13:=row_of hat.mak.hm 13 (.bool true) rfl
        clear hat HAT9
        by_cases hm0:(0:Int)<(M.length:Int)
        ·go_wp2_with fail
         go_end0
         exact⟨rfl,kv9,.inr ⟨C9,HRL.out,HATe.out.mak,HATe.out.grew⟩⟩
        ·go_wp2_with fail
         go_end0
         exact⟨rfl,kv9,.inr ⟨C9,HRL.out,HATe.out.mak,HATe.out.grew⟩⟩
      | false=>
       exact absurd (HLG9.out rfl) (by decide)
    ·skip
     go_upto_if 306 with fail
     go_cut [] from 299 to 312 (fun wx=>∃ kv' long' C',InvR (preR m.E f dst S.C) C' long'∧(long'=false→long=false)∧BdR.At ⟨m,kv0,w,lb+1,lb⟩ kv' long' C' LB (.slice pa M.length pc) M wx)
     case first=>
      by_cases hfn:(f:Int)<(m.E.p.funcs.length:Int)
      ·go_wp2_with (first|(go_at_call 78;refine HNUM.out.mono ?_;rintro e z8 ⟨rfl,hz8⟩;have B8:=hid hz8;clear hz8)|(go_at_call 40;refine (HPT9.out _ B8.out).mono ?_;rintro e z9 ⟨rfl,kv9,hat9,hgr9⟩;have HAT9:=hid ((HAT.out.keep B8.out).made hat9 hgr9);clear hat9 hgr9))
       go_meet
       refine⟨kv9,_,_,HPIN.out (by omega),?_,HAT9.out⟩
       intro h
       split at h
       ·cases h
       ·exact h
      ·go_wp2_with fail
       go_meet
       exact⟨_,_,_,by unfold preR;rw[if_neg (by omega)];exact HINV9.out,fun h=>h,HAT.out⟩
     case rest=>
      obtain⟨W9,rfl⟩:∃ z:World,z=wc:=⟨_,rfl⟩
      obtain⟨kv9,long9,C9,hin9,hlg9,hat9⟩:=hcut
      have HAT9:=hid hat9
      have HIN9:=hid hin9
      have HLG9:=hid hlg9
      clear hat9 hin9 hlg9 g3 g13 HAT HNUM HPT9 HPIN HINV9
      go_wp2_with fail
      cases long9 with
      | true=>
       have HRL:Hid (InvR (resR m.E (n+1) f dst D0) C9 true):=HIN9.out.grow (by rw[HRESL.out];exact Nat.le_refl _)
       go_loopw [12] (fun i wr=>i=.int .i64 0∧BdR.At ⟨m,kv0,w,lb+1,lb⟩ kv9 true C9 LB (.slice pa M.length pc) M wr) (fun _ _=>0)
       case atStart=>exact⟨rfl,HAT9.out⟩
       case round=>
        obtain⟨rfl,hat⟩:=hrel
        have HATe:=hid hat
        have g13:=row_of hat.mak.hm 13 (.bool true) rfl
        clear hat HAT9
        by_cases hm0:(0:Int)<(M.length:Int)
        ·go_wp2_with fail
         go_end0
         exact⟨rfl,kv9,.inr ⟨C9,HRL.out,HATe.out.mak,HATe.out.grew⟩⟩
        ·go_wp2_with fail
         go_end0
         exact⟨rfl,kv9,.inr ⟨C9,HRL.out,HATe.out.mak,HATe.out.grew⟩⟩
      | false=>
       obtain⟨hM9,hLB9⟩:=HQ9.out (HLG9.out rfl)
       obtain⟨D,hD⟩:∃ D,preR m.E f dst S.C=D:=⟨_,rfl⟩
       rw[hD] at HIN9 HRESM
       obtain⟨rfl,hDl⟩:C9=D∧D.length≤4097:=by
        rcases HIN9.out with ⟨_,e,h⟩|⟨e,_⟩
        ·exact⟨e,h⟩
        ·cases e
       have hMin:=m.E.mI_in n (fiR m.E.p f) dst D0 code code.length
       rw[← hM9,HS9.out] at hMin
       have hSD:S.C.length≤C9.length:=by
        rw[← hD];unfold preR;split
        ·rw[List.length_append];omega
        ·exact Nat.le_refl _
       have HMIN:=hid hMin
       have HSD:=hid hSD
       have HLB9:=hid hLB9
       have hresm:=HRESM.out
       rw[← hM9] at hresm
       obtain⟨tg,htg⟩:∃ tg:ByteArray→Nat→Int,(fun nm k=>m.E.tgI n (fiR m.E.p f) dst D0 code (C9.length:Int) nm k)=tg:=⟨_,rfl⟩
       have htg0:∀ nm,tg nm 0=(C9.length:Int):=fun nm=>by rw[← htg];exact m.E.tgI_zero n _ dst D0 code _ nm
       have htg1:∀ nm k x,code[k]?=some x→x.kind=10→x.name=nm→tg nm (k+1)=((m.E.stI (m.E.bodyI n) (fiR m.E.p f) dst D0 code k).C.length:Int):=fun nm k x h1 h2 h3=>by rw[← htg];exact m.E.tgI_hit n _ dst D0 code _ nm h1 h2 h3
       have htg2:∀ nm k x,code[k]?=some x→¬ (x.kind=10∧x.name=nm)→tg nm (k+1)=tg nm k:=fun nm k x h1 h2=>by rw[← htg];exact m.E.tgI_miss n _ dst D0 code _ nm h1 h2
       have htgr:resR m.E (n+1) f dst D0=EnvF.patch C9 (M.map fun q=>(q.1,tg q.2 code.length)):=by rw[hresm,← htg]
       have htgl:∀ nm k,k≤code.length→0≤tg nm k∧tg nm k≤4097:=by
        intro nm k
        induction k with
        | zero=>intro _;rw[htg0];omega
        | succ k ih=>
         intro hk
         obtain⟨x,hx⟩:∃ x,code[k]?=some x:=⟨_,lgFlV (by omega)⟩
         by_cases h:x.kind=10∧x.name=nm
         ·rw[htg1 nm k x hx h.1 h.2]
          have h1:=stI_mono m.E n (fiR m.E.p f) dst D0 code k
          rw[← m.E.stI_all,HS9.out] at h1
          omega
         ·rw[htg2 nm k x hx h];exact ih (by omega)
       have HTG0:=hid htg0
       have HTG1:=hid htg1
       have HTG2:=hid htg2
       have HTGR:=hid htgr
       have HTGL:=hid htgl
       clear htg0 htg1 htg2 htgr htgl htg hresm hLB9 hSD hMin hM9 hD HRESM HRESL
       go_loopw [12] (fun i wr=>∃ (i0:Nat) (kv1:Value),i0≤M.length∧i=.int .i64 i0∧BdR.At ⟨m,kv0,w,lb+1,lb⟩ kv1 false (EnvF.patch C9 ((M.map fun q=>(q.1,tg q.2 code.length)).take i0)) LB (.slice pa M.length pc) M wr) (fun i _=>M.length-(intOf i).toNat)
       case atStart=>exact⟨0,kv9,Nat.zero_le _,rfl,HAT9.out⟩
       case round=>
        obtain⟨wp,rfl⟩:∃ x:World,x=wr:=⟨_,rfl⟩
        obtain⟨i0,kv1,hi0,rfl,hat⟩:=hrel
        have HATp:=hid hat
        clear hat HAT9
        have g13:=row_of HATp.out.mak.hm 13 (.bool false) rfl
        by_cases hil:i0<M.length
        rotate_left
        ·obtain rfl:i0=M.length:=by omega
         have hnl:¬ (M.length:Int)<(M.length:Int):=by omega
         rw[List.take_of_length_le (by rw[List.length_map];exact Nat.le_refl _)] at HATp
         go_wp2_with fail
         go_end0
         exact⟨rfl,kv1,.inl ⟨_,.inl ⟨rfl,HTGR.out.symm,by rw[HTGR.out,EnvF.patch_length];exact hDl⟩,HATp.out.mak,HATp.out.grew⟩⟩
        obtain⟨⟨pt,nm⟩,hq⟩:∃ q,M[i0]?=some q:=⟨_,lgFlV hil⟩
        have hlen:(M.flatMap pCells).length=M.length*2:=flat_length pCells 2 (fun _=>rfl) M
        obtain⟨gp,cp,ep,_,hcell⟩:=own_at (xs:=M.flatMap pCells) HATp.out.pat (by rw[hlen];omega)
        simp only[Value.slice.injEq] at ep
        obtain⟨rfl,_,rfl⟩:=ep
        have hp0:=hcell (i0*2) (.int .i64 (pt:Nat)) (by have:=flat_get pCells 2 (fun _=>rfl) M i0 0 (pt,nm) hq (by omega);rw[Nat.add_zero] at this;rw[this];rfl)
        have hp1:=hcell (i0*2+1) (.string nm) (by have:=flat_get pCells 2 (fun _=>rfl) M i0 1 (pt,nm) hq (by omega);rw[this];rfl)
        rw[Nat.zero_add] at hp0 hp1
        have HP0:=hid hp0
        have HP1:=hid hp1
        have hpt:pt<C9.length:=Nat.lt_of_lt_of_le (HMIN.out _ (List.mem_of_getElem? hq)).1 HSD.out
        have hnx:=EnvF.patch_take C9 (M.map fun q=>(q.1,tg q.2 code.length)) i0 (pt,tg nm code.length) (by rw[List.getElem?_map,hq];rfl)
        obtain⟨C',hC'⟩:∃ C',EnvF.patch C9 ((M.map fun q=>(q.1,tg q.2 code.length)).take i0)=C':=⟨_,rfl⟩
        have hC'l:C'.length=C9.length:=by rw[← hC',EnvF.patch_length]
        rw[hC'] at HATp hnx
        have HNX:=hid hnx
        have hlc:(C'.flatMap cellsCode).length=C'.length*8:=flat_length cellsCode 8 (fun _=>rfl) C'
        obtain⟨gk,ck,rfl,hfz,hcc⟩:=own_at HATp.out.mak.own (by rw[hlc];omega)
        obtain⟨vk,hnc⟩:∃ v,wp.cell? ⟨gk,pt*8+3,none⟩=some v:=by
         have h1:=hcc (pt*8+3) (.int .i64 (C'[pt]'(by omega)).n) (by rw[flat_get cellsCode 8 (fun _=>rfl) C' pt 3 _ (List.getElem?_eq_getElem (by omega)) (by omega)];rfl)
         rw[Nat.zero_add] at h1
         exact⟨_,h1⟩
        have HNC:=hid hnc
        have hfr:wp.frozen? ⟨gk,pt*8+3,none⟩=false:=hfz.frozen _
        have HFR:=hid hfr
        have HCL:=hid hC'l
        have HPT:=hid hpt
        have g12:=row_of HATp.out.mak.hm 12 (.slice (some ⟨gk,0,none⟩) C'.length ck) rfl
        rw[hC'l] at g12
        have hilz:(i0:Int)<(M.length:Int):=by omega
        clear hlen hcell hp0 hp1 hq hnx hC' hC'l hlc hcc hnc hfr hfz hpt hil
        go_wp2_with fail
        clear g12 g13
        go_loopw [13,14] (fun v i wr=>∃ j0:Nat,j0≤code.length∧i=.int .i64 j0∧v=.int .i64 (tg nm j0)∧Below wp.heap.size wp wr) (fun _ i _=>code.length-(intOf i).toNat)
        case atStart=>exact⟨0,Nat.zero_le _,rfl,by rw[HTG0.out],Below.refl _ _⟩
        case round=>
         obtain⟨wq,rfl⟩:∃ x:World,x=wr:=⟨_,rfl⟩
         obtain⟨j0,hj0,rfl,rfl,hbq⟩:=hrel
         have HBQ:=hid hbq
         have HATq:=hid (HATp.out.keep hbq)
         clear hbq
         by_cases hjl:j0<code.length
         rotate_left
         ·obtain rfl:j0=code.length:=by omega
          have hjn:¬ (code.length:Int)<(code.length:Int):=by omega
          have HTI:=HTGL.out nm code.length (Nat.le_refl _)
          obtain⟨tv,htv⟩:∃ tv,tg nm code.length=tv:=⟨_,rfl⟩
          rw[htv] at HTI HNX
          rw[htv]
          have HTV:Hid (InI64 tv):=by show InI64 tv;unfold InI64;omega
          clear htv HTI
          have q0:=cell_keep HBQ.out HP0.out
          have g12:=row_of HATq.out.mak.hm 12 (.slice (some ⟨gk,0,none⟩) C'.length ck) rfl
          rw[HCL.out] at g12
          have hptl:(pt:Int)<(C9.length:Int):=by have:=HPT.out;omega
          go_upto_region 51 with fail
          have e0:=ext_cell q0
          have e1:=ext_cell g12
          clear q0 g12
          (refine wp_region_calm (by kernel_rfl) (by kernel_rfl) ?_; (repeat (go_big_quiet_step (fail))); refine wpQuiet_nil ?_; intro wc hwc)
          clear e0 e1
          obtain⟨W51,rfl⟩:∃ z:World,z=wc:=⟨_,rfl⟩
          have HB51:=hid (bcomp HBQ.out hwc)
          clear hwc
          have HAT51:=hid (HATp.out.keep HB51.out)
          have q0:=cell_keep HB51.out HP0.out
          have g12:=row_of HAT51.out.mak.hm 12 (.slice (some ⟨gk,0,none⟩) C'.length ck) rfl
          rw[HCL.out] at g12
          go_upto_region 52 with fail
          have e0:=ext_cell q0
          have e1:=ext_cell g12
          clear q0 g12
          (refine wp_region_calm_tail 13 (by kernel_rfl) (by kernel_rfl) ?_; simp only[List.take_succ_cons, List.take_zero, List.drop_succ_cons, List.drop_zero]; (repeat (go_big_quiet_step (fail))); refine wpQuiet_nil ?_; intro wc hwc)
          have HB52:=hid (bcomp HB51.out hwc)
          have hcv:=cell_keep HB52.out HNC.out
          have hfz2:wc.frozen? ⟨gk,pt*8+3,none⟩=false:=(HB52.out.frozen (block_lt_of_cell HNC.out)).trans HFR.out
          clear e0 e1
          go_wp2_with fail
          go_roundw
          case rel=>
           refine⟨i0+1,.slice (some ⟨gk,0,none⟩) C9.length ck,by omega,by go_num,?_⟩
           rw[HNX.out]
           have hat:=HATp.out
           rw[HCL.out] at hat
           exact hat.setN HB52.out pt (by have:=HPT.out;have:=HCL.out;omega) _ HTV.out
          case measure=>simp[intOf];omega
         obtain⟨x,hx⟩:∃ x,code[j0]?=some x:=⟨_,lgFlV hjl⟩
         obtain⟨a0,c0,e0,_,hcr⟩:=HRD.out
         simp only[Value.slice.injEq,true_and] at e0
         obtain⟨rfl,rfl⟩:=e0
         obtain⟨bx,ox,av2,rfl,_,i0',i1,i2,i3,i4,i5,i6,hri⟩:=hcr j0 x hx
         have k0:=cell_keep HATq.out.mak.below i0'
         have k3:=cell_keep HATq.out.mak.below i3
         have p1:=cell_keep HBQ.out HP1.out
         have HX:=hid hx
         have hjlz:(j0:Int)<(code.length:Int):=by omega
         clear i0' i1 i2 i3 i4 i5 i6 hri hcr hx
         by_cases h10:x.kind=10
         ·have t10:(x.kind==10)=true:=by rw[h10];rfl
          cases tn:(x.name.toList==nm.toList)
          rotate_left
          ·have hnm:x.name=nm:=by simpa using list_hit (l:=[x.name]) (k:=0) rfl tn
           have hlbl:=HLB9.out j0 hjl
           have hlt9:j0<LB.length:=(List.getElem?_eq_some_iff.1 hlbl).1
           have HT:=hid (HTG1.out nm j0 x HX.out h10 hnm)
           have HLBC:Hid (wq.cell? ⟨lb,j0,none⟩=some (.int .i64 ((m.E.stI (m.E.bodyI n) (fiR m.E.p f) dst D0 code j0).C.length:Int))):=row_of HATq.out.lab j0 _ (by unfold i64sR;rw[List.getElem?_toArray,List.getElem?_map,hlbl];rfl)
           obtain⟨nv,hnv⟩:∃ nv:Int,((m.E.stI (m.E.bodyI n) (fiR m.E.p f) dst D0 code j0).C.length:Int)=nv:=⟨_,rfl⟩
           rw[hnv] at HLBC HT
           have HLL9:=HLBL.out
           have hlz:(j0:Int)<(LB.length:Int):=by omega
           clear hlbl hnv h10 HLL9 hlt9 hnm
           go_upto_region 49 with fail
           have E0:=ext_cell k0
           have E1:=ext_cell k3
           have E2:=ext_cell p1
           clear k0 k3 p1
           (refine wp_region_calm (by kernel_rfl) (by kernel_rfl) ?_; (repeat (go_big_quiet_step (fail))); refine wpQuiet_nil ?_; intro wc hwc)
           clear E0 E1 E2
           have lc:=cell_keep hwc HLBC.out
           have HB9:=hid (bcomp HBQ.out hwc)
           clear hwc
           go_wp2_with fail
           go_roundw
           case rel=>exact⟨j0+1,by omega,by go_num,by rw[HT.out],HB9.out⟩
           case measure=>simp[intOf];omega
          ·have HT:=hid (HTG2.out nm j0 x HX.out (fun h=>by rw[h.2] at tn;simp at tn))
           clear h10
           go_upto_region 49 with fail
           have E0:=ext_cell k0
           have E1:=ext_cell k3
           have E2:=ext_cell p1
           clear k0 k3 p1
           (refine wp_region_calm (by kernel_rfl) (by kernel_rfl) ?_; (repeat (go_big_quiet_step (fail))); refine wpQuiet_nil ?_; intro wc hwc)
           clear E0 E1 E2
           have HB9:=hid (bcomp HBQ.out hwc)
           clear hwc
           go_wp2_with fail
           go_roundw
           case rel=>exact⟨j0+1,by omega,by go_num,by rw[HT.out],HB9.out⟩
           case measure=>simp[intOf];omega
         ·have t10:(x.kind==10)=false:=by simpa using h10
          have HT:=hid (HTG2.out nm j0 x HX.out (fun h=>h10 h.1))
          go_upto_region 49 with fail
          have E0:=ext_cell k0
          have E1:=ext_cell k3
          have E2:=ext_cell p1
          clear k0 k3 p1
          (refine wp_region_calm (by kernel_rfl) (by kernel_rfl) ?_; (repeat (go_big_quiet_step (fail))); refine wpQuiet_nil ?_; intro wc hwc)
          clear E0 E1 E2
          have HB9:=hid (bcomp HBQ.out hwc)
          clear hwc
          go_wp2_with fail
          go_roundw
          case rel=>exact⟨j0+1,by omega,by go_num,by rw[HT.out],HB9.out⟩
          case measure=>simp[intOf];omega
  obtain⟨hlt,rfl⟩:=hgo
  obtain⟨S,hS⟩:∃ S,m.E.stI (m.E.bodyI n) (fiR m.E.p f) dst D0 code k=S:=⟨_,rfl⟩
  rw[hS] at HINV
  obtain⟨rfl,hC4⟩:C=S.C∧S.C.length≤4097:=by
   rcases HINV.out with ⟨_,e,h⟩|⟨e,_⟩
   ·exact⟨e,h⟩
   ·cases e
  obtain⟨hM1,hL1⟩:=HQ.out rfl
  have HM1:=hid hM1
  have HL1:=hid hL1
  obtain⟨x,hx⟩:∃ x,code[k]?=some x:=⟨_,lgFlV hlt⟩
  have hsucc:=m.E.stI_succ (m.E.bodyI n) (fiR m.E.p f) dst D0 code k x hx
  have hmsucc:=m.E.mI_succ (m.E.bodyI n) (fiR m.E.p f) dst D0 code k x hx
  rw[hS] at hsucc hmsucc
  rw[← hM1] at hmsucc
  have HSUCC:=hid hsucc
  have HMS:=hid hmsucc
  have HSS:=hid hS
  have hwi:=HWC.out.ins x (List.mem_of_getElem? hx)
  have HWI:=hid hwi
  obtain⟨a0,c0,e0,_,hcr⟩:=HRD.out
  simp only[Value.slice.injEq,true_and] at e0
  obtain⟨rfl,rfl⟩:=e0
  obtain⟨bx,ox,av2,rfl,_,i0,i1,i2,i3,i4,i5,i6,hri⟩:=hcr k x hx
  obtain⟨aa2,ca2,rfl,_,har⟩:=id hri.1
  have k0:=cell_keep HAT.out.mak.below i0
  have k1:=cell_keep HAT.out.mak.below i1
  have k2:=cell_keep HAT.out.mak.below i2
  have k3:=cell_keep HAT.out.mak.below i3
  have k4:=cell_keep HAT.out.mak.below i4
  have k5:=cell_keep HAT.out.mak.below i5
  have k6:=cell_keep HAT.out.mak.below i6
  have HX:=hid hx
  have HRI:=hid hri
  have HAR:=hid har
  have hklt:(k:Int)<(code.length:Int):=by omega
  have hg7:=heap_alloc_new wo (.cells #[.int .u8 x.kind,.int .u8 x.op,.string x.dst,.string x.name,.slice aa2 x.args.length ca2,.int .i64 x.line,.int .i64 x.col] 60)
  have hb7:Below wo.heap.size wo (wo.alloc (.cells #[.int .u8 x.kind,.int .u8 x.op,.string x.dst,.string x.name,.slice aa2 x.args.length ca2,.int .i64 x.line,.int .i64 x.col] 60)):=(Below.refl _ _).alloc (Nat.le_refl _) _
  have HG7:=hid hg7
  have HAT7:=hid (HAT.out.keep hb7)
  clear i0 i1 i2 i3 i4 i5 i6 hri hx har hg7 hb7 hcr hM1 hL1 hsucc hmsucc hS hwi HQ
  go_upto_region 7 with fail
  generalize wo.alloc (.cells #[.int .u8 x.kind,.int .u8 x.op,.string x.dst,.string x.name,.slice aa2 x.args.length ca2,.int .i64 x.line,.int .i64 x.col] 60)=W7 at *
  obtain⟨ib,hib⟩:∃ ib,wo.heap.size=ib:=⟨_,rfl⟩
  rw[hib] at HG7
  rw[hib]
  clear hib k0 k1 k2 k3 k4 k5 k6 g13 HAT
  have g12:=row_of HAT7.out.mak.hm 12 (.slice ka S.C.length kcap) rfl
  have hlbk:k<LB.length:=by have:=HLBL.out;omega
  have hlab:W7.heap[lb]?=some (.cells (i64sR LB) 3 (0,0)):=HAT7.out.lab
  have lc:W7.cell? ⟨lb,k,none⟩=some (.int .i64 LB[k]):=row_of hlab k _ (by unfold i64sR;rw[List.getElem?_toArray,List.getElem?_map,List.getElem?_eq_getElem hlbk];rfl)
  have fc:W7.frozen? ⟨lb,k,none⟩=false:=frozen_of_row W7 lb k _ _ hlab
  have HATy:=hid (HAT7.out.labelled HBO.out k (S.C.length:Int))
  have HGy:Hid ((W7.setCell ⟨lb,k,none⟩ (.int .i64 (S.C.length:Int))).heap[ib]?=some (.cells #[.int .u8 x.kind,.int .u8 x.op,.string x.dst,.string x.name,.slice aa2 x.args.length ca2,.int .i64 x.line,.int .i64 x.col] 60 (0,0))):=(heap_setCell_other _ _ _ _ (fun e=>by have e':ib=lb:=e;have h1:=HG7.out;rw[e',hlab] at h1;simp at h1)).trans HG7.out
  clear hlab
  go_upto_region 8 with fail
  clear g12 lc fc HG7 HAT7
  generalize W7.setCell ⟨lb,k,none⟩ (.int .i64 (S.C.length:Int))=Wy at *
  obtain⟨LB2,hLB2⟩:∃ LB2,LB.set k (S.C.length:Int)=LB2:=⟨_,rfl⟩
  have HLL:Hid (LB2.length=code.length∧∀ j,j<k+1→LB2[j]?=some ((m.E.stI (m.E.bodyI n) (fiR m.E.p f) dst D0 code j).C.length:Int)):=by
   rw[← hLB2]
   refine⟨by rw[List.length_set];exact HLBL.out,fun j hj=>?_⟩
   rw[List.getElem?_set]
   by_cases h1:k=j
   ·subst h1
    rw[if_pos rfl,if_pos hlbk,HSS.out]
   ·rw[if_neg h1]
    exact HL1.out j (by omega)
  rw[hLB2] at HATy
  clear hLB2 hlbk HLBL HL1
  have y0:=row_of HGy.out 0 (.int .u8 x.kind) rfl
  obtain⟨kk,hkk⟩:∃ kk:Nat,x.kind=kk:=⟨x.kind.toNat,by have:=HRI.out.2.1.1;omega⟩
  have hk12:kk≤12:=by have:=formB_kind HWI.out.form;omega
  obtain⟨d,hd⟩:∃ d,m.E.reg (fiR m.E.p f) x.dst=d:=⟨_,rfl⟩
  have hreg:=fun (z:World)=>rreg_any m H _ _ _ f x.dst (ext Wy z) (HATy.out.mak.keep (ext_below Wy z)) HF.out
  have hregb:=fun (z:World) (hz:Below Wy.heap.size Wy z)=>rreg_any m H _ _ _ f x.dst z (HATy.out.mak.keep hz) HF.out
  rw[hd] at hreg hregb
  have HREG:=hid hreg
  have HREGB:=hid hregb
  have HD:=hid hd
  have hdi:InI64 d:=by
   rw[← hd]
   have h1:=regN_lt m.E.R (fiR m.E.p f) x.dst
   have h2:m.E.R=placesP m.E.p:=by rw[H.env];rfl
   have h3:=placesP_len H.chk
   rw[h2] at h1
   show InI64 ((regN m.E.R (fiR m.E.p f) x.dst:Nat):Int)
   rw[h2]
   unfold InI64;omega
  have HDI:=hid hdi
  have HREF:=hid (fun (a:ArgD) (z:World) (hz:Below Wy.heap.size Wy z) (hu:InU64 a.num)=>rref_any m H _ _ _ f a z (HATy.out.mak.keep hz) HF.out hu)
  have HPUT:=hid (fun (c:CodeD) (z:World) (hz:Below Wy.heap.size Wy z) (hc:okC c)=>rput_any m c _ _ _ z (HATy.out.mak.keep hz) hc hC4)
  clear hreg hregb hd hdi
    -- SWITCH
  revert hkk hk12
  match kk with
  | 0=>
   as_aux_lemma=>
    intro hkk _
        -- 0
    have hk':x.kind=0:=hkk
    have t0:(x.kind==0)=true:=by rw[hk'];rfl
    have hal:x.args.length=1:=count_plainR HWI.out.form hkk (by decide) (d:=true) (nm:=false) (n:=1) rfl
    obtain⟨b0,hb0⟩:∃ a,x.args[0]?=some a:=⟨_,lgFlV (by omega)⟩
    obtain⟨ba0,oa0,ea0,_,m00,m01,hu0,_⟩:=HAR.out 0 b0 hb0
    have HMA0:=hid m00
    have HMB0:=hid m01
    have p00:=cell_keep HATy.out.mak.below m00
    have p01:=cell_keep HATy.out.mak.below m01
    simp only[Nat.zero_mul,Nat.one_mul,Nat.add_zero] at p00 p01
    have harg0:m.E.arg (fiR m.E.p f) x.args 0=m.E.ref (fiR m.E.p f) b0:=by unfold EnvF.arg argF;rw[hb0];rfl
    have HROK0:=hid (refV_okR m H (fiR m.E.p f) b0 hu0)
    have href0:=fun (z:World) (hz:Below Wy.heap.size Wy z)=>HREF.out b0 z hz hu0
    obtain⟨r0,hr0⟩:∃ r,m.E.ref (fiR m.E.p f) b0=r:=⟨_,rfl⟩
    have hr0k:=hr0
    rw[hr0] at harg0 HROK0 href0
    have HREF0:=hid href0
    clear m00 m01 hr0 href0 hb0
    have y2:=row_of HGy.out 2 (.string x.dst) rfl
    have y3:=row_of HGy.out 3 (.string x.name) rfl
    have y1:=row_of HGy.out 1 (.int .u8 x.op) rfl
    have y4:=row_of HGy.out 4 (.slice aa2 x.args.length ca2) rfl
    have g0:=row_of HATy.out.mak.hm 0 (.int .i64 m.E.p.width) rfl
    have g1:=row_of HATy.out.mak.hm 1 (.slice m.ac m.E.p.chans.length m.kc) rfl
    have g2:=row_of HATy.out.mak.hm 2 (.slice m.aa m.E.p.arrays.length m.ka) rfl
    have g3:=row_of HATy.out.mak.hm 3 (.slice m.af m.E.p.funcs.length m.kf) rfl
    have g4:=row_of HATy.out.mak.hm 4 (.slice m.am m.E.p.main.length m.km) rfl
    have g10:=row_of HATy.out.mak.hm 10 (.slice m.sa m.E.S.length m.sk) rfl
    have g12:=row_of HATy.out.mak.hm 12 (.slice ka S.C.length kcap) rfl
    have HONE:m.E.one (fiR m.E.p f) x=⟨0,0,d,0,r0,zeroRef⟩:=by
     unfold EnvF.one
     simp[hk',HD.out,harg0]
    have HST:Hid ((m.E.stepI (m.E.bodyI n) (fiR m.E.p f) dst S x).C=S.C++[⟨0,0,d,0,r0,zeroRef⟩]):=by
     show _=_
     unfold EnvF.stepI
     rw[if_neg (by omega),if_neg (by omega),if_neg (by omega),if_neg (by omega),HONE]
    have HMX:Hid (M=m.E.mI (m.E.bodyI n) (fiR m.E.p f) dst D0 code (k+1)):=by
     show _=_
     rw[HMS.out]
     unfold EnvF.mStep
     rw[if_neg (by omega),if_neg (by omega)]
    have HCK:Hid (okC ⟨0,0,d,0,r0,zeroRef⟩):=⟨u8nR _ rfl,u8_0,HDI.out,i64_0,HROK0.out.1,HROK0.out.2,i64_0,u64_0⟩
    have hput:=fun (z:World) (hz:Below Wy.heap.size Wy z)=>HPUT.out ⟨0,0,d,0,r0,zeroRef⟩ z hz HCK.out
    simp only[codeA,zeroRef] at hput
    have HPT:=hid hput
    have HNI:=hid (HINV.out.put ⟨0,0,d,0,r0,zeroRef⟩)
    clear hput
    rw[ea0] at y4
    have hl0:(0:Int)<(x.args.length:Int):=by omega
    clear hkk hk' hal ea0 harg0
    go_upto_region 10 with fail
    have E0:=ext_cell y2
    have E1:=ext_cell y3
    have E2:=ext_cell y4
    have E3:=ext_cell g0
    have E4:=ext_cell g1
    have E5:=ext_cell g2
    have E6:=ext_cell g3
    have E7:=ext_cell g4
    have E8:=ext_cell g10
    have E9:=ext_cell p00
    have E10:=ext_cell p01
    clear y0 y1 y2 y3 y4 g0 g1 g2 g3 g4 g10 p00 p01 g12
    (refine wp_region_calm_tail 14 (by kernel_rfl) (by kernel_rfl) ?_; simp only[List.take_succ_cons, List.take_zero, List.drop_succ_cons, List.drop_zero]; (repeat (go_big_quiet_step ((first|(go_at_call 74;exact calls_calm (HREG.out _))|(go_at_call 75;exact calls_calm (HREF0.out _ (ext_below _ _))))))); refine wpQuiet_nil ?_; intro wc hwc)
    clear E0 E1 E2 E3 E4 E5 E6 E7 E8 E9 E10
    go_wp2_with (go_at_call 40;refine (HPT.out _ hwc).mono ?_;rintro e z9 ⟨rfl,kv9,hat9,hgr9⟩;have HAT9:=hid ((HATy.out.keep hwc).made hat9 hgr9);clear hat9 hgr9)
    go_roundw
    case rel=>
     refine⟨k+1,kv9,_,_,LB2,M,by omega,by go_num,?_,HAT9.out,HLL.out.1,(fun _=>⟨HMX.out,HLL.out.2⟩),by have:=HMK.out;omega⟩
     rw[HSUCC.out,HST.out]
     exact HNI.out
    case measure=>simp[intOf];omega
  | 1=>
   as_aux_lemma=>
    intro hkk _
        -- 1
    have hk':x.kind=1:=hkk
    have t0:(x.kind==0)=false:=by rw[hk'];rfl
    have t1:(x.kind==1)=true:=by rw[hk'];rfl
    have hal:1≤x.args.length∧x.args.length≤2:=by
     obtain⟨g1,_,_,g4⟩:=form_atR HWI.out.form hk' (k:=1) (d:=true) (nm:=false) (n:=0) rfl
     unfold opB at g1
     rw[if_pos hk',Bool.and_eq_true,decide_eq_true_eq,decide_eq_true_eq] at g1
     have e:wantZ x 0=if x.op≤3 then 1 else 2:=by
      unfold wantZ arityZ
      rw[if_pos hk',if_neg (by omega),if_neg (by omega)]
      split
      ·rfl
      ·rw[if_neg (by omega)]
     have:=count_isR g4 (by rw[e];split <;> decide)
     rw[e] at this
     split at this <;> omega
    obtain⟨b0,hb0⟩:∃ a,x.args[0]?=some a:=⟨_,lgFlV (by omega)⟩
    obtain⟨ba0,oa0,ea0,_,m00,m01,hu0,_⟩:=HAR.out 0 b0 hb0
    have HMA0:=hid m00
    have HMB0:=hid m01
    have p00:=cell_keep HATy.out.mak.below m00
    have p01:=cell_keep HATy.out.mak.below m01
    simp only[Nat.zero_mul,Nat.one_mul,Nat.add_zero] at p00 p01
    have harg0:m.E.arg (fiR m.E.p f) x.args 0=m.E.ref (fiR m.E.p f) b0:=by unfold EnvF.arg argF;rw[hb0];rfl
    have HROK0:=hid (refV_okR m H (fiR m.E.p f) b0 hu0)
    have href0:=fun (z:World) (hz:Below Wy.heap.size Wy z)=>HREF.out b0 z hz hu0
    obtain⟨r0,hr0⟩:∃ r,m.E.ref (fiR m.E.p f) b0=r:=⟨_,rfl⟩
    have hr0k:=hr0
    rw[hr0] at harg0 HROK0 href0
    have HREF0:=hid href0
    clear m00 m01 hr0 href0 hb0
    have y2:=row_of HGy.out 2 (.string x.dst) rfl
    have y3:=row_of HGy.out 3 (.string x.name) rfl
    have y1:=row_of HGy.out 1 (.int .u8 x.op) rfl
    have y4:=row_of HGy.out 4 (.slice aa2 x.args.length ca2) rfl
    have g0:=row_of HATy.out.mak.hm 0 (.int .i64 m.E.p.width) rfl
    have g1:=row_of HATy.out.mak.hm 1 (.slice m.ac m.E.p.chans.length m.kc) rfl
    have g2:=row_of HATy.out.mak.hm 2 (.slice m.aa m.E.p.arrays.length m.ka) rfl
    have g3:=row_of HATy.out.mak.hm 3 (.slice m.af m.E.p.funcs.length m.kf) rfl
    have g4:=row_of HATy.out.mak.hm 4 (.slice m.am m.E.p.main.length m.km) rfl
    have g10:=row_of HATy.out.mak.hm 10 (.slice m.sa m.E.S.length m.sk) rfl
    have g12:=row_of HATy.out.mak.hm 12 (.slice ka S.C.length kcap) rfl
    have HOP:=hid HRI.out.2.2.1
    have HST:Hid ((m.E.stepI (m.E.bodyI n) (fiR m.E.p f) dst S x).C=S.C++[⟨1,x.op,d,0,r0,m.E.arg (fiR m.E.p f) x.args 1⟩]):=by
     show _=_
     unfold EnvF.stepI
     rw[if_neg (by omega),if_neg (by omega),if_neg (by omega),if_neg (by omega)]
     unfold EnvF.one
     rw[if_neg (by omega),if_pos hk',HD.out,harg0]
    have HMX:Hid (M=m.E.mI (m.E.bodyI n) (fiR m.E.p f) dst D0 code (k+1)):=by
     show _=_
     rw[HMS.out]
     unfold EnvF.mStep
     rw[if_neg (by omega),if_neg (by omega)]
    rw[ea0] at y4
    have hl0:(0:Int)<(x.args.length:Int):=by omega
    have HAL:=hid hal
    have HHK:=hid hk'
    have HEA:=hid ea0
    clear hkk hk' hal ea0 harg0
    go_upto_region 12 with fail
    refine wp_region_own [0,1,2,3,4,5,7,8,9,10,11,12] [⟨6,some 77,[]⟩,⟨13,some 84,[]⟩,⟨14,some 85,[(6,some 77),(13,some 84)]⟩,⟨15,some 11,[]⟩] [16] [_] (fun j=>decide (16≤j))
     (fun j v w lo hi=>match j with
       | 6=>ValR v (.int .i64 d)
       | 13=>ValR v (.agg #[.int .i64 r0.reg,.int .u64 r0.num])
       | 14=>ValR v (.agg #[.int .u8 1,.int .u8 x.op,.int .i64 d,.int .i64 0,.int .i64 r0.reg,.int .u64 r0.num,.int .i64 0,.int .u64 0])
       | 15=>NewCR v w lo
       | _=>True) (by kernel_rfl) (by kernel_rfl) rfl (by kernel_rfl) rfl rfl (fun _ d _ _ _ h=>by cases d <;> exact h) ?_ ?_
    ·intro j v w w' lo hi hy hbw
     match j,hy with
     | 6,hy=>exact hy
     | 13,hy=>exact hy
     | 14,hy=>exact hy
     | 15,hy=>exact NewCR.keep hy hbw
     | 0,_|1,_|2,_|3,_|4,_|5,_|7,_|8,_|9,_|10,_|11,_|12,_|(x+16),_=>trivial
    have E0:=ext_cell y1
    have E1:=ext_cell y2
    have E2:=ext_cell y4
    have E3:=ext_cell p00
    have E4:=ext_cell p01
    clear y0 y3 g0 g1 g2 g3 g4 g10 g12 y1 y2 y4 p00 p01
    refine mix_reads (by simp only[opsOf,List.filterMap_cons,List.filterMap_nil,List.getElem?_toArray,List.getElem?_cons_succ,List.getElem?_cons_zero];rfl) ⟨_,ext_of (Below.refl _ _).drew⟩ ?_
    change wpQuiet _ _ _ _ [_,_,_,_,_,_,_,_,_,_,_,_] _
    (repeat (go_big_quiet_step (fail)))
    refine wpQuiet_nil ?_
    clear E0 E1 E2 E3 E4
    have HDW:Hid (Below Wy.heap.size Wy Wy.drew):=(Below.refl _ _).drew
    refine⟨⟨fun vs wn hb hn=>?_,fun vs wn hb hn=>?_,fun vs wn hb hn=>?_,fun vs wn hb hn=>?_,trivial⟩,fun vs wn hb hy hd=>?_⟩
    ·have HBN:=hid (bcomp HDW.out hb)
     clear hn hb
     refine mix_step rfl ?_
     simp only[pv]
     go_wp2_with (go_at_call 74;refine (HREGB.out _ HBN.out).mono ?_;rintro e w1 ⟨rfl,hb1⟩)
     exact⟨.int .i64 d,rfl,hb1,rfl⟩
    ·have HBN:=hid (bcomp HDW.out hb)
     clear hn hb
     refine mix_step rfl ?_
     simp only[pv]
     go_wp2_with (go_at_call 75;refine (HREF0.out _ HBN.out).mono ?_;rintro e w1 ⟨rfl,hb1⟩)
     exact⟨.agg #[.int .i64 r0.reg,.int .u64 r0.num],rfl,hb1,rfl⟩
    ·have e0:(vs 6).1=.int .i64 d:=hn (6,some 77) (by simp)
     have e1:(vs 13).1=.agg #[.int .i64 r0.reg,.int .u64 r0.num]:=hn (13,some 84) (by simp)
     clear hn hb
     refine mix_step rfl ?_
     simp only[pv]
     rw[e0,e1]
     go_wp2_with fail
     exact⟨.agg #[.int .u8 1,.int .u8 x.op,.int .i64 d,.int .i64 0,.int .i64 r0.reg,.int .u64 r0.num,.int .i64 0,.int .u64 0],rfl,Below.refl _ _,rfl⟩
    ·clear hn hb
     refine mix_step rfl ?_
     simp only[pv]
     go_wp2_with fail
     exact⟨.pointer (some ⟨wn.heap.size,0,none⟩),rfl,(Below.refl _ _).alloc (Nat.le_refl _) _,newCR_of wn⟩
    obtain⟨ym,-⟩:=hy ⟨14,some 85,[(6,some 77),(13,some 84)]⟩ (by simp)
    have em:(vs 14).1=.agg #[.int .u8 1,.int .u8 x.op,.int .i64 d,.int .i64 0,.int .i64 r0.reg,.int .u64 r0.num,.int .i64 0,.int .u64 0]:=ym
    obtain⟨⟨gc,e15,hg1,hgc⟩,hl15,-⟩:=hy ⟨15,some 11,[]⟩ (by simp)
    have e15:(vs 15).1=.pointer (some ⟨gc,0,none⟩):=e15
    have hgn:Wy.heap.size≤gc:=Nat.le_trans (Nat.le_trans HDW.out.size hl15) hg1
    have hbw:=bcomp HDW.out hb
    clear hy hd hb ym hl15 hg1
    simp only[List.map,Maker.pr,pv]
    rw[em,e15]
    clear em e15
    generalize (vs 6).1=v6
    generalize (vs 13).1=v13
    simp only[Act.put,List.setIfInBounds_toArray,List.set_cons_succ,List.set_cons_zero,List.getElem_toArray,List.getElem_cons_succ,List.getElem_cons_zero]
    have HGC:=hid hgc
    have HBZ:=hid (below_row hbw hgn #[.int .u8 1,.int .u8 x.op,.int .i64 d,.int .i64 0,.int .i64 r0.reg,.int .u64 r0.num,.int .i64 0,.int .u64 0])
    have HGZ:Hid ((wn.setRow gc #[.int .u8 1,.int .u8 x.op,.int .i64 d,.int .i64 0,.int .i64 r0.reg,.int .u64 r0.num,.int .i64 0,.int .u64 0]).heap[gc]?=some (.cells #[.int .u8 1,.int .u8 x.op,.int .i64 d,.int .i64 0,.int .i64 r0.reg,.int .u64 r0.num,.int .i64 0,.int .u64 0] 48 (0,0))):=setRow_heap _ _ _ _ _ _ hgc
    clear hgc hbw
    go_upto_region 13 with (refine wpList_store_row rfl 48 (.tmp 11) (.tmp 85) rfl gc #[.int .u8 1,.int .u8 x.op,.int .i64 d,.int .i64 0,.int .i64 r0.reg,.int .u64 r0.num,.int .i64 0,.int .u64 0] rfl rfl 48 #[.int .u8 0,.int .u8 0,.int .i64 0,.int .i64 0,.int .i64 0,.int .u64 0,.int .i64 0,.int .u64 0] ?hs0 (by as_aux_lemma=>kernel_rfl) (by as_aux_lemma=>kernel_rfl) (by as_aux_lemma=>kernel_rfl) ?_;exact HGC.out)
    try simp only[Act.put]
    generalize wn.setRow gc #[.int .u8 1,.int .u8 x.op,.int .i64 d,.int .i64 0,.int .i64 r0.reg,.int .u64 r0.num,.int .i64 0,.int .u64 0]=wz at *
    have HATz:=hid (HATy.out.keep HBZ.out)
    have hib:=(HBZ.out.block ib (gsFlV HGy.out)).trans HGy.out
    have y4:=row_of hib 4 (.slice aa2 x.args.length ca2) rfl
    rw[HEA.out] at y4
    clear hib HGC
    by_cases h2:(1:Int)<(x.args.length:Int)
    rotate_left
    ·skip
     have harg1:Hid (m.E.arg (fiR m.E.p f) x.args 1=zeroRef):=by
      show _=_
      unfold EnvF.arg argF;rw[List.getElem?_eq_none (by omega)]
     go_upto_region 15 with fail
     clear y4
     have c0:=row_of HGZ.out 0 (.int .u8 1) rfl
     have c1:=row_of HGZ.out 1 (.int .u8 x.op) rfl
     have c2:=row_of HGZ.out 2 (.int .i64 d) rfl
     have c3:=row_of HGZ.out 3 (.int .i64 0) rfl
     have c4:=row_of HGZ.out 4 (.int .i64 r0.reg) rfl
     have c5:=row_of HGZ.out 5 (.int .u64 r0.num) rfl
     have c6:=row_of HGZ.out 6 (.int .i64 0) rfl
     have c7:=row_of HGZ.out 7 (.int .u64 0) rfl
     have HCK:Hid (okC ⟨1,x.op,d,0,r0,zeroRef⟩):=⟨u8nR _ rfl,HOP.out,HDI.out,i64_0,HROK0.out.1,HROK0.out.2,i64_0,u64_0⟩
     have hput:=rput_any m ⟨1,x.op,d,0,r0,zeroRef⟩ _ _ _ wz HATz.out.mak HCK.out hC4
     simp only[codeA,zeroRef] at hput
     have HPTt:=hid hput
     have HNI:=hid (HINV.out.put ⟨1,x.op,d,0,r0,zeroRef⟩)
     clear hput
     go_wp2_with (go_at_call 40;refine HPTt.out.mono ?_;rintro e z9 ⟨rfl,kv9,hat9,hgr9⟩;have HAT9:=hid (HATz.out.made hat9 hgr9);clear hat9 hgr9)
     go_roundw
     case rel=>
      refine⟨k+1,kv9,_,_,LB2,M,by omega,by go_num,?_,HAT9.out,HLL.out.1,(fun _=>⟨HMX.out,HLL.out.2⟩),by have:=HMK.out;omega⟩
      rw[HSUCC.out,HST.out,harg1.out]
      exact HNI.out
     case measure=>simp[intOf];omega
    obtain⟨b1,hb1⟩:∃ a,x.args[1]?=some a:=⟨_,lgFlV (by omega)⟩
    obtain⟨ba1,oa1,ea1,_,m10,m11,hu1,_⟩:=HAR.out 1 b1 hb1
    have HMA1:=hid m10
    have HMB1:=hid m11
    have p10:=cell_keep HATy.out.mak.below m10
    have p11:=cell_keep HATy.out.mak.below m11
    simp only[Nat.zero_mul,Nat.one_mul,Nat.add_zero] at p10 p11
    have harg1:m.E.arg (fiR m.E.p f) x.args 1=m.E.ref (fiR m.E.p f) b1:=by unfold EnvF.arg argF;rw[hb1];rfl
    have HROK1:=hid (refV_okR m H (fiR m.E.p f) b1 hu1)
    have href1:=fun (z:World) (hz:Below Wy.heap.size Wy z)=>HREF.out b1 z hz hu1
    obtain⟨r1,hr1⟩:∃ r,m.E.ref (fiR m.E.p f) b1=r:=⟨_,rfl⟩
    have hr1k:=hr1
    rw[hr1] at harg1 HROK1 href1
    have HREF1:=hid href1
    clear m10 m11 hr1 href1 hb1
    have hl1:(1:Int)<(x.args.length:Int):=by omega
    have HA1:=hid harg1
    have HREFz:=hid (HREF1.out wz HBZ.out)
    clear harg1
    have ea2:=HEA.out.symm.trans ea1
    simp only[Option.some.injEq,Addr.mk.injEq,and_true] at ea2
    obtain⟨rfl,rfl⟩:=ea2
    clear ea1
    have p10:=cell_keep HATz.out.mak.below HMA1.out
    have p11:=cell_keep HATz.out.mak.below HMB1.out
    simp only[Nat.one_mul,Nat.add_zero] at p10 p11
    go_upto_region 14 with fail
    go_upto_region 15 with (go_at_call 75;refine HREFz.out.mono ?_;rintro e z8 ⟨rfl,hz8⟩;have B8:=hid hz8;have hz9:=(hz8.block gc (gsFlV HGZ.out)).trans HGZ.out;have q6:=row_of hz9 6 (.int .i64 0) rfl;have q7:=row_of hz9 7 (.int .u64 0) rfl;have f6:=frozen_of_row z8 gc 6 _ _ hz9;have f7:=frozen_of_row z8 gc 7 _ _ hz9;clear hz8)
    have HB2:Hid (Below Wy.heap.size Wy ((z8.setCell ⟨gc,6,none⟩ (.int .i64 r1.reg)).setCell ⟨gc,7,none⟩ (.int .u64 r1.num))):=((bcomp HBZ.out B8.out).setCell hgn _).setCell hgn _
    have HG2:Hid (((z8.setCell ⟨gc,6,none⟩ (.int .i64 r1.reg)).setCell ⟨gc,7,none⟩ (.int .u64 r1.num)).heap[gc]?=some (.cells #[.int .u8 1,.int .u8 x.op,.int .i64 d,.int .i64 0,.int .i64 r0.reg,.int .u64 r0.num,.int .i64 r1.reg,.int .u64 r1.num] 48 (0,0))):=heap_setCell_same _ _ 7 _ _ (.int .u64 r1.num) (heap_setCell_same _ _ 6 _ _ (.int .i64 r1.reg) ((B8.out.block gc (gsFlV HGZ.out)).trans HGZ.out))
    generalize (z8.setCell ⟨gc,6,none⟩ (.int .i64 r1.reg)).setCell ⟨gc,7,none⟩ (.int .u64 r1.num)=w2 at *
    have HAT2:=hid (HATy.out.keep HB2.out)
    clear y4 p10 p11 hl0 hl1 hz9 q6 q7 f6 f7
    have c0:=row_of HG2.out 0 (.int .u8 1) rfl
    have c1:=row_of HG2.out 1 (.int .u8 x.op) rfl
    have c2:=row_of HG2.out 2 (.int .i64 d) rfl
    have c3:=row_of HG2.out 3 (.int .i64 0) rfl
    have c4:=row_of HG2.out 4 (.int .i64 r0.reg) rfl
    have c5:=row_of HG2.out 5 (.int .u64 r0.num) rfl
    have c6:=row_of HG2.out 6 (.int .i64 r1.reg) rfl
    have c7:=row_of HG2.out 7 (.int .u64 r1.num) rfl
    have HCK:Hid (okC ⟨1,x.op,d,0,r0,r1⟩):=⟨u8nR _ rfl,HOP.out,HDI.out,i64_0,HROK0.out.1,HROK0.out.2,HROK1.out.1,HROK1.out.2⟩
    have hput:=rput_any m ⟨1,x.op,d,0,r0,r1⟩ _ _ _ w2 HAT2.out.mak HCK.out hC4
    simp only[codeA,zeroRef] at hput
    have HPTt:=hid hput
    have HNI:=hid (HINV.out.put ⟨1,x.op,d,0,r0,r1⟩)
    clear hput
    go_wp2_with (go_at_call 40;refine HPTt.out.mono ?_;rintro e z9 ⟨rfl,kv9,hat9,hgr9⟩;have HAT9:=hid (HAT2.out.made hat9 hgr9);clear hat9 hgr9)
    go_roundw
    case rel=>
     refine⟨k+1,kv9,_,_,LB2,M,by omega,by go_num,?_,HAT9.out,HLL.out.1,(fun _=>⟨HMX.out,HLL.out.2⟩),by have:=HMK.out;omega⟩
     rw[HSUCC.out,HST.out,HA1.out]
     exact HNI.out
    case measure=>simp[intOf];omega
  | 2=>
   as_aux_lemma=>
    intro hkk _
        -- 2
    have hk':x.kind=2:=hkk
    have t0:(x.kind==0)=false:=by rw[hk'];rfl
    have t1:(x.kind==1)=false:=by rw[hk'];rfl
    have t2:(x.kind==2)=true:=by rw[hk'];rfl
    have hal:x.args.length=1:=count_plainR HWI.out.form hkk (by decide) (d:=true) (nm:=true) (n:=1) rfl
    obtain⟨b0,hb0⟩:∃ a,x.args[0]?=some a:=⟨_,lgFlV (by omega)⟩
    obtain⟨ba0,oa0,ea0,_,m00,m01,hu0,_⟩:=HAR.out 0 b0 hb0
    have HMA0:=hid m00
    have HMB0:=hid m01
    have p00:=cell_keep HATy.out.mak.below m00
    have p01:=cell_keep HATy.out.mak.below m01
    simp only[Nat.zero_mul,Nat.one_mul,Nat.add_zero] at p00 p01
    have harg0:m.E.arg (fiR m.E.p f) x.args 0=m.E.ref (fiR m.E.p f) b0:=by unfold EnvF.arg argF;rw[hb0];rfl
    have HROK0:=hid (refV_okR m H (fiR m.E.p f) b0 hu0)
    have href0:=fun (z:World) (hz:Below Wy.heap.size Wy z)=>HREF.out b0 z hz hu0
    obtain⟨r0,hr0⟩:∃ r,m.E.ref (fiR m.E.p f) b0=r:=⟨_,rfl⟩
    have hr0k:=hr0
    rw[hr0] at harg0 HROK0 href0
    have HREF0:=hid href0
    clear m00 m01 hr0 href0 hb0
    have hmem:x.name∈(aNames m.E.p.arrays):=HWI.out.arr (.inl hk')
    obtain⟨q,hq⟩:∃ q:Int,idxS x.name (aNames m.E.p.arrays) 0=q:=⟨_,rfl⟩
    have hqi:InI64 q:=by
     obtain⟨g,h1,h2⟩:=idxS_pos 0 hmem
     have h3:=(List.getElem?_eq_some_iff.1 h2).1
     have h4:((aNames m.E.p.arrays)).length≤100000:=by unfold aNames;rw[List.length_map];have:=(wfP_of H.chk).arl;omega
     rw[← hq,h1]
     unfold InI64;omega
    have y2:=row_of HGy.out 2 (.string x.dst) rfl
    have y3:=row_of HGy.out 3 (.string x.name) rfl
    have y1:=row_of HGy.out 1 (.int .u8 x.op) rfl
    have y4:=row_of HGy.out 4 (.slice aa2 x.args.length ca2) rfl
    have g0:=row_of HATy.out.mak.hm 0 (.int .i64 m.E.p.width) rfl
    have g1:=row_of HATy.out.mak.hm 1 (.slice m.ac m.E.p.chans.length m.kc) rfl
    have g2:=row_of HATy.out.mak.hm 2 (.slice m.aa m.E.p.arrays.length m.ka) rfl
    have g3:=row_of HATy.out.mak.hm 3 (.slice m.af m.E.p.funcs.length m.kf) rfl
    have g4:=row_of HATy.out.mak.hm 4 (.slice m.am m.E.p.main.length m.km) rfl
    have g10:=row_of HATy.out.mak.hm 10 (.slice m.sa m.E.S.length m.sk) rfl
    have g12:=row_of HATy.out.mak.hm 12 (.slice ka S.C.length kcap) rfl
    have HONE:m.E.one (fiR m.E.p f) x=⟨2,0,d,q,r0,zeroRef⟩:=by
     unfold EnvF.one
     simp[hk',HD.out,harg0,hq]
    have HST:Hid ((m.E.stepI (m.E.bodyI n) (fiR m.E.p f) dst S x).C=S.C++[⟨2,0,d,q,r0,zeroRef⟩]):=by
     show _=_
     unfold EnvF.stepI
     rw[if_neg (by omega),if_neg (by omega),if_neg (by omega),if_neg (by omega),HONE]
    have HMX:Hid (M=m.E.mI (m.E.bodyI n) (fiR m.E.p f) dst D0 code (k+1)):=by
     show _=_
     rw[HMS.out]
     unfold EnvF.mStep
     rw[if_neg (by omega),if_neg (by omega)]
    have HCK:Hid (okC ⟨2,0,d,q,r0,zeroRef⟩):=⟨u8nR _ rfl,u8_0,HDI.out,hqi,HROK0.out.1,HROK0.out.2,i64_0,u64_0⟩
    have hput:=fun (z:World) (hz:Below Wy.heap.size Wy z)=>HPUT.out ⟨2,0,d,q,r0,zeroRef⟩ z hz HCK.out
    simp only[codeA,zeroRef] at hput
    have HPT:=hid hput
    have HNI:=hid (HINV.out.put ⟨2,0,d,q,r0,zeroRef⟩)
    clear hput
    rw[ea0] at y4
    have hl0:(0:Int)<(x.args.length:Int):=by omega
    have HNA:Hid (∀ z,Below Wy.heap.size Wy z→Calls Tryd.prog 69 #[.agg #[.int .i64 m.E.p.width,.slice m.ac m.E.p.chans.length m.kc,.slice m.aa m.E.p.arrays.length m.ka,.slice m.af m.E.p.funcs.length m.kf,.slice m.am m.E.p.main.length m.km]] z fun e w'=>∃ v,e=.returned v∧NamesV w' v (aNames m.E.p.arrays)∧Below z.heap.size z w'):=fun z hz=>by
     refine (refArrayNames m.E.p _ _ _ _ z ((HATy.out.mak.keep hz).prog H).2.1).mono ?_
     rintro e w' ⟨v,rfl,hr,hb⟩
     obtain⟨va,vc,rfl,_⟩:=id hr
     exact⟨_,rfl,⟨va,vc,rfl,hr.forget⟩,hb⟩
    have HIX:=hid (fun (z:World) (v:Value) (hv:RdStrs none z v (aNames m.E.p.arrays))=>rindex_any v _ x.name z hv hmem)
    rw[hq] at HIX
    clear hkk hk' hal ea0 harg0 hmem hq hqi
    go_upto_region 17 with fail
    refine wp_region_own [0,1,2,3,4,6,7,8,9,11,12,14,15,16,17,18,19] [⟨5,some 108,[]⟩,⟨10,some 113,[]⟩,⟨13,some 116,[(10,some 113)]⟩,⟨20,some 123,[]⟩,⟨21,some 124,[(5,some 108),(13,some 116),(20,some 123)]⟩] [22] [_] (fun j=>decide (22≤j))
     (fun j v w lo hi=>match j with
       | 5=>ValR v (.int .i64 d)
       | 10=>NamesV w v (aNames m.E.p.arrays)
       | 13=>ValR v (.int .i64 q)
       | 20=>ValR v (.agg #[.int .i64 r0.reg,.int .u64 r0.num])
       | 21=>ValR v (.agg #[.int .u8 2,.int .u8 0,.int .i64 d,.int .i64 q,.int .i64 r0.reg,.int .u64 r0.num,.int .i64 0,.int .u64 0])
       | _=>True) (by kernel_rfl) (by kernel_rfl) rfl (by kernel_rfl) rfl rfl (fun _ d _ _ _ h=>by cases d <;> exact h) ?_ ?_
    ·intro j v w w' lo hi hy hbw
     match j,hy with
     | 5,hy=>exact hy
     | 10,hy=>exact NamesV.keep hy hbw
     | 13,hy=>exact hy
     | 20,hy=>exact hy
     | 21,hy=>exact hy
     | 0,_|1,_|2,_|3,_|4,_|6,_|7,_|8,_|9,_|11,_|12,_|14,_|15,_|16,_|17,_|18,_|19,_|(x+22),_=>trivial
    have E0:=ext_cell y2
    have E1:=ext_cell y3
    have E2:=ext_cell y4
    have E3:=ext_cell g0
    have E4:=ext_cell g1
    have E5:=ext_cell g2
    have E6:=ext_cell g3
    have E7:=ext_cell g4
    have E8:=ext_cell p00
    have E9:=ext_cell p01
    clear y0 y1 g10 g12 y2 y3 y4 g0 g1 g2 g3 g4 p00 p01
    refine mix_reads (by simp only[opsOf,List.filterMap_cons,List.filterMap_nil,List.getElem?_toArray,List.getElem?_cons_succ,List.getElem?_cons_zero];rfl) ⟨_,ext_of (Below.refl _ _).drew⟩ ?_
    change wpQuiet _ _ _ _ [_,_,_,_,_,_,_,_,_,_,_,_,_,_,_,_,_] _
    (repeat (go_big_quiet_step (fail)))
    refine wpQuiet_nil ?_
    clear E0 E1 E2 E3 E4 E5 E6 E7 E8 E9
    have HDW:Hid (Below Wy.heap.size Wy Wy.drew):=(Below.refl _ _).drew
    refine⟨⟨fun vs wn hb hn=>?_,fun vs wn hb hn=>?_,fun vs wn hb hn=>?_,fun vs wn hb hn=>?_,fun vs wn hb hn=>?_,trivial⟩,fun vs wn hb hy hd=>?_⟩
    ·have HBN:=hid (bcomp HDW.out hb)
     clear hn hb
     refine mix_step rfl ?_
     simp only[pv]
     go_wp2_with (go_at_call 74;refine (HREGB.out _ HBN.out).mono ?_;rintro e w1 ⟨rfl,hb1⟩)
     exact⟨.int .i64 d,rfl,hb1,rfl⟩
    ·have HBN:=hid (bcomp HDW.out hb)
     clear hn hb
     refine mix_step rfl ?_
     simp only[pv]
     go_wp2_with (go_at_call 69;refine (HNA.out _ HBN.out).mono ?_;rintro e w1 ⟨v,rfl,hv,hb1⟩)
     exact⟨_,rfl,hb1,hv⟩
    ·have HBN:=hid (bcomp HDW.out hb)
     obtain⟨na,nc,e0,hv0⟩:=hn (10,some 113) (by simp)
     rw[e0] at hv0
     clear hn hb
     refine mix_step rfl ?_
     simp only[pv]
     rw[e0]
     go_wp2_with (go_at_call 76;refine (HIX.out _ _ hv0).mono ?_;rintro e w1 ⟨rfl,rfl⟩)
     exact⟨.int .i64 q,rfl,Below.refl _ _,rfl⟩
    ·have HBN:=hid (bcomp HDW.out hb)
     clear hn hb
     refine mix_step rfl ?_
     simp only[pv]
     go_wp2_with (go_at_call 75;refine (HREF0.out _ HBN.out).mono ?_;rintro e w1 ⟨rfl,hb1⟩)
     exact⟨.agg #[.int .i64 r0.reg,.int .u64 r0.num],rfl,hb1,rfl⟩
    ·have HBN:=hid (bcomp HDW.out hb)
     have e0:(vs 5).1=.int .i64 d:=hn (5,some 108) (by simp)
     have e1:(vs 13).1=.int .i64 q:=hn (13,some 116) (by simp)
     have e2:(vs 20).1=.agg #[.int .i64 r0.reg,.int .u64 r0.num]:=hn (20,some 123) (by simp)
     clear hn hb
     refine mix_step rfl ?_
     simp only[pv]
     rw[e0,e1,e2]
     go_wp2_with fail
     exact⟨.agg #[.int .u8 2,.int .u8 0,.int .i64 d,.int .i64 q,.int .i64 r0.reg,.int .u64 r0.num,.int .i64 0,.int .u64 0],rfl,Below.refl _ _,rfl⟩
    obtain⟨ym,-⟩:=hy ⟨21,some 124,[(5,some 108),(13,some 116),(20,some 123)]⟩ (by simp)
    have em:(vs 21).1=.agg #[.int .u8 2,.int .u8 0,.int .i64 d,.int .i64 q,.int .i64 r0.reg,.int .u64 r0.num,.int .i64 0,.int .u64 0]:=ym
    have hwc:=bcomp HDW.out hb
    clear hy hd hb ym
    simp only[List.map,Maker.pr,pv]
    rw[em]
    clear em
    simp only[Act.put,List.setIfInBounds_toArray,List.set_cons_succ,List.set_cons_zero,List.getElem_toArray,List.getElem_cons_succ,List.getElem_cons_zero]
    go_wp2_with (go_at_call 40;refine (HPT.out _ hwc).mono ?_;rintro e z9 ⟨rfl,kv9,hat9,hgr9⟩;have HAT9:=hid ((HATy.out.keep hwc).made hat9 hgr9);clear hat9 hgr9)
    go_roundw
    case rel=>
     refine⟨k+1,kv9,_,_,LB2,M,by omega,by go_num,?_,HAT9.out,HLL.out.1,(fun _=>⟨HMX.out,HLL.out.2⟩),by have:=HMK.out;omega⟩
     rw[HSUCC.out,HST.out]
     exact HNI.out
    case measure=>simp[intOf];omega
  | 3=>
   as_aux_lemma=>
    intro hkk _
        -- 3
    have hk':x.kind=3:=hkk
    have t0:(x.kind==0)=false:=by rw[hk'];rfl
    have t1:(x.kind==1)=false:=by rw[hk'];rfl
    have t2:(x.kind==2)=false:=by rw[hk'];rfl
    have t3:(x.kind==3)=true:=by rw[hk'];rfl
    have hal:x.args.length=2:=count_plainR HWI.out.form hkk (by decide) (d:=false) (nm:=true) (n:=2) rfl
    obtain⟨b0,hb0⟩:∃ a,x.args[0]?=some a:=⟨_,lgFlV (by omega)⟩
    obtain⟨ba0,oa0,ea0,_,m00,m01,hu0,_⟩:=HAR.out 0 b0 hb0
    have HMA0:=hid m00
    have HMB0:=hid m01
    have p00:=cell_keep HATy.out.mak.below m00
    have p01:=cell_keep HATy.out.mak.below m01
    simp only[Nat.zero_mul,Nat.one_mul,Nat.add_zero] at p00 p01
    have harg0:m.E.arg (fiR m.E.p f) x.args 0=m.E.ref (fiR m.E.p f) b0:=by unfold EnvF.arg argF;rw[hb0];rfl
    have HROK0:=hid (refV_okR m H (fiR m.E.p f) b0 hu0)
    have href0:=fun (z:World) (hz:Below Wy.heap.size Wy z)=>HREF.out b0 z hz hu0
    obtain⟨r0,hr0⟩:∃ r,m.E.ref (fiR m.E.p f) b0=r:=⟨_,rfl⟩
    have hr0k:=hr0
    rw[hr0] at harg0 HROK0 href0
    have HREF0:=hid href0
    clear m00 m01 hr0 href0 hb0
    obtain⟨b1,hb1⟩:∃ a,x.args[1]?=some a:=⟨_,lgFlV (by omega)⟩
    obtain⟨ba1,oa1,ea1,_,m10,m11,hu1,_⟩:=HAR.out 1 b1 hb1
    have HMA1:=hid m10
    have HMB1:=hid m11
    have p10:=cell_keep HATy.out.mak.below m10
    have p11:=cell_keep HATy.out.mak.below m11
    simp only[Nat.zero_mul,Nat.one_mul,Nat.add_zero] at p10 p11
    have harg1:m.E.arg (fiR m.E.p f) x.args 1=m.E.ref (fiR m.E.p f) b1:=by unfold EnvF.arg argF;rw[hb1];rfl
    have HROK1:=hid (refV_okR m H (fiR m.E.p f) b1 hu1)
    have href1:=fun (z:World) (hz:Below Wy.heap.size Wy z)=>HREF.out b1 z hz hu1
    obtain⟨r1,hr1⟩:∃ r,m.E.ref (fiR m.E.p f) b1=r:=⟨_,rfl⟩
    have hr1k:=hr1
    rw[hr1] at harg1 HROK1 href1
    have HREF1:=hid href1
    clear m10 m11 hr1 href1 hb1
    have hmem:x.name∈(aNames m.E.p.arrays):=HWI.out.arr (.inr hk')
    obtain⟨q,hq⟩:∃ q:Int,idxS x.name (aNames m.E.p.arrays) 0=q:=⟨_,rfl⟩
    have hqi:InI64 q:=by
     obtain⟨g,h1,h2⟩:=idxS_pos 0 hmem
     have h3:=(List.getElem?_eq_some_iff.1 h2).1
     have h4:((aNames m.E.p.arrays)).length≤100000:=by unfold aNames;rw[List.length_map];have:=(wfP_of H.chk).arl;omega
     rw[← hq,h1]
     unfold InI64;omega
    have y2:=row_of HGy.out 2 (.string x.dst) rfl
    have y3:=row_of HGy.out 3 (.string x.name) rfl
    have y1:=row_of HGy.out 1 (.int .u8 x.op) rfl
    have y4:=row_of HGy.out 4 (.slice aa2 x.args.length ca2) rfl
    have g0:=row_of HATy.out.mak.hm 0 (.int .i64 m.E.p.width) rfl
    have g1:=row_of HATy.out.mak.hm 1 (.slice m.ac m.E.p.chans.length m.kc) rfl
    have g2:=row_of HATy.out.mak.hm 2 (.slice m.aa m.E.p.arrays.length m.ka) rfl
    have g3:=row_of HATy.out.mak.hm 3 (.slice m.af m.E.p.funcs.length m.kf) rfl
    have g4:=row_of HATy.out.mak.hm 4 (.slice m.am m.E.p.main.length m.km) rfl
    have g10:=row_of HATy.out.mak.hm 10 (.slice m.sa m.E.S.length m.sk) rfl
    have g12:=row_of HATy.out.mak.hm 12 (.slice ka S.C.length kcap) rfl
    have HONE:m.E.one (fiR m.E.p f) x=⟨3,0,0,q,r0,r1⟩:=by
     unfold EnvF.one
     simp[hk',harg0,harg1,hq]
    have HST:Hid ((m.E.stepI (m.E.bodyI n) (fiR m.E.p f) dst S x).C=S.C++[⟨3,0,0,q,r0,r1⟩]):=by
     show _=_
     unfold EnvF.stepI
     rw[if_neg (by omega),if_neg (by omega),if_neg (by omega),if_neg (by omega),HONE]
    have HMX:Hid (M=m.E.mI (m.E.bodyI n) (fiR m.E.p f) dst D0 code (k+1)):=by
     show _=_
     rw[HMS.out]
     unfold EnvF.mStep
     rw[if_neg (by omega),if_neg (by omega)]
    have HCK:Hid (okC ⟨3,0,0,q,r0,r1⟩):=⟨u8nR _ rfl,u8_0,i64_0,hqi,HROK0.out.1,HROK0.out.2,HROK1.out.1,HROK1.out.2⟩
    have hput:=fun (z:World) (hz:Below Wy.heap.size Wy z)=>HPUT.out ⟨3,0,0,q,r0,r1⟩ z hz HCK.out
    simp only[codeA,zeroRef] at hput
    have HPT:=hid hput
    have HNI:=hid (HINV.out.put ⟨3,0,0,q,r0,r1⟩)
    clear hput
    rw[ea0] at y4
    have hl0:(0:Int)<(x.args.length:Int):=by omega
    have hl1:(1:Int)<(x.args.length:Int):=by omega
    have ea2:(some ⟨ba0,oa0,none⟩:Option Addr)=some ⟨ba1,oa1,none⟩:=ea0.symm.trans ea1
    simp only[Option.some.injEq,Addr.mk.injEq,and_true] at ea2
    obtain⟨rfl,rfl⟩:=ea2
    have HNA:Hid (∀ z,Below Wy.heap.size Wy z→Calls Tryd.prog 69 #[.agg #[.int .i64 m.E.p.width,.slice m.ac m.E.p.chans.length m.kc,.slice m.aa m.E.p.arrays.length m.ka,.slice m.af m.E.p.funcs.length m.kf,.slice m.am m.E.p.main.length m.km]] z fun e w'=>∃ v,e=.returned v∧NamesV w' v (aNames m.E.p.arrays)∧Below z.heap.size z w'):=fun z hz=>by
     refine (refArrayNames m.E.p _ _ _ _ z ((HATy.out.mak.keep hz).prog H).2.1).mono ?_
     rintro e w' ⟨v,rfl,hr,hb⟩
     obtain⟨va,vc,rfl,_⟩:=id hr
     exact⟨_,rfl,⟨va,vc,rfl,hr.forget⟩,hb⟩
    have HIX:=hid (fun (z:World) (v:Value) (hv:RdStrs none z v (aNames m.E.p.arrays))=>rindex_any v _ x.name z hv hmem)
    rw[hq] at HIX
    clear hkk hk' hal ea0 harg0 ea1 harg1 hmem hq hqi
    go_upto_region 19 with fail
    refine wp_region_own [0,1,2,3,4,6,7,9,10,11,12,13,14,16,17,18,19,20,21] [⟨5,some 133,[]⟩,⟨8,some 136,[(5,some 133)]⟩,⟨15,some 143,[]⟩,⟨22,some 150,[]⟩,⟨23,some 151,[(8,some 136),(15,some 143),(22,some 150)]⟩] [24] [_] (fun j=>decide (24≤j))
     (fun j v w lo hi=>match j with
       | 5=>NamesV w v (aNames m.E.p.arrays)
       | 8=>ValR v (.int .i64 q)
       | 15=>ValR v (.agg #[.int .i64 r0.reg,.int .u64 r0.num])
       | 22=>ValR v (.agg #[.int .i64 r1.reg,.int .u64 r1.num])
       | 23=>ValR v (.agg #[.int .u8 3,.int .u8 0,.int .i64 0,.int .i64 q,.int .i64 r0.reg,.int .u64 r0.num,.int .i64 r1.reg,.int .u64 r1.num])
       | _=>True) (by kernel_rfl) (by kernel_rfl) rfl (by kernel_rfl) rfl rfl (fun _ d _ _ _ h=>by cases d <;> exact h) ?_ ?_
    ·intro j v w w' lo hi hy hbw
     match j,hy with
     | 5,hy=>exact NamesV.keep hy hbw
     | 8,hy=>exact hy
     | 15,hy=>exact hy
     | 22,hy=>exact hy
     | 23,hy=>exact hy
     | 0,_|1,_|2,_|3,_|4,_|6,_|7,_|9,_|10,_|11,_|12,_|13,_|14,_|16,_|17,_|18,_|19,_|20,_|21,_|(x+24),_=>trivial
    have E0:=ext_cell y2
    have E1:=ext_cell y3
    have E2:=ext_cell y4
    have E3:=ext_cell g0
    have E4:=ext_cell g1
    have E5:=ext_cell g2
    have E6:=ext_cell g3
    have E7:=ext_cell g4
    have E8:=ext_cell p00
    have E9:=ext_cell p01
    have E10:=ext_cell p10
    have E11:=ext_cell p11
    clear y0 y1 g10 g12 y2 y3 y4 g0 g1 g2 g3 g4 p00 p01 p10 p11
    refine mix_reads (by simp only[opsOf,List.filterMap_cons,List.filterMap_nil,List.getElem?_toArray,List.getElem?_cons_succ,List.getElem?_cons_zero];rfl) ⟨_,ext_of (Below.refl _ _).drew⟩ ?_
    change wpQuiet _ _ _ _ [_,_,_,_,_,_,_,_,_,_,_,_,_,_,_,_,_,_,_] _
    (repeat (go_big_quiet_step (fail)))
    refine wpQuiet_nil ?_
    clear E0 E1 E2 E3 E4 E5 E6 E7 E8 E9 E10 E11
    have HDW:Hid (Below Wy.heap.size Wy Wy.drew):=(Below.refl _ _).drew
    refine⟨⟨fun vs wn hb hn=>?_,fun vs wn hb hn=>?_,fun vs wn hb hn=>?_,fun vs wn hb hn=>?_,fun vs wn hb hn=>?_,trivial⟩,fun vs wn hb hy hd=>?_⟩
    ·have HBN:=hid (bcomp HDW.out hb)
     clear hn hb
     refine mix_step rfl ?_
     simp only[pv]
     go_wp2_with (go_at_call 69;refine (HNA.out _ HBN.out).mono ?_;rintro e w1 ⟨v,rfl,hv,hb1⟩)
     exact⟨_,rfl,hb1,hv⟩
    ·have HBN:=hid (bcomp HDW.out hb)
     obtain⟨na,nc,e0,hv0⟩:=hn (5,some 133) (by simp)
     rw[e0] at hv0
     clear hn hb
     refine mix_step rfl ?_
     simp only[pv]
     rw[e0]
     go_wp2_with (go_at_call 76;refine (HIX.out _ _ hv0).mono ?_;rintro e w1 ⟨rfl,rfl⟩)
     exact⟨.int .i64 q,rfl,Below.refl _ _,rfl⟩
    ·have HBN:=hid (bcomp HDW.out hb)
     clear hn hb
     refine mix_step rfl ?_
     simp only[pv]
     go_wp2_with (go_at_call 75;refine (HREF0.out _ HBN.out).mono ?_;rintro e w1 ⟨rfl,hb1⟩)
     exact⟨.agg #[.int .i64 r0.reg,.int .u64 r0.num],rfl,hb1,rfl⟩
    ·have HBN:=hid (bcomp HDW.out hb)
     clear hn hb
     refine mix_step rfl ?_
     simp only[pv]
     go_wp2_with (go_at_call 75;refine (HREF1.out _ HBN.out).mono ?_;rintro e w1 ⟨rfl,hb1⟩)
     exact⟨.agg #[.int .i64 r1.reg,.int .u64 r1.num],rfl,hb1,rfl⟩
    ·have HBN:=hid (bcomp HDW.out hb)
     have e0:(vs 8).1=.int .i64 q:=hn (8,some 136) (by simp)
     have e1:(vs 15).1=.agg #[.int .i64 r0.reg,.int .u64 r0.num]:=hn (15,some 143) (by simp)
     have e2:(vs 22).1=.agg #[.int .i64 r1.reg,.int .u64 r1.num]:=hn (22,some 150) (by simp)
     clear hn hb
     refine mix_step rfl ?_
     simp only[pv]
     rw[e0,e1,e2]
     go_wp2_with (refine wpList_buildR rfl _ _ rfl _ rfl (builtR3 q r0 r1) ?_)
     exact⟨.agg #[.int .u8 3,.int .u8 0,.int .i64 0,.int .i64 q,.int .i64 r0.reg,.int .u64 r0.num,.int .i64 r1.reg,.int .u64 r1.num],rfl,Below.refl _ _,rfl⟩
    obtain⟨ym,-⟩:=hy ⟨23,some 151,[(8,some 136),(15,some 143),(22,some 150)]⟩ (by simp)
    have em:(vs 23).1=.agg #[.int .u8 3,.int .u8 0,.int .i64 0,.int .i64 q,.int .i64 r0.reg,.int .u64 r0.num,.int .i64 r1.reg,.int .u64 r1.num]:=ym
    have hwc:=bcomp HDW.out hb
    clear hy hd hb ym
    simp only[List.map,Maker.pr,pv]
    rw[em]
    clear em
    simp only[Act.put,List.setIfInBounds_toArray,List.set_cons_succ,List.set_cons_zero,List.getElem_toArray,List.getElem_cons_succ,List.getElem_cons_zero]
    go_wp2_with (go_at_call 40;refine (HPT.out _ hwc).mono ?_;rintro e z9 ⟨rfl,kv9,hat9,hgr9⟩;have HAT9:=hid ((HATy.out.keep hwc).made hat9 hgr9);clear hat9 hgr9)
    go_roundw
    case rel=>
     refine⟨k+1,kv9,_,_,LB2,M,by omega,by go_num,?_,HAT9.out,HLL.out.1,(fun _=>⟨HMX.out,HLL.out.2⟩),by have:=HMK.out;omega⟩
     rw[HSUCC.out,HST.out]
     exact HNI.out
    case measure=>simp[intOf];omega
  | 4=>
   as_aux_lemma=>
    intro hkk _
        -- 4
    have hk':x.kind=4:=hkk
    have t0:(x.kind==0)=false:=by rw[hk'];rfl
    have t1:(x.kind==1)=false:=by rw[hk'];rfl
    have t2:(x.kind==2)=false:=by rw[hk'];rfl
    have t3:(x.kind==3)=false:=by rw[hk'];rfl
    have t4:(x.kind==4)=true:=by rw[hk'];rfl
    obtain⟨g,fd,hg1,hg2,hg3,hg4⟩:=HFS.out x (List.mem_of_getElem? HX.out) hk'
    have HST:Hid ((m.E.stepI (m.E.bodyI n) (fiR m.E.p f) dst S x).C=m.E.bodyI n g d (S.C++m.E.ahead (fiR m.E.p f) x)):=by
     show _=_
     unfold EnvF.stepI
     rw[if_pos hk',HD.out]
     have h1:m.E.fnOf x.name=(g:Int):=by unfold EnvF.fnOf;rw[← hg2];exact idxS_fn (wfP_of H.chk).fn hg1
     rw[h1]
    have HMX:Hid (M=m.E.mI (m.E.bodyI n) (fiR m.E.p f) dst D0 code (k+1)):=by
     show _=_
     rw[HMS.out]
     unfold EnvF.mStep
     rw[if_neg (by omega),if_neg (by omega)]
    have HCALL:=hid (fun (z:World) (hz:Below Wy.heap.size Wy z)=>rcall_any m H n g f d x aa2 ca2 _ _ _ _ z (HATy.out.mak.keep hz) HINV.out HF.out HDI.out HRI.out.1 hg1 hg2 hg3 (HIH.out g (List.getElem?_eq_some_iff.1 hg1).1 hg4))
    have y1:=row_of HGy.out 1 (.int .u8 x.op) rfl
    have y2:=row_of HGy.out 2 (.string x.dst) rfl
    have y3:=row_of HGy.out 3 (.string x.name) rfl
    have y4:=row_of HGy.out 4 (.slice aa2 x.args.length ca2) rfl
    have y5:=row_of HGy.out 5 (.int .i64 x.line) rfl
    have y6:=row_of HGy.out 6 (.int .i64 x.col) rfl
    clear hkk hk' hg1 hg2 hg3 hg4
    go_upto_region 21 with fail
    have E0:=ext_cell y0
    have E1:=ext_cell y1
    have E2:=ext_cell y2
    have E3:=ext_cell y3
    have E4:=ext_cell y4
    have E5:=ext_cell y5
    have E6:=ext_cell y6
    clear y0 y1 y2 y3 y4 y5 y6
    (refine wp_region_calm_tail 8 (by kernel_rfl) (by kernel_rfl) ?_; simp only[List.take_succ_cons, List.take_zero, List.drop_succ_cons, List.drop_zero]; (repeat (go_big_quiet_step ((go_at_call 74;exact calls_calm (HREG.out _))))); refine wpQuiet_nil ?_; intro wc hwc)
    clear E0 E1 E2 E3 E4 E5 E6
    go_wp2_with (go_at_call 77;refine (HCALL.out _ hwc).mono ?_;rintro e z9 ⟨rfl,kv9,long9,C9,hin9,hat9,hgr9⟩;have HAT9:=hid ((HATy.out.keep hwc).made hat9 hgr9);have HIN9:=hid hin9;clear hat9 hgr9 hin9)
    go_roundw
    case rel=>
     refine⟨k+1,kv9,long9,C9,LB2,M,by omega,by go_num,?_,HAT9.out,HLL.out.1,(fun _=>⟨HMX.out,HLL.out.2⟩),by have:=HMK.out;omega⟩
     rw[HSUCC.out,HST.out]
     exact HIN9.out
    case measure=>simp[intOf];omega
  | 5=>
   as_aux_lemma=>
    intro hkk _
        -- 5
    have hk':x.kind=5:=hkk
    have t0:(x.kind==0)=false:=by rw[hk'];rfl
    have t1:(x.kind==1)=false:=by rw[hk'];rfl
    have t2:(x.kind==2)=false:=by rw[hk'];rfl
    have t3:(x.kind==3)=false:=by rw[hk'];rfl
    have t4:(x.kind==4)=false:=by rw[hk'];rfl
    have t5:(x.kind==5)=true:=by rw[hk'];rfl
    have hal:x.args.length=0:=count_plainR HWI.out.form hkk (by decide) (d:=true) (nm:=true) (n:=0) rfl
    have hmem:x.name∈m.E.p.chans:=HWI.out.chan (.inl hk')
    obtain⟨q,hq⟩:∃ q:Int,idxS x.name m.E.p.chans 0=q:=⟨_,rfl⟩
    have hqi:InI64 q:=by
     obtain⟨g,h1,h2⟩:=idxS_pos 0 hmem
     have h3:=(List.getElem?_eq_some_iff.1 h2).1
     have h4:(m.E.p.chans).length≤100000:=by have:=(wfP_of H.chk).chl;omega
     rw[← hq,h1]
     unfold InI64;omega
    have y2:=row_of HGy.out 2 (.string x.dst) rfl
    have y3:=row_of HGy.out 3 (.string x.name) rfl
    have y1:=row_of HGy.out 1 (.int .u8 x.op) rfl
    have y4:=row_of HGy.out 4 (.slice aa2 x.args.length ca2) rfl
    have g0:=row_of HATy.out.mak.hm 0 (.int .i64 m.E.p.width) rfl
    have g1:=row_of HATy.out.mak.hm 1 (.slice m.ac m.E.p.chans.length m.kc) rfl
    have g2:=row_of HATy.out.mak.hm 2 (.slice m.aa m.E.p.arrays.length m.ka) rfl
    have g3:=row_of HATy.out.mak.hm 3 (.slice m.af m.E.p.funcs.length m.kf) rfl
    have g4:=row_of HATy.out.mak.hm 4 (.slice m.am m.E.p.main.length m.km) rfl
    have g10:=row_of HATy.out.mak.hm 10 (.slice m.sa m.E.S.length m.sk) rfl
    have g12:=row_of HATy.out.mak.hm 12 (.slice ka S.C.length kcap) rfl
    have HONE:m.E.one (fiR m.E.p f) x=⟨4,0,d,q,zeroRef,zeroRef⟩:=by
     unfold EnvF.one
     simp[hk',HD.out,hq]
    have HST:Hid ((m.E.stepI (m.E.bodyI n) (fiR m.E.p f) dst S x).C=S.C++[⟨4,0,d,q,zeroRef,zeroRef⟩]):=by
     show _=_
     unfold EnvF.stepI
     rw[if_neg (by omega),if_neg (by omega),if_neg (by omega),if_neg (by omega),HONE]
    have HMX:Hid (M=m.E.mI (m.E.bodyI n) (fiR m.E.p f) dst D0 code (k+1)):=by
     show _=_
     rw[HMS.out]
     unfold EnvF.mStep
     rw[if_neg (by omega),if_neg (by omega)]
    have HCK:Hid (okC ⟨4,0,d,q,zeroRef,zeroRef⟩):=⟨u8nR _ rfl,u8_0,HDI.out,hqi,i64_0,u64_0,i64_0,u64_0⟩
    have hput:=fun (z:World) (hz:Below Wy.heap.size Wy z)=>HPUT.out ⟨4,0,d,q,zeroRef,zeroRef⟩ z hz HCK.out
    simp only[codeA,zeroRef] at hput
    have HPT:=hid hput
    have HNI:=hid (HINV.out.put ⟨4,0,d,q,zeroRef,zeroRef⟩)
    clear hput
    have HIDX:=hid (fun (z:World)=>rindex_any _ m.E.p.chans x.name (ext Wy z) ((HATy.out.mak.keep (ext_below Wy z)).prog H).1 hmem)
    rw[hq] at HIDX
    clear hkk hk' hal hmem hq hqi
    go_upto_region 23 with fail
    have E0:=ext_cell y2
    have E1:=ext_cell y3
    have E2:=ext_cell y4
    have E3:=ext_cell g0
    have E4:=ext_cell g1
    have E5:=ext_cell g2
    have E6:=ext_cell g3
    have E7:=ext_cell g4
    have E8:=ext_cell g10
    clear y0 y1 y2 y3 y4 g0 g1 g2 g3 g4 g10 g12
    (refine wp_region_calm_tail 15 (by kernel_rfl) (by kernel_rfl) ?_; simp only[List.take_succ_cons, List.take_zero, List.drop_succ_cons, List.drop_zero]; (repeat (go_big_quiet_step ((first|(go_at_call 74;exact calls_calm (HREG.out _))|(go_at_call 76;exact calls_calm_same (HIDX.out _)))))); refine wpQuiet_nil ?_; intro wc hwc)
    clear E0 E1 E2 E3 E4 E5 E6 E7 E8
    go_wp2_with (go_at_call 40;refine (HPT.out _ hwc).mono ?_;rintro e z9 ⟨rfl,kv9,hat9,hgr9⟩;have HAT9:=hid ((HATy.out.keep hwc).made hat9 hgr9);clear hat9 hgr9)
    go_roundw
    case rel=>
     refine⟨k+1,kv9,_,_,LB2,M,by omega,by go_num,?_,HAT9.out,HLL.out.1,(fun _=>⟨HMX.out,HLL.out.2⟩),by have:=HMK.out;omega⟩
     rw[HSUCC.out,HST.out]
     exact HNI.out
    case measure=>simp[intOf];omega
  | 6=>
   as_aux_lemma=>
    intro hkk _
        -- 6
    have hk':x.kind=6:=hkk
    have t0:(x.kind==0)=false:=by rw[hk'];rfl
    have t1:(x.kind==1)=false:=by rw[hk'];rfl
    have t2:(x.kind==2)=false:=by rw[hk'];rfl
    have t3:(x.kind==3)=false:=by rw[hk'];rfl
    have t4:(x.kind==4)=false:=by rw[hk'];rfl
    have t5:(x.kind==5)=false:=by rw[hk'];rfl
    have t6:(x.kind==6)=true:=by rw[hk'];rfl
    have hal:x.args.length=1:=count_plainR HWI.out.form hkk (by decide) (d:=false) (nm:=true) (n:=1) rfl
    obtain⟨b0,hb0⟩:∃ a,x.args[0]?=some a:=⟨_,lgFlV (by omega)⟩
    obtain⟨ba0,oa0,ea0,_,m00,m01,hu0,_⟩:=HAR.out 0 b0 hb0
    have HMA0:=hid m00
    have HMB0:=hid m01
    have p00:=cell_keep HATy.out.mak.below m00
    have p01:=cell_keep HATy.out.mak.below m01
    simp only[Nat.zero_mul,Nat.one_mul,Nat.add_zero] at p00 p01
    have harg0:m.E.arg (fiR m.E.p f) x.args 0=m.E.ref (fiR m.E.p f) b0:=by unfold EnvF.arg argF;rw[hb0];rfl
    have HROK0:=hid (refV_okR m H (fiR m.E.p f) b0 hu0)
    have href0:=fun (z:World) (hz:Below Wy.heap.size Wy z)=>HREF.out b0 z hz hu0
    obtain⟨r0,hr0⟩:∃ r,m.E.ref (fiR m.E.p f) b0=r:=⟨_,rfl⟩
    have hr0k:=hr0
    rw[hr0] at harg0 HROK0 href0
    have HREF0:=hid href0
    clear m00 m01 hr0 href0 hb0
    have hmem:x.name∈m.E.p.chans:=HWI.out.chan (.inr hk')
    obtain⟨q,hq⟩:∃ q:Int,idxS x.name m.E.p.chans 0=q:=⟨_,rfl⟩
    have hqi:InI64 q:=by
     obtain⟨g,h1,h2⟩:=idxS_pos 0 hmem
     have h3:=(List.getElem?_eq_some_iff.1 h2).1
     have h4:(m.E.p.chans).length≤100000:=by have:=(wfP_of H.chk).chl;omega
     rw[← hq,h1]
     unfold InI64;omega
    have y2:=row_of HGy.out 2 (.string x.dst) rfl
    have y3:=row_of HGy.out 3 (.string x.name) rfl
    have y1:=row_of HGy.out 1 (.int .u8 x.op) rfl
    have y4:=row_of HGy.out 4 (.slice aa2 x.args.length ca2) rfl
    have g0:=row_of HATy.out.mak.hm 0 (.int .i64 m.E.p.width) rfl
    have g1:=row_of HATy.out.mak.hm 1 (.slice m.ac m.E.p.chans.length m.kc) rfl
    have g2:=row_of HATy.out.mak.hm 2 (.slice m.aa m.E.p.arrays.length m.ka) rfl
    have g3:=row_of HATy.out.mak.hm 3 (.slice m.af m.E.p.funcs.length m.kf) rfl
    have g4:=row_of HATy.out.mak.hm 4 (.slice m.am m.E.p.main.length m.km) rfl
    have g10:=row_of HATy.out.mak.hm 10 (.slice m.sa m.E.S.length m.sk) rfl
    have g12:=row_of HATy.out.mak.hm 12 (.slice ka S.C.length kcap) rfl
    have HONE:m.E.one (fiR m.E.p f) x=⟨5,0,0,q,r0,zeroRef⟩:=by
     unfold EnvF.one
     simp[hk',harg0,hq]
    have HST:Hid ((m.E.stepI (m.E.bodyI n) (fiR m.E.p f) dst S x).C=S.C++[⟨5,0,0,q,r0,zeroRef⟩]):=by
     show _=_
     unfold EnvF.stepI
     rw[if_neg (by omega),if_neg (by omega),if_neg (by omega),if_neg (by omega),HONE]
    have HMX:Hid (M=m.E.mI (m.E.bodyI n) (fiR m.E.p f) dst D0 code (k+1)):=by
     show _=_
     rw[HMS.out]
     unfold EnvF.mStep
     rw[if_neg (by omega),if_neg (by omega)]
    have HCK:Hid (okC ⟨5,0,0,q,r0,zeroRef⟩):=⟨u8nR _ rfl,u8_0,i64_0,hqi,HROK0.out.1,HROK0.out.2,i64_0,u64_0⟩
    have hput:=fun (z:World) (hz:Below Wy.heap.size Wy z)=>HPUT.out ⟨5,0,0,q,r0,zeroRef⟩ z hz HCK.out
    simp only[codeA,zeroRef] at hput
    have HPT:=hid hput
    have HNI:=hid (HINV.out.put ⟨5,0,0,q,r0,zeroRef⟩)
    clear hput
    rw[ea0] at y4
    have hl0:(0:Int)<(x.args.length:Int):=by omega
    have HIDX:=hid (fun (z:World)=>rindex_any _ m.E.p.chans x.name (ext Wy z) ((HATy.out.mak.keep (ext_below Wy z)).prog H).1 hmem)
    rw[hq] at HIDX
    clear hkk hk' hal ea0 harg0 hmem hq hqi
    go_upto_region 25 with fail
    have E0:=ext_cell y2
    have E1:=ext_cell y3
    have E2:=ext_cell y4
    have E3:=ext_cell g0
    have E4:=ext_cell g1
    have E5:=ext_cell g2
    have E6:=ext_cell g3
    have E7:=ext_cell g4
    have E8:=ext_cell g10
    have E9:=ext_cell p00
    have E10:=ext_cell p01
    clear y0 y1 y2 y3 y4 g0 g1 g2 g3 g4 g10 p00 p01 g12
    (refine wp_region_calm_tail 17 (by kernel_rfl) (by kernel_rfl) ?_; simp only[List.take_succ_cons, List.take_zero, List.drop_succ_cons, List.drop_zero]; (repeat (go_big_quiet_step ((first|(go_at_call 76;exact calls_calm_same (HIDX.out _))|(go_at_call 75;exact calls_calm (HREF0.out _ (ext_below _ _))))))); refine wpQuiet_nil ?_; intro wc hwc)
    clear E0 E1 E2 E3 E4 E5 E6 E7 E8 E9 E10
    go_wp2_with (go_at_call 40;refine (HPT.out _ hwc).mono ?_;rintro e z9 ⟨rfl,kv9,hat9,hgr9⟩;have HAT9:=hid ((HATy.out.keep hwc).made hat9 hgr9);clear hat9 hgr9)
    go_roundw
    case rel=>
     refine⟨k+1,kv9,_,_,LB2,M,by omega,by go_num,?_,HAT9.out,HLL.out.1,(fun _=>⟨HMX.out,HLL.out.2⟩),by have:=HMK.out;omega⟩
     rw[HSUCC.out,HST.out]
     exact HNI.out
    case measure=>simp[intOf];omega
  | 7=>
   as_aux_lemma=>
    intro hkk _
        -- 7
    have hk':x.kind=7:=hkk
    have t0:(x.kind==0)=false:=by rw[hk'];rfl
    have t1:(x.kind==1)=false:=by rw[hk'];rfl
    have t2:(x.kind==2)=false:=by rw[hk'];rfl
    have t3:(x.kind==3)=false:=by rw[hk'];rfl
    have t4:(x.kind==4)=false:=by rw[hk'];rfl
    have t5:(x.kind==5)=false:=by rw[hk'];rfl
    have t6:(x.kind==6)=false:=by rw[hk'];rfl
    have t7:(x.kind==7)=true:=by rw[hk'];rfl
    have hal:x.args.length=1:=count_plainR HWI.out.form hkk (by decide) (d:=true) (nm:=true) (n:=1) rfl
    obtain⟨b0,hb0⟩:∃ a,x.args[0]?=some a:=⟨_,lgFlV (by omega)⟩
    obtain⟨ba0,oa0,ea0,_,m00,m01,hu0,_⟩:=HAR.out 0 b0 hb0
    have HMA0:=hid m00
    have HMB0:=hid m01
    have p00:=cell_keep HATy.out.mak.below m00
    have p01:=cell_keep HATy.out.mak.below m01
    simp only[Nat.zero_mul,Nat.one_mul,Nat.add_zero] at p00 p01
    have harg0:m.E.arg (fiR m.E.p f) x.args 0=m.E.ref (fiR m.E.p f) b0:=by unfold EnvF.arg argF;rw[hb0];rfl
    have HROK0:=hid (refV_okR m H (fiR m.E.p f) b0 hu0)
    have href0:=fun (z:World) (hz:Below Wy.heap.size Wy z)=>HREF.out b0 z hz hu0
    obtain⟨r0,hr0⟩:∃ r,m.E.ref (fiR m.E.p f) b0=r:=⟨_,rfl⟩
    have hr0k:=hr0
    rw[hr0] at harg0 HROK0 href0
    have HREF0:=hid href0
    clear m00 m01 hr0 href0 hb0
    have hmem:x.name∈m.E.S:=by rw[H.env];exact sites_has hk' _ _ (body_codes (isBody_fiR HF.out) (by rw[HCF.out];exact List.mem_of_getElem? HX.out))
    obtain⟨q,hq⟩:∃ q:Int,idxS x.name m.E.S 0=q:=⟨_,rfl⟩
    have hqi:InI64 q:=by
     obtain⟨g,h1,h2⟩:=idxS_pos 0 hmem
     have h3:=(List.getElem?_eq_some_iff.1 h2).1
     have h4:(m.E.S).length≤100000:=by rw[H.env];have:=(wfP_of H.chk).sites;show (sitesAllF m.E.p).length≤_;omega
     rw[← hq,h1]
     unfold InI64;omega
    have y2:=row_of HGy.out 2 (.string x.dst) rfl
    have y3:=row_of HGy.out 3 (.string x.name) rfl
    have y1:=row_of HGy.out 1 (.int .u8 x.op) rfl
    have y4:=row_of HGy.out 4 (.slice aa2 x.args.length ca2) rfl
    have g0:=row_of HATy.out.mak.hm 0 (.int .i64 m.E.p.width) rfl
    have g1:=row_of HATy.out.mak.hm 1 (.slice m.ac m.E.p.chans.length m.kc) rfl
    have g2:=row_of HATy.out.mak.hm 2 (.slice m.aa m.E.p.arrays.length m.ka) rfl
    have g3:=row_of HATy.out.mak.hm 3 (.slice m.af m.E.p.funcs.length m.kf) rfl
    have g4:=row_of HATy.out.mak.hm 4 (.slice m.am m.E.p.main.length m.km) rfl
    have g10:=row_of HATy.out.mak.hm 10 (.slice m.sa m.E.S.length m.sk) rfl
    have g12:=row_of HATy.out.mak.hm 12 (.slice ka S.C.length kcap) rfl
    have HONE:m.E.one (fiR m.E.p f) x=⟨6,0,d,q,r0,zeroRef⟩:=by
     unfold EnvF.one
     simp[hk',HD.out,harg0,hq]
    have HST:Hid ((m.E.stepI (m.E.bodyI n) (fiR m.E.p f) dst S x).C=S.C++[⟨6,0,d,q,r0,zeroRef⟩]):=by
     show _=_
     unfold EnvF.stepI
     rw[if_neg (by omega),if_neg (by omega),if_neg (by omega),if_neg (by omega),HONE]
    have HMX:Hid (M=m.E.mI (m.E.bodyI n) (fiR m.E.p f) dst D0 code (k+1)):=by
     show _=_
     rw[HMS.out]
     unfold EnvF.mStep
     rw[if_neg (by omega),if_neg (by omega)]
    have HCK:Hid (okC ⟨6,0,d,q,r0,zeroRef⟩):=⟨u8nR _ rfl,u8_0,HDI.out,hqi,HROK0.out.1,HROK0.out.2,i64_0,u64_0⟩
    have hput:=fun (z:World) (hz:Below Wy.heap.size Wy z)=>HPUT.out ⟨6,0,d,q,r0,zeroRef⟩ z hz HCK.out
    simp only[codeA,zeroRef] at hput
    have HPT:=hid hput
    have HNI:=hid (HINV.out.put ⟨6,0,d,q,r0,zeroRef⟩)
    clear hput
    rw[ea0] at y4
    have hl0:(0:Int)<(x.args.length:Int):=by omega
    have HIDX:=hid (fun (z:World)=>rindex_any _ m.E.S x.name (ext Wy z) ((HATy.out.mak.keep (ext_below Wy z)).sit).forget hmem)
    rw[hq] at HIDX
    clear hkk hk' hal ea0 harg0 hmem hq hqi
    go_upto_region 27 with fail
    have E0:=ext_cell y2
    have E1:=ext_cell y3
    have E2:=ext_cell y4
    have E3:=ext_cell g0
    have E4:=ext_cell g1
    have E5:=ext_cell g2
    have E6:=ext_cell g3
    have E7:=ext_cell g4
    have E8:=ext_cell g10
    have E9:=ext_cell p00
    have E10:=ext_cell p01
    clear y0 y1 y2 y3 y4 g0 g1 g2 g3 g4 g10 p00 p01 g12
    (refine wp_region_calm_tail 22 (by kernel_rfl) (by kernel_rfl) ?_; simp only[List.take_succ_cons, List.take_zero, List.drop_succ_cons, List.drop_zero]; (repeat (go_big_quiet_step ((first|(go_at_call 74;exact calls_calm (HREG.out _))|(go_at_call 76;exact calls_calm_same (HIDX.out _))|(go_at_call 75;exact calls_calm (HREF0.out _ (ext_below _ _))))))); refine wpQuiet_nil ?_; intro wc hwc)
    clear E0 E1 E2 E3 E4 E5 E6 E7 E8 E9 E10
    go_wp2_with (go_at_call 40;refine (HPT.out _ hwc).mono ?_;rintro e z9 ⟨rfl,kv9,hat9,hgr9⟩;have HAT9:=hid ((HATy.out.keep hwc).made hat9 hgr9);clear hat9 hgr9)
    go_roundw
    case rel=>
     refine⟨k+1,kv9,_,_,LB2,M,by omega,by go_num,?_,HAT9.out,HLL.out.1,(fun _=>⟨HMX.out,HLL.out.2⟩),by have:=HMK.out;omega⟩
     rw[HSUCC.out,HST.out]
     exact HNI.out
    case measure=>simp[intOf];omega
  | 8=>
   as_aux_lemma=>
    intro hkk _
        -- 8
    have hk':x.kind=8:=hkk
    have t0:(x.kind==0)=false:=by rw[hk'];rfl
    have t1:(x.kind==1)=false:=by rw[hk'];rfl
    have t2:(x.kind==2)=false:=by rw[hk'];rfl
    have t3:(x.kind==3)=false:=by rw[hk'];rfl
    have t4:(x.kind==4)=false:=by rw[hk'];rfl
    have t5:(x.kind==5)=false:=by rw[hk'];rfl
    have t6:(x.kind==6)=false:=by rw[hk'];rfl
    have t7:(x.kind==7)=false:=by rw[hk'];rfl
    have t8:(x.kind==8)=true:=by rw[hk'];rfl
    have hal:x.args.length=0:=count_plainR HWI.out.form hkk (by decide) (d:=false) (nm:=true) (n:=0) rfl
    have y2:=row_of HGy.out 2 (.string x.dst) rfl
    have y3:=row_of HGy.out 3 (.string x.name) rfl
    have y1:=row_of HGy.out 1 (.int .u8 x.op) rfl
    have y4:=row_of HGy.out 4 (.slice aa2 x.args.length ca2) rfl
    have g0:=row_of HATy.out.mak.hm 0 (.int .i64 m.E.p.width) rfl
    have g1:=row_of HATy.out.mak.hm 1 (.slice m.ac m.E.p.chans.length m.kc) rfl
    have g2:=row_of HATy.out.mak.hm 2 (.slice m.aa m.E.p.arrays.length m.ka) rfl
    have g3:=row_of HATy.out.mak.hm 3 (.slice m.af m.E.p.funcs.length m.kf) rfl
    have g4:=row_of HATy.out.mak.hm 4 (.slice m.am m.E.p.main.length m.km) rfl
    have g10:=row_of HATy.out.mak.hm 10 (.slice m.sa m.E.S.length m.sk) rfl
    have g12:=row_of HATy.out.mak.hm 12 (.slice ka S.C.length kcap) rfl
    have harg0:m.E.arg (fiR m.E.p f) x.args 0=zeroRef:=by unfold EnvF.arg argF;rw[List.getElem?_eq_none (by omega)]
    have HONE:m.E.one (fiR m.E.p f) x=⟨7,0,0,0,zeroRef,zeroRef⟩:=by
     unfold EnvF.one
     simp[hk',harg0]
    have HST:Hid ((m.E.stepI (m.E.bodyI n) (fiR m.E.p f) dst S x).C=S.C++[⟨7,0,0,0,zeroRef,zeroRef⟩]):=by
     show _=_
     unfold EnvF.stepI
     rw[if_neg (by omega),if_neg (by omega),if_pos (by omega),HONE]
    have HCK:Hid (okC ⟨7,0,0,0,zeroRef,zeroRef⟩):=⟨u8nR _ rfl,u8_0,i64_0,i64_0,i64_0,u64_0,i64_0,u64_0⟩
    have hput:=fun (z:World) (hz:Below Wy.heap.size Wy z)=>HPUT.out ⟨7,0,0,0,zeroRef,zeroRef⟩ z hz HCK.out
    simp only[codeA,zeroRef] at hput
    have HPT:=hid hput
    have HNI:=hid (HINV.out.put ⟨7,0,0,0,zeroRef,zeroRef⟩)
    clear hput
    clear y4
    go_upto_region 29 with fail
    have hmw:m.M<Wy.heap.size:=HATy.out.mak.mlt
    have hxw:ib<Wy.heap.size:=(gsFlV HGy.out)
    have l12:=keepS_cell (S:=[m.M,ib]) (by simp) g12
    have l3:=keepS_cell (S:=[m.M,ib]) (by simp) y3
    clear g12 y3 y0 y1 y2 g0 g1 g2 g3 g4 g10
    refine wp_region_mixS [m.M,ib] (.one [0,1,2,3,4,5,6,7,8,9] 10 (.one [] 11 (tailOf [12]))) (fun j=>decide (12≤j)) (by kernel_rfl) (by kernel_rfl) rfl (by kernel_rfl) (fun _ d _ _ _ h=>by cases d <;> exact h) ?_
    have HBd:Hid (Below Wy.heap.size Wy Wy.drew):=(Below.refl _ _).drew
    generalize Wy.drew=wn at *
    have HKn:=hid (two_keepR (HBd.out.block m.M hmw) (HBd.out.block ib hxw))
    refine mix_one (by simp only[opsOf,List.filterMap_cons,List.filterMap_nil,List.getElem?_toArray,List.getElem?_cons_succ,List.getElem?_cons_zero];rfl) ⟨_,keepS_of HKn.out⟩ ?_
    change wpQuiet _ _ _ _ [_,_,_,_,_,_,_,_,_,_] _
    (repeat (go_big_quiet_step (fail)))
    clear l12 l3
    refine wpQuiet_nil ?_
    refine mix_step rfl ?_
    go_wp2_with fail
    have HN:=hid (heap_alloc_new wn (.cells #[.int .i64 (S.C.length:Nat),.string x.name] 133))
    have hal2:Below wn.heap.size wn (wn.alloc (.cells #[.int .i64 (S.C.length:Nat),.string x.name] 133)):=(Below.refl _ _).alloc (Nat.le_refl _) _
    have HBn:=hid (bcomp HBd.out hal2)
    have hs1:=HBd.out.size
    have HKa:=hid (two_keepR (hal2.block m.M (by omega)) (hal2.block ib (by omega)))
    clear hal2
    obtain⟨gb,hgb⟩:∃ gb,wn.heap.size=gb:=⟨_,rfl⟩
    rw[hgb] at HN
    try rw[hgb]
    generalize wn.alloc (.cells #[.int .i64 (S.C.length:Nat),.string x.name] 133)=wa at *
    have HKw:=hid (fun b hb=>(HKa.out b hb).trans (HKn.out b hb):∀ b∈[m.M,ib],wa.heap[b]?=Wy.heap[b]?)
    have HAa:=hid (HATy.out.keep HBn.out)
    clear hgb
    (first|refine⟨fun _=>⟨_,keepS_of HKw.out⟩,?_⟩|refine⟨⟨_,keepS_of HKw.out⟩,?_⟩)
    refine mix_now ?_
    refine mix_step rfl ?_
    try (simp only[Act.put,List.setIfInBounds_toArray,List.set_cons_succ,List.set_cons_zero,List.getElem_toArray,List.getElem_cons_succ,List.getElem_cons_zero])
    have hpz:wa.ownsRow (lb+1) 133 2 (.slice pa M.length pc) M.length (M.flatMap pCells):=HAa.out.pat
    have hmk9:=HMK.out
    refine wpList_append_own_at _ rfl (.tmp 229) (.tmp 239) 128 rfl (lb+1) 133 iP (.agg #[.int .i64 0,.string ⟨#[]⟩]) 2 24 Tryd.underlying128 hiP hzP0 hzP1 hzP2 rfl (by decide) _ _ _ rfl hpz ⟨gb,0,none⟩ 1 1 (pCells (S.C.length,x.name)) rfl rfl ?hnw29 ?hone29 ?h6329 ?hby29 HAa.out.size ?_
    case hnw29=>
     intro j u hu
     have e:(⟨gb,0,none⟩:Addr).add j=⟨gb,j,none⟩:=by simp[Addr.add];omega
     rw[e]
     exact row_of HN.out j u (by rw[← List.getElem?_toArray] at hu;exact hu)
    case hone29=>intro u hu;simp only[pCells,List.mem_cons,List.not_mem_nil,or_false] at hu;rcases hu with rfl|rfl <;> rfl
    case h6329=>unfold maxLen;omega
    case hby29=>omega
    intro v' w4 hown' hgrow _ hblk
    obtain⟨xa,xc,rfl,_⟩:=own_read hown'
    have HATp:=hid (HAa.out.patched HBO.out (q:=(S.C.length,x.name)) hgrow hown')
    have HKf:=hid (two_keepR ((HAa.out.patched HBO.out (q:=(S.C.length,x.name)) hgrow hown').mak.hm.trans HAa.out.mak.hm.symm |>.trans (HKw.out m.M (by simp))) ((hgrow.block ib (by have:=HBn.out.size;omega) (fun e=>own_ne_cells hpz ((HKw.out ib (by simp)).trans HGy.out) (by decide) e.symm)).trans (HKw.out ib (by simp))))
    clear hown' hgrow hblk hpz
    try (simp only[Act.put,List.setIfInBounds_toArray,List.set_cons_succ,List.set_cons_zero,List.getElem_toArray,List.getElem_cons_succ,List.getElem_cons_zero])
    (first|refine⟨fun _=>⟨_,keepS_of HKf.out⟩,?_⟩|refine⟨⟨_,keepS_of HKf.out⟩,?_⟩)
    refine mix_tail [12] [_] _ _ rfl rfl ?_
    simp only[Act.put,List.setIfInBounds_toArray,List.set_cons_succ,List.set_cons_zero,List.getElem_toArray,List.getElem_cons_succ,List.getElem_cons_zero]
    have HM8:Hid (M++[(S.C.length,x.name)]=m.E.mI (m.E.bodyI n) (fiR m.E.p f) dst D0 code (k+1)):=by
     show _=_
     rw[HMS.out]
     unfold EnvF.mStep
     rw[if_pos (by omega)]
    have hput9:=rput_any m ⟨7,0,0,0,zeroRef,zeroRef⟩ _ _ _ w4 HATp.out.mak HCK.out hC4
    simp only[codeA,zeroRef] at hput9
    have HPT9:=hid hput9
    clear hput9
    clear hkk hk' hal
    go_wp2_with (go_at_call 40;refine HPT9.out.mono ?_;rintro e z9 ⟨rfl,kv9,hat9,hgr9⟩;have HAT9:=hid (HATp.out.made hat9 hgr9);clear hat9 hgr9)
    go_roundw
    case rel=>
     refine⟨k+1,kv9,_,_,LB2,(M++[(S.C.length,x.name)]),by omega,by go_num,?_,HAT9.out,HLL.out.1,(fun _=>⟨HM8.out,HLL.out.2⟩),by have:=HMK.out;simp;omega⟩
     rw[HSUCC.out,HST.out]
     exact HNI.out
    case measure=>simp[intOf];omega
  | 9=>
   as_aux_lemma=>
    intro hkk _
        -- 9
    have hk':x.kind=9:=hkk
    have t0:(x.kind==0)=false:=by rw[hk'];rfl
    have t1:(x.kind==1)=false:=by rw[hk'];rfl
    have t2:(x.kind==2)=false:=by rw[hk'];rfl
    have t3:(x.kind==3)=false:=by rw[hk'];rfl
    have t4:(x.kind==4)=false:=by rw[hk'];rfl
    have t5:(x.kind==5)=false:=by rw[hk'];rfl
    have t6:(x.kind==6)=false:=by rw[hk'];rfl
    have t7:(x.kind==7)=false:=by rw[hk'];rfl
    have t8:(x.kind==8)=false:=by rw[hk'];rfl
    have t9:(x.kind==9)=true:=by rw[hk'];rfl
    have hal:x.args.length=1:=count_plainR HWI.out.form hkk (by decide) (d:=false) (nm:=true) (n:=1) rfl
    obtain⟨b0,hb0⟩:∃ a,x.args[0]?=some a:=⟨_,lgFlV (by omega)⟩
    obtain⟨ba0,oa0,ea0,_,m00,m01,hu0,_⟩:=HAR.out 0 b0 hb0
    have HMA0:=hid m00
    have HMB0:=hid m01
    have p00:=cell_keep HATy.out.mak.below m00
    have p01:=cell_keep HATy.out.mak.below m01
    simp only[Nat.zero_mul,Nat.one_mul,Nat.add_zero] at p00 p01
    have harg0:m.E.arg (fiR m.E.p f) x.args 0=m.E.ref (fiR m.E.p f) b0:=by unfold EnvF.arg argF;rw[hb0];rfl
    have HROK0:=hid (refV_okR m H (fiR m.E.p f) b0 hu0)
    have href0:=fun (z:World) (hz:Below Wy.heap.size Wy z)=>HREF.out b0 z hz hu0
    obtain⟨r0,hr0⟩:∃ r,m.E.ref (fiR m.E.p f) b0=r:=⟨_,rfl⟩
    have hr0k:=hr0
    rw[hr0] at harg0 HROK0 href0
    have HREF0:=hid href0
    clear m00 m01 hr0 href0 hb0
    have hrefw:=fun (z:World) {kvz:Value} {lz:Bool} {Cz:List CodeD} (hz:m.At kvz lz Cz z)=>rref_any m H kvz lz Cz f b0 z hz HF.out hu0
    have hrb:m.E.ref (fiR m.E.p f) b0=r0:=hr0k
    rw[hrb] at hrefw
    clear hrb hr0k
    have y2:=row_of HGy.out 2 (.string x.dst) rfl
    have y3:=row_of HGy.out 3 (.string x.name) rfl
    have y1:=row_of HGy.out 1 (.int .u8 x.op) rfl
    have y4:=row_of HGy.out 4 (.slice aa2 x.args.length ca2) rfl
    have g0:=row_of HATy.out.mak.hm 0 (.int .i64 m.E.p.width) rfl
    have g1:=row_of HATy.out.mak.hm 1 (.slice m.ac m.E.p.chans.length m.kc) rfl
    have g2:=row_of HATy.out.mak.hm 2 (.slice m.aa m.E.p.arrays.length m.ka) rfl
    have g3:=row_of HATy.out.mak.hm 3 (.slice m.af m.E.p.funcs.length m.kf) rfl
    have g4:=row_of HATy.out.mak.hm 4 (.slice m.am m.E.p.main.length m.km) rfl
    have g10:=row_of HATy.out.mak.hm 10 (.slice m.sa m.E.S.length m.sk) rfl
    have g12:=row_of HATy.out.mak.hm 12 (.slice ka S.C.length kcap) rfl
    have HONE:m.E.one (fiR m.E.p f) x=⟨8,0,0,0,r0,zeroRef⟩:=by
     unfold EnvF.one
     simp[hk',harg0]
    have HST:Hid ((m.E.stepI (m.E.bodyI n) (fiR m.E.p f) dst S x).C=S.C++[⟨8,0,0,0,r0,zeroRef⟩]):=by
     show _=_
     unfold EnvF.stepI
     rw[if_neg (by omega),if_neg (by omega),if_pos (by omega),HONE]
    have HCK:Hid (okC ⟨8,0,0,0,r0,zeroRef⟩):=⟨u8nR _ rfl,u8_0,i64_0,i64_0,HROK0.out.1,HROK0.out.2,i64_0,u64_0⟩
    have hput:=fun (z:World) (hz:Below Wy.heap.size Wy z)=>HPUT.out ⟨8,0,0,0,r0,zeroRef⟩ z hz HCK.out
    simp only[codeA,zeroRef] at hput
    have HPT:=hid hput
    have HNI:=hid (HINV.out.put ⟨8,0,0,0,r0,zeroRef⟩)
    clear hput
    have HEA:=hid ea0
    have HL0:Hid ((0:Int)<(x.args.length:Int)):=by show (0:Int)<_;omega
    clear y4 p00 p01
    go_upto_region 32 with fail
    have hmw:m.M<Wy.heap.size:=HATy.out.mak.mlt
    have hxw:ib<Wy.heap.size:=(gsFlV HGy.out)
    have l12:=keepS_cell (S:=[m.M,ib]) (by simp) g12
    have l3:=keepS_cell (S:=[m.M,ib]) (by simp) y3
    clear g12 y3 y0 y1 y2 g0 g1 g2 g3 g4 g10
    refine wp_region_mixS [m.M,ib] (.one [0,1,2,3,4,5,6,7,8,9] 10 (.one [] 11 (tailOf [12]))) (fun j=>decide (12≤j)) (by kernel_rfl) (by kernel_rfl) rfl (by kernel_rfl) (fun _ d _ _ _ h=>by cases d <;> exact h) ?_
    have HBd:Hid (Below Wy.heap.size Wy Wy.drew):=(Below.refl _ _).drew
    generalize Wy.drew=wn at *
    have HKn:=hid (two_keepR (HBd.out.block m.M hmw) (HBd.out.block ib hxw))
    refine mix_one (by simp only[opsOf,List.filterMap_cons,List.filterMap_nil,List.getElem?_toArray,List.getElem?_cons_succ,List.getElem?_cons_zero];rfl) ⟨_,keepS_of HKn.out⟩ ?_
    change wpQuiet _ _ _ _ [_,_,_,_,_,_,_,_,_,_] _
    (repeat (go_big_quiet_step (fail)))
    clear l12 l3
    refine wpQuiet_nil ?_
    refine mix_step rfl ?_
    go_wp2_with fail
    have HN:=hid (heap_alloc_new wn (.cells #[.int .i64 (S.C.length:Nat),.string x.name] 133))
    have hal2:Below wn.heap.size wn (wn.alloc (.cells #[.int .i64 (S.C.length:Nat),.string x.name] 133)):=(Below.refl _ _).alloc (Nat.le_refl _) _
    have HBn:=hid (bcomp HBd.out hal2)
    have hs1:=HBd.out.size
    have HKa:=hid (two_keepR (hal2.block m.M (by omega)) (hal2.block ib (by omega)))
    clear hal2
    obtain⟨gb,hgb⟩:∃ gb,wn.heap.size=gb:=⟨_,rfl⟩
    rw[hgb] at HN
    try rw[hgb]
    generalize wn.alloc (.cells #[.int .i64 (S.C.length:Nat),.string x.name] 133)=wa at *
    have HKw:=hid (fun b hb=>(HKa.out b hb).trans (HKn.out b hb):∀ b∈[m.M,ib],wa.heap[b]?=Wy.heap[b]?)
    have HAa:=hid (HATy.out.keep HBn.out)
    clear hgb
    (first|refine⟨fun _=>⟨_,keepS_of HKw.out⟩,?_⟩|refine⟨⟨_,keepS_of HKw.out⟩,?_⟩)
    refine mix_now ?_
    refine mix_step rfl ?_
    try (simp only[Act.put,List.setIfInBounds_toArray,List.set_cons_succ,List.set_cons_zero,List.getElem_toArray,List.getElem_cons_succ,List.getElem_cons_zero])
    have hpz:wa.ownsRow (lb+1) 133 2 (.slice pa M.length pc) M.length (M.flatMap pCells):=HAa.out.pat
    have hmk9:=HMK.out
    refine wpList_append_own_at _ rfl (.tmp 246) (.tmp 256) 128 rfl (lb+1) 133 iP (.agg #[.int .i64 0,.string ⟨#[]⟩]) 2 24 Tryd.underlying128 hiP hzP0 hzP1 hzP2 rfl (by decide) _ _ _ rfl hpz ⟨gb,0,none⟩ 1 1 (pCells (S.C.length,x.name)) rfl rfl ?hnw32 ?hone32 ?h6332 ?hby32 HAa.out.size ?_
    case hnw32=>
     intro j u hu
     have e:(⟨gb,0,none⟩:Addr).add j=⟨gb,j,none⟩:=by simp[Addr.add];omega
     rw[e]
     exact row_of HN.out j u (by rw[← List.getElem?_toArray] at hu;exact hu)
    case hone32=>intro u hu;simp only[pCells,List.mem_cons,List.not_mem_nil,or_false] at hu;rcases hu with rfl|rfl <;> rfl
    case h6332=>unfold maxLen;omega
    case hby32=>omega
    intro v' w4 hown' hgrow _ hblk
    obtain⟨xa,xc,rfl,_⟩:=own_read hown'
    have HATp:=hid (HAa.out.patched HBO.out (q:=(S.C.length,x.name)) hgrow hown')
    have HKf:=hid (two_keepR ((HAa.out.patched HBO.out (q:=(S.C.length,x.name)) hgrow hown').mak.hm.trans HAa.out.mak.hm.symm |>.trans (HKw.out m.M (by simp))) ((hgrow.block ib (by have:=HBn.out.size;omega) (fun e=>own_ne_cells hpz ((HKw.out ib (by simp)).trans HGy.out) (by decide) e.symm)).trans (HKw.out ib (by simp))))
    clear hown' hgrow hblk hpz
    try (simp only[Act.put,List.setIfInBounds_toArray,List.set_cons_succ,List.set_cons_zero,List.getElem_toArray,List.getElem_cons_succ,List.getElem_cons_zero])
    (first|refine⟨fun _=>⟨_,keepS_of HKf.out⟩,?_⟩|refine⟨⟨_,keepS_of HKf.out⟩,?_⟩)
    refine mix_tail [12] [_] _ _ rfl rfl ?_
    simp only[Act.put,List.setIfInBounds_toArray,List.set_cons_succ,List.set_cons_zero,List.getElem_toArray,List.getElem_cons_succ,List.getElem_cons_zero]
    have HM8:Hid (M++[(S.C.length,x.name)]=m.E.mI (m.E.bodyI n) (fiR m.E.p f) dst D0 code (k+1)):=by
     show _=_
     rw[HMS.out]
     unfold EnvF.mStep
     rw[if_pos (by omega)]
    have hput9:=rput_any m ⟨8,0,0,0,r0,zeroRef⟩ _ _ _ w4 HATp.out.mak HCK.out hC4
    simp only[codeA,zeroRef] at hput9
    have HPT9:=hid hput9
    clear hput9
    clear hkk hk' hal ea0 harg0
    have y4:=row_of ((HKf.out ib (by simp)).trans HGy.out) 4 (.slice aa2 x.args.length ca2) rfl
    rw[HEA.out] at y4
    have p00:=cell_keep HATp.out.mak.below HMA0.out
    have p01:=cell_keep HATp.out.mak.below HMB0.out
    simp only[Nat.zero_mul,Nat.add_zero] at p00 p01
    have hl0:(0:Int)<(x.args.length:Int):=HL0.out
    have HRF9:=hid (hrefw w4 HATp.out.mak)
    clear hrefw
    have HOPT:=hid (fun (z:World) (hz:Below w4.heap.size w4 z)=>rput_any m ⟨8,0,0,0,r0,zeroRef⟩ _ _ _ z (HATp.out.mak.keep hz) HCK.out hC4)
    simp only[codeA,zeroRef] at HOPT
    go_wp2_with (first|(go_at_call 75;refine HRF9.out.mono ?_;rintro e z8 ⟨rfl,hz8⟩;have B8:=hid hz8;clear hz8)|(go_at_call 40;refine (HOPT.out _ B8.out).mono ?_;rintro e z9 ⟨rfl,kv9,hat9,hgr9⟩;have HAT9:=hid ((HATp.out.keep B8.out).made hat9 hgr9);clear hat9 hgr9))
    go_roundw
    case rel=>
     refine⟨k+1,kv9,_,_,LB2,(M++[(S.C.length,x.name)]),by omega,by go_num,?_,HAT9.out,HLL.out.1,(fun _=>⟨HM8.out,HLL.out.2⟩),by have:=HMK.out;simp;omega⟩
     rw[HSUCC.out,HST.out]
     exact HNI.out
    case measure=>simp[intOf];omega
  | 10=>
   as_aux_lemma=>
    intro hkk _
        -- 10
    have hk':x.kind=10:=hkk
    have t0:(x.kind==0)=false:=by rw[hk'];rfl
    have t1:(x.kind==1)=false:=by rw[hk'];rfl
    have t2:(x.kind==2)=false:=by rw[hk'];rfl
    have t3:(x.kind==3)=false:=by rw[hk'];rfl
    have t4:(x.kind==4)=false:=by rw[hk'];rfl
    have t5:(x.kind==5)=false:=by rw[hk'];rfl
    have t6:(x.kind==6)=false:=by rw[hk'];rfl
    have t7:(x.kind==7)=false:=by rw[hk'];rfl
    have t8:(x.kind==8)=false:=by rw[hk'];rfl
    have t9:(x.kind==9)=false:=by rw[hk'];rfl
    have t11:(x.kind==11)=false:=by rw[hk'];rfl
    have t12:(x.kind==12)=false:=by rw[hk'];rfl
    have HST:Hid ((m.E.stepI (m.E.bodyI n) (fiR m.E.p f) dst S x).C=S.C):=by
     show _=_
     unfold EnvF.stepI
     rw[if_neg (by omega),if_pos hk']
    have HMX:Hid (M=m.E.mI (m.E.bodyI n) (fiR m.E.p f) dst D0 code (k+1)):=by
     show _=_
     rw[HMS.out]
     unfold EnvF.mStep
     rw[if_neg (by omega),if_neg (by omega)]
    clear hkk hk'
    go_wp2_with fail
    go_roundw
    case rel=>
     refine⟨k+1,_,false,S.C,LB2,M,by omega,by go_num,?_,HATy.out,HLL.out.1,(fun _=>⟨HMX.out,HLL.out.2⟩),by have:=HMK.out;omega⟩
     rw[HSUCC.out,HST.out]
     exact HINV.out
    case measure=>simp[intOf];omega
  | 11=>
   as_aux_lemma=>
    intro hkk _
        -- 11
    have hk':x.kind=11:=hkk
    have t0:(x.kind==0)=false:=by rw[hk'];rfl
    have t1:(x.kind==1)=false:=by rw[hk'];rfl
    have t2:(x.kind==2)=false:=by rw[hk'];rfl
    have t3:(x.kind==3)=false:=by rw[hk'];rfl
    have t4:(x.kind==4)=false:=by rw[hk'];rfl
    have t5:(x.kind==5)=false:=by rw[hk'];rfl
    have t6:(x.kind==6)=false:=by rw[hk'];rfl
    have t7:(x.kind==7)=false:=by rw[hk'];rfl
    have t8:(x.kind==8)=false:=by rw[hk'];rfl
    have t9:(x.kind==9)=false:=by rw[hk'];rfl
    have t11:(x.kind==11)=true:=by rw[hk'];rfl
    have hal:x.args.length=0:=count_plainR HWI.out.form hkk (by decide) (d:=false) (nm:=false) (n:=0) rfl
    have y2:=row_of HGy.out 2 (.string x.dst) rfl
    have y3:=row_of HGy.out 3 (.string x.name) rfl
    have y1:=row_of HGy.out 1 (.int .u8 x.op) rfl
    have y4:=row_of HGy.out 4 (.slice aa2 x.args.length ca2) rfl
    have g0:=row_of HATy.out.mak.hm 0 (.int .i64 m.E.p.width) rfl
    have g1:=row_of HATy.out.mak.hm 1 (.slice m.ac m.E.p.chans.length m.kc) rfl
    have g2:=row_of HATy.out.mak.hm 2 (.slice m.aa m.E.p.arrays.length m.ka) rfl
    have g3:=row_of HATy.out.mak.hm 3 (.slice m.af m.E.p.funcs.length m.kf) rfl
    have g4:=row_of HATy.out.mak.hm 4 (.slice m.am m.E.p.main.length m.km) rfl
    have g10:=row_of HATy.out.mak.hm 10 (.slice m.sa m.E.S.length m.sk) rfl
    have g12:=row_of HATy.out.mak.hm 12 (.slice ka S.C.length kcap) rfl
    have HONE:m.E.one (fiR m.E.p f) x=⟨9,0,0,0,zeroRef,zeroRef⟩:=by
     unfold EnvF.one
     simp[hk']
    have HST:Hid ((m.E.stepI (m.E.bodyI n) (fiR m.E.p f) dst S x).C=S.C++[⟨9,0,0,0,zeroRef,zeroRef⟩]):=by
     show _=_
     unfold EnvF.stepI
     rw[if_neg (by omega),if_neg (by omega),if_neg (by omega),if_neg (by omega),HONE]
    have HMX:Hid (M=m.E.mI (m.E.bodyI n) (fiR m.E.p f) dst D0 code (k+1)):=by
     show _=_
     rw[HMS.out]
     unfold EnvF.mStep
     rw[if_neg (by omega),if_neg (by omega)]
    have HCK:Hid (okC ⟨9,0,0,0,zeroRef,zeroRef⟩):=⟨u8nR _ rfl,u8_0,i64_0,i64_0,i64_0,u64_0,i64_0,u64_0⟩
    have hput:=fun (z:World) (hz:Below Wy.heap.size Wy z)=>HPUT.out ⟨9,0,0,0,zeroRef,zeroRef⟩ z hz HCK.out
    simp only[codeA,zeroRef] at hput
    have HPT:=hid hput
    have HNI:=hid (HINV.out.put ⟨9,0,0,0,zeroRef,zeroRef⟩)
    clear hput
    clear hkk hk' hal
    clear y1 y2 y3 y4 g0 g1 g2 g3 g4 g10 g12
    have hwc:=Below.refl Wy.heap.size Wy
    go_wp2_with (go_at_call 40;refine (HPT.out _ hwc).mono ?_;rintro e z9 ⟨rfl,kv9,hat9,hgr9⟩;have HAT9:=hid ((HATy.out.keep hwc).made hat9 hgr9);clear hat9 hgr9)
    go_roundw
    case rel=>
     refine⟨k+1,kv9,_,_,LB2,M,by omega,by go_num,?_,HAT9.out,HLL.out.1,(fun _=>⟨HMX.out,HLL.out.2⟩),by have:=HMK.out;omega⟩
     rw[HSUCC.out,HST.out]
     exact HNI.out
    case measure=>simp[intOf];omega
  | 12=>
   as_aux_lemma=>
    intro hkk _
        -- 12
    have hk':x.kind=12:=hkk
    have t0:(x.kind==0)=false:=by rw[hk'];rfl
    have t1:(x.kind==1)=false:=by rw[hk'];rfl
    have t2:(x.kind==2)=false:=by rw[hk'];rfl
    have t3:(x.kind==3)=false:=by rw[hk'];rfl
    have t4:(x.kind==4)=false:=by rw[hk'];rfl
    have t5:(x.kind==5)=false:=by rw[hk'];rfl
    have t6:(x.kind==6)=false:=by rw[hk'];rfl
    have t7:(x.kind==7)=false:=by rw[hk'];rfl
    have t8:(x.kind==8)=false:=by rw[hk'];rfl
    have t9:(x.kind==9)=false:=by rw[hk'];rfl
    have t11:(x.kind==11)=false:=by rw[hk'];rfl
    have t12:(x.kind==12)=true:=by rw[hk'];rfl
    have hal:x.args.length=1:=count_plainR HWI.out.form hkk (by decide) (d:=false) (nm:=false) (n:=1) rfl
    obtain⟨b0,hb0⟩:∃ a,x.args[0]?=some a:=⟨_,lgFlV (by omega)⟩
    obtain⟨ba0,oa0,ea0,_,m00,m01,hu0,_⟩:=HAR.out 0 b0 hb0
    have HMA0:=hid m00
    have HMB0:=hid m01
    have p00:=cell_keep HATy.out.mak.below m00
    have p01:=cell_keep HATy.out.mak.below m01
    simp only[Nat.zero_mul,Nat.one_mul,Nat.add_zero] at p00 p01
    have harg0:m.E.arg (fiR m.E.p f) x.args 0=m.E.ref (fiR m.E.p f) b0:=by unfold EnvF.arg argF;rw[hb0];rfl
    have HROK0:=hid (refV_okR m H (fiR m.E.p f) b0 hu0)
    have href0:=fun (z:World) (hz:Below Wy.heap.size Wy z)=>HREF.out b0 z hz hu0
    obtain⟨r0,hr0⟩:∃ r,m.E.ref (fiR m.E.p f) b0=r:=⟨_,rfl⟩
    have hr0k:=hr0
    rw[hr0] at harg0 HROK0 href0
    have HREF0:=hid href0
    clear m00 m01 hr0 href0 hb0
    have y2:=row_of HGy.out 2 (.string x.dst) rfl
    have y3:=row_of HGy.out 3 (.string x.name) rfl
    have y1:=row_of HGy.out 1 (.int .u8 x.op) rfl
    have y4:=row_of HGy.out 4 (.slice aa2 x.args.length ca2) rfl
    have g0:=row_of HATy.out.mak.hm 0 (.int .i64 m.E.p.width) rfl
    have g1:=row_of HATy.out.mak.hm 1 (.slice m.ac m.E.p.chans.length m.kc) rfl
    have g2:=row_of HATy.out.mak.hm 2 (.slice m.aa m.E.p.arrays.length m.ka) rfl
    have g3:=row_of HATy.out.mak.hm 3 (.slice m.af m.E.p.funcs.length m.kf) rfl
    have g4:=row_of HATy.out.mak.hm 4 (.slice m.am m.E.p.main.length m.km) rfl
    have g10:=row_of HATy.out.mak.hm 10 (.slice m.sa m.E.S.length m.sk) rfl
    have g12:=row_of HATy.out.mak.hm 12 (.slice ka S.C.length kcap) rfl
    have HST:Hid ((m.E.stepI (m.E.bodyI n) (fiR m.E.p f) dst S x).C=(S.C++[⟨0,0,dst,0,r0,zeroRef⟩])++[⟨7,0,0,0,zeroRef,zeroRef⟩]):=by
     show _=_
     unfold EnvF.stepI
     rw[if_neg (by omega),if_neg (by omega),if_neg (by omega),if_pos hk',harg0,List.append_assoc]
     rfl
    have HC1:Hid (okC ⟨0,0,dst,0,r0,zeroRef⟩):=⟨u8nR _ rfl,u8_0,HDST.out,i64_0,HROK0.out.1,HROK0.out.2,i64_0,u64_0⟩
    have HC2:Hid (okC ⟨7,0,0,0,zeroRef,zeroRef⟩):=⟨u8nR _ rfl,u8_0,i64_0,i64_0,i64_0,u64_0,i64_0,u64_0⟩
    have hput:=fun (z:World) (hz:Below Wy.heap.size Wy z)=>HPUT.out _ z hz HC1.out
    simp only[codeA,zeroRef] at hput
    have HPT:=hid hput
    have HNI:=hid (HINV.out.put ⟨0,0,dst,0,r0,zeroRef⟩)
    have HMN12:Hid (m.E.mI (m.E.bodyI n) (fiR m.E.p f) dst D0 code (k+1)=M++[(S.C.length+1,⟨#[]⟩)]):=by
     show _=_
     rw[HMS.out]
     unfold EnvF.mStep
     rw[if_neg (by omega),if_pos hk']
    have HRF:=hid (HREF0.out Wy (Below.refl _ _))
    rw[ea0] at y4
    have hl0:(0:Int)<(x.args.length:Int):=by omega
    clear hput hkk hk' hal ea0 harg0 y1 y2 y3 g0 g1 g2 g3 g4 g10 g12
    go_upto_region 38 with (first|(go_at_call 75;refine HRF.out.mono ?_;rintro e z8 ⟨rfl,hz8⟩;have B8:=hid hz8;clear hz8)|(go_at_call 40;refine (HPT.out _ B8.out).mono ?_;rintro e z9 ⟨rfl,kv9,hat9,hgr9⟩;have HAT9:=hid ((HATy.out.keep B8.out).made hat9 hgr9);clear hat9 hgr9))
    clear y0 y4 hl0 p00 p01
    obtain⟨C9,hC9⟩:∃ C9,(if 4096<S.C.length then S.C else S.C++[(⟨0,0,dst,0,r0,zeroRef⟩:CodeD)])=C9:=⟨_,rfl⟩
    obtain⟨long9,hl9⟩:∃ l,(if 4096<S.C.length then true else false)=l:=⟨_,rfl⟩
    have hni:=HNI.out
    rw[hC9,hl9] at hni
    have hat9:=HAT9.out
    simp only[zeroRef] at hC9
    simp only[hC9,hl9] at hat9
    have HN1:=hid hni
    have HA9:=hid hat9
    clear HNI HAT9 hni hC9 hl9
    obtain⟨kb,kbc,rfl,_⟩:=own_read hat9.mak.own
    have g12:=row_of hat9.mak.hm 12 (.slice kb C9.length kbc) rfl
    have hc9:C9.length≤4097:=HN1.out.len
    have hmk9:M.length≤1024:=by have:=HMK.out;omega
    clear hat9
    go_wp2_with (at_builtin;refine wpList_append_own_at _ rfl (.tmp 286) (.tmp 294) 128 rfl (lb+1) 133 iP (.agg #[.int .i64 0,.string ⟨#[]⟩]) 2 24 Tryd.underlying128 hiP hzP0 hzP1 hzP2 rfl (by decide) _ _ _ rfl (own_below HA9.out.pat ((Below.refl _ _).alloc (Nat.le_refl _) _)) ⟨z9.heap.size,0,none⟩ 1 1 (pCells (C9.length,⟨#[]⟩)) rfl rfl (many_new _ _ _) ?d2 ?d3 ?d4 ?d5 ?_)
    case d2=>first|rfl|exact⟨rfl,rfl⟩|(intro u hu;simp only[pCells,List.mem_cons,List.not_mem_nil,or_false] at hu;rcases hu with rfl|rfl <;> rfl)
    case d3=>unfold maxLen;show M.length+1≤_;omega
    case d4=>show (M.length+1)*24≤_;omega
    case d5=>have h':lb+1≤z9.heap.size:=HA9.out.size;simp;omega
    intro v' w11 hown' hgrow _ hblk
    have HJ1:=hid ((HA9.out.keep ((Below.refl z9.heap.size z9).alloc (Nat.le_refl _) (.cells #[.int .i64 (C9.length:Nat),.string ⟨#[]⟩] 133))).patched HBO.out (q:=(C9.length,⟨#[]⟩)) hgrow hown')
    obtain⟨xa,xc,rfl,_⟩:=own_read hown'
    clear hown' hgrow hblk g12
    have hput8:=rput_any m ⟨7,0,0,0,zeroRef,zeroRef⟩ _ _ _ w11 HJ1.out.mak HC2.out hc9
    simp only[codeA,zeroRef] at hput8
    have HPT8:=hid hput8
    clear hput8
    go_wp2_with (go_at_call 40;refine HPT8.out.mono ?_;rintro e z7 ⟨rfl,kv8,hat8,hgr8⟩;have HAT8:=hid (HJ1.out.made hat8 hgr8);clear hat8 hgr8)
    go_roundw
    case rel=>
     refine⟨k+1,kv8,_,_,LB2,M++[(C9.length,⟨#[]⟩)],by omega,by go_num,?_,HAT8.out,HLL.out.1,(fun hlg=>⟨?_,HLL.out.2⟩),by have:=HMK.out;simp;omega⟩
     ·rw[HSUCC.out,HST.out]
      exact HN1.out.put ⟨7,0,0,0,zeroRef,zeroRef⟩
     ·rw[HMN12.out]
      have h9:long9=false:=by
       by_cases hb:4096<C9.length
       ·rw[if_pos hb] at hlg;cases hlg
       ·rw[if_neg hb] at hlg;exact hlg
      rcases HN1.out with ⟨_,e,_⟩|⟨e,_⟩
      ·rw[e];simp
      ·rw[h9] at e;cases e
    case measure=>simp[intOf];omega
  | (kk+13)=>intro _ hk12;omega
    -- END SWITCH
end Go.Proofs.YtgcfdbhpophnjaaDoor
