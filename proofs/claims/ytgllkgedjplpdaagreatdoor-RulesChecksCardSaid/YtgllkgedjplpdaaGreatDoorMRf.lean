/- Contracts of flat.reference, instr and Check: called in whatever memory in which the table of shapes reads as the program's text lays it, they return what the plain functions refOk, codeOk and flatE s Condition: what comes in reads as a flat program. -/
import Derived.Test.YtgllkgedjplpdaaGreatDoorMLd
import Derived.Deep.DeepCutAuto
import Derived.Test.YtgllkgedjplpdaaGreatDoorMixK
set_option linter.all false
set_option maxRecDepth 1000000
set_option maxHeartbeats 12800000
namespace Go.Proofs.YtgllkgedjplpdaaGreatDoor
open Go.ChangeShapes Go.WideShapes Go.ChangeAt Go.RowKit
theorem flatRef (f:FlatD) (r:RefD) (has:Bool) (cv sv av kv:Value) (w:World) (hw1:1<=f.width) (hw2:f.width<=64) (hr0:InI64 r.reg) (hr1:InU64 r.num) (hg:InI64 f.regs) :
  Calls Tryz.prog 129 #[flatV f cv sv av kv,refVM r,.bool has] w fun e w'=>e=.returned (.bool (refOk f r has))/\Below w.heap.size w w':=by
 obtain ⟨fw,fr,fch,fsi,far,fco⟩:=f
 obtain ⟨rr,rn⟩:=r
 obtain ⟨n,rfl⟩:∃ n:Nat,fw=n:=⟨fw.toNat,by simp only at hw1;omega⟩
 simp only at hw1 hw2 hr0 hr1 hg
 obtain ⟨hr1a,hr1b⟩:=hr1
 obtain ⟨hr0a,hr0b⟩:=hr0
 obtain ⟨hga,hgb⟩:=hg
 have hb0:Hid (Below w.heap.size w ((w.alloc (.cells #[.int .i64 n,.int .i64 fr,cv,sv,av,kv] 62)).alloc (.cells #[.int .i64 rr,.int .u64 rn] 56))):=((bR _ _).alloc (nR _) _).alloc (by simp) _
 cases has
 ·by_cases h1:rr=0
  ·by_cases h2:rn=0
   ·have HV:Hid (refOk ⟨n,fr,fch,fsi,far,fco⟩ ⟨rr,rn⟩ false=true):=by show _=_;simp [refOk,h1,h2]
    subst h1;subst h2
    go_enter Tryz.func129,Tryz.ntmps129
    go_wp2
    go_ret
    exact ⟨by rw [HV.out];rfl,hb0.out⟩
   ·have HV:Hid (refOk ⟨n,fr,fch,fsi,far,fco⟩ ⟨rr,rn⟩ false=false):=by show _=_;simp [refOk,h1,h2]
    subst h1
    go_enter Tryz.func129,Tryz.ntmps129
    go_wp2
    go_ret
    exact ⟨by rw [HV.out];rfl,hb0.out⟩
  ·have HV:Hid (refOk ⟨n,fr,fch,fsi,far,fco⟩ ⟨rr,rn⟩ false=false):=by show _=_;simp [refOk,h1]
   go_enter Tryz.func129,Tryz.ntmps129
   go_wp2
   go_ret
   exact ⟨by rw [HV.out];rfl,hb0.out⟩
 ·by_cases h1:rr=-1
  ·subst h1
   by_cases h64:n=64
   ·subst h64
    have HV:Hid (refOk ⟨(64:Nat),fr,fch,fsi,far,fco⟩ ⟨-1,rn⟩ true=true):=by show decide (rn<(2:Int) ^ ((64:Nat):Int).toNat)=true;exact decide_eq_true hr1b
    go_enter Tryz.func129,Tryz.ntmps129
    go_wp2_with fail
    go_quiet (fail)
    go_wp2
    go_ret
    exact ⟨by rw [HV.out];rfl,below_drewN hb0.out _⟩
   ·have q:((n:Int) == 64)=false:=by rw [beq_eq_false_iff_ne];omega
    have hp:=Hd (pow_in n (by omega))
    have HV:Hid (decide (rn<IntKind.u64.wrap (2 ^ n))=refOk ⟨n,fr,fch,fsi,far,fco⟩ ⟨-1,rn⟩ true):=by show _=_;rw [hp.out];simp [refOk]
    clear h64
    go_enter Tryz.func129,Tryz.ntmps129
    go_wp2_with fail
    go_quiet (fail)
    go_wp2
    go_ret
    exact ⟨by rw [<- HV.out];rfl,below_drewN hb0.out _⟩
  ·have q:(rr == -1)=false:=by rw [beq_eq_false_iff_ne];exact h1
   by_cases h2:0<=rr
   ·by_cases h3:rr<fr
    ·have HV:Hid ((rn == 0)=refOk ⟨n,fr,fch,fsi,far,fco⟩ ⟨rr,rn⟩ true):=by show _=_;simp [refOk,h1,h2,h3]
     clear h1
     go_enter Tryz.func129,Tryz.ntmps129
     go_wp2
     go_ret
     exact ⟨by rw [<- HV.out];rfl,hb0.out⟩
    ·have HV:Hid (refOk ⟨n,fr,fch,fsi,far,fco⟩ ⟨rr,rn⟩ true=false):=by show _=_;simp [refOk,h1,h3]
     have h4:fr<=rr:=by omega
     have h5:decide (rr<fr)=false:=decide_eq_false h3
     clear h1
     go_enter Tryz.func129,Tryz.ntmps129
     go_wp2
     go_ret
     exact ⟨by rw [HV.out];rfl,hb0.out⟩
   ·have HV:Hid (refOk ⟨n,fr,fch,fsi,far,fco⟩ ⟨rr,rn⟩ true=false):=by show _=_;simp [refOk,h1,h2]
    have h4:rr<0:=by omega
    have h5:decide (0<=rr)=false:=decide_eq_false h2
    clear h1
    go_enter Tryz.func129,Tryz.ntmps129
    go_wp2
    go_ret
    exact ⟨by rw [HV.out];rfl,hb0.out⟩
theorem idxFive (a:Int) (h0:0<=a) (h1:a<=4) (x1 x2 x3 x4 y:Int) (hy:(if a=0 then 1 else if a=1 then x1 else if a=2 then x2 else if a=3 then x3 else x4)=y) (w:World) :
  (Instr.index 196 (.agg #[.int .i64 1,.int .i64 x1,.int .i64 x2,.int .i64 x3,.int .i64 x4]) (.int .i64 a)).run Tryz.prog w=.ok (.int .i64 y) w:=by
 obtain ⟨i,hi,hz,hs,hb⟩:=info_parts (P:=Tryz.prog) (e:=3) (z:=.int .i64 0) (size:=1) (bytes:=8) (by kernel_rfl)
 refine idxArr a 5 h0 (by omega) .i64 _ _ ?_ _ 3 (.int .i64) i Tryz.underlying196 Tryz.underlying3 rfl hi hs w
 have:a=0 \/ a=1 \/ a=2 \/ a=3 \/ a=4:=by omega
 subst hy
 rcases this with rfl|rfl|rfl|rfl|rfl <;> rfl
theorem shape_is (f:FlatD) (k:Nat) (x:Bool × Bool × Bool × Int) (h:shapeL[k]?=some x):dstK k=x.1/\aK k=x.2.1/\(k ≠ 1->∀ op,bK k op=x.2.2.1)/\0<=x.2.2.2/\x.2.2.2<=4 /\
  (if x.2.2.2=0 then 1 else if x.2.2.2=1 then (f.arrays.length:Int) else if x.2.2.2=2 then (f.chans.length:Int) else if x.2.2.2=3 then (f.sites.length:Int) else (f.code.length:Int))=mostF f k:=by
 have hk:k<10:=(lE h).1
 have hk:k=0 \/ k=1 \/ k=2 \/ k=3 \/ k=4 \/ k=5 \/ k=6 \/ k=7 \/ k=8 \/ k=9:=by omega
 rcases hk with rfl|rfl|rfl|rfl|rfl|rfl|rfl|rfl|rfl|rfl <;> (cases h;refine ⟨rfl,rfl,?_,by decide,by decide,rfl⟩;first|(intro _ op;rfl)|(intro h;exact absurd rfl h))
theorem cell_setCell_other (w:World) (b o:Nat) (v:Value) (b' o':Nat) (h:b' ≠ b):(w.setCell ⟨b,o,none⟩ v).cell? ⟨b',o',none⟩=w.cell? ⟨b',o',none⟩:=
 World.cell?_of_block (heap_setCell_other _ _ _ _ (by simpa using h))
theorem n_cases (n m:Int):((decide (0<=n) && decide (n<m))=false/\n<0/\decide (n<0)=true) \/ ((decide (0<=n) && decide (n<m))=false/\m<=n/\decide (n<0)=false/\decide (m<=n)=true) \/ ((decide (0<=n) && decide (n<m))=true/\0<=n/\n<m/\decide (n<0)=false/\decide (m<=n)=false):=by
 rcases Int.lt_or_le n 0 with h|h
 ·exact .inl ⟨by rw [decide_eq_false (by omega)];rfl,h,decide_eq_true h⟩
 ·rcases Int.lt_or_le n m with h'|h'
  ·exact .inr (.inr ⟨by rw [decide_eq_true h,decide_eq_true h'];rfl,h,h',decide_eq_false (by omega),decide_eq_false (by omega)⟩)
  ·exact .inr (.inl ⟨by rw [decide_eq_false (p:=n<m) (by omega),Bool.and_false],h',decide_eq_false (by omega),decide_eq_true h'⟩)
theorem op_casesM (o:Int):((decide (2<=o) && decide (o<=20))=false/\o<2/\decide (o<2)=true) \/ ((decide (2<=o) && decide (o<=20))=false/\20<o/\decide (o<2)=false) \/ ((decide (2<=o) && decide (o<=20))=true/\2<=o/\o<=20/\decide (o<2)=false/\(∀ k:Int,(k == 1)=true->bK k o=(arityZ o == 2))):=by
 rcases Int.lt_or_le o 2 with h|h
 ·exact .inl ⟨by rw [decide_eq_false (by omega)];rfl,h,decide_eq_true h⟩
 ·rcases Int.lt_or_le 20 o with h'|h'
  ·exact .inr (.inl ⟨by rw [decide_eq_false (p:=o<=20) (by omega),Bool.and_false],h',decide_eq_false (by omega)⟩)
  ·refine .inr (.inr ⟨by rw [decide_eq_true h,decide_eq_true h'];rfl,h,h',decide_eq_false (by omega),fun k hk=>?_⟩)
   obtain rfl:k=1:=by simpa using hk
   unfold bK arityZ
   rw [if_neg (by omega),if_neg (by omega)]
   by_cases h3:o<=3
   ·rw [if_pos h3,decide_eq_false (by omega)];rfl
   ·rw [if_neg h3,if_neg (by omega),decide_eq_true (by omega)];rfl
theorem flatInstr (f:FlatD) (c:CodeD) (cv sv av kv:Value) (w:World) (hF:RdFlat none w f cv sv av kv) (hw1:1<=f.width) (hw2:f.width<=64) (hc:kCode.ok c) (hL:LaidM w) :
  Calls Tryz.prog 108 #[flatV f cv sv av kv,codeV c] w fun e w'=>e=.returned (.bool (codeOk f c))/\Below w.heap.size w w':=by
 obtain ⟨hF1,hF2,hF3,hF4,hF5,hF6⟩:=hF
 obtain ⟨ck,co,cd,cn,cra,crb⟩:=c
 obtain ⟨k,rfl⟩:∃ k:Nat,ck=k:=⟨ck.toNat,by have:0<=ck:=hc.1.1;omega⟩
 simp only at hc
 obtain ⟨ca,cc,rfl⟩:=hF1.is
 obtain ⟨sa,sc,rfl⟩:=hF2.is
 obtain ⟨aa,ac,rfl⟩:=hF3.is
 obtain ⟨ka,kc,rfl⟩:=hF4.is
 have l1:=hF1.size
 have l2:=hF2.size
 have l3:=hF3.size
 have l4:=hF4.size
 have HA:=Hd (fun has w=>flatRef f cra has (.slice ca f.chans.length cc) (.slice sa f.sites.length sc) (.slice aa f.arrays.length ac) (.slice ka f.code.length kc) w hw1 hw2 hc.2.2.2.2.1 hc.2.2.2.2.2.1 hF6)
 have HB:=Hd (fun has w=>flatRef f crb has (.slice ca f.chans.length cc) (.slice sa f.sites.length sc) (.slice aa f.arrays.length ac) (.slice ka f.code.length kc) w hw1 hw2 hc.2.2.2.2.2.2.1 hc.2.2.2.2.2.2.2 hF6)
 have HAr:=Hd (fun w=>arity_of co hc.2.1.1 w)
 have hb0:Hid (Below w.heap.size w ((w.alloc (.cells #[.int .i64 f.width,.int .i64 f.regs,.slice ca f.chans.length cc,.slice sa f.sites.length sc,.slice aa f.arrays.length ac,.slice ka f.code.length kc] 62)).alloc (.cells #[.int .u8 k,.int .u8 co,.int .i64 cd,.int .i64 cn,.int .i64 cra.reg,.int .u64 cra.num,.int .i64 crb.reg,.int .u64 crb.num] 58))):=((bR _ _).alloc (nR _) _).alloc (by simp) _
 obtain ⟨⟨hk0,hk1⟩,⟨ho0,ho1⟩,⟨hd0,hd1⟩,⟨hn0,hn1⟩,_⟩:=hc
 obtain ⟨hg0,hg1⟩:=hF6
 clear hF1 hF2 hF3 hF4
 by_cases h9:9<k
 ·have HV:Hid (codeOk f ⟨k,co,cd,cn,cra,crb⟩=false):=by show _=_;unfold codeOk;rw [decide_eq_false (by simp only;omega)];rfl
  have h10:(10:Int)<=(k:Int):=by omega
  clear hL HA HB HAr
  go_enter Tryz.func108,Tryz.ntmps108
  go_wp2
  go_ret
  exact ⟨by rw [HV.out];rfl,hb0.out⟩
 ·obtain ⟨x,hx⟩:∃ x,shapeL[k]?=some x:=⟨_,lG (show k<shapeL.length by show k<10;omega)⟩
  obtain ⟨c0,c1,c2,c3⟩:=hL.shapes k x hx
  obtain ⟨s1,s2,s3,s4,s5,s6⟩:=shape_is f k x hx
  obtain ⟨x0,x1,x2,x3⟩:=x
  simp only at c0 c1 c2 c3 s1 s2 s3 s4 s5 s6
  have h10:(k:Int)<10:=by omega
  have hidx:=fun w=>idxFive x3 s4 s5 _ _ _ _ _ s6 w
  have hidx0:True:=trivial
  have HCode:Hid (codeOk f ⟨k,co,cd,cn,cra,crb⟩=((if (k:Int) == 1 then decide (2<=co) && decide (co<=20) else co == 0) && (decide (0<=cn) && decide (cn<mostF f k)) && (if x0 then decide (0<=cd) && decide (cd<f.regs) else cd == 0) && refOk f cra x1 && refOk f crb (bK k co))):=by
   show _=_;unfold codeOk;rw [s1,s2,decide_eq_true (show (k:Int)<=9 by omega)];rfl
  have HA1:=Hd (HA.out x1)
  have hlt0:=block_lt_of_cell c0
  generalize codeOk f ⟨k,co,cd,cn,cra,crb⟩=res at *
  generalize mostF f k=most at *
  generalize refOk f cra x1=ra at *
  have S3:=Hd s3
  clear hx s1 s2 s6 s3 HA hL
  go_enter Tryz.func108,Tryz.ntmps108
  go_upto_region 3 with fail
  have g0:=heap_alloc2_old w (.cells #[.int .i64 f.width,.int .i64 f.regs,.slice ca f.chans.length cc,.slice sa f.sites.length sc,.slice aa f.arrays.length ac,.slice ka f.code.length kc] 62) (.cells #[.int .u8 k,.int .u8 co,.int .i64 cd,.int .i64 cn,.int .i64 cra.reg,.int .u64 cra.num,.int .i64 crb.reg,.int .u64 crb.num] 58)
  have g1:=heap_alloc2_new w (.cells #[.int .i64 f.width,.int .i64 f.regs,.slice ca f.chans.length cc,.slice sa f.sites.length sc,.slice aa f.arrays.length ac,.slice ka f.code.length kc] 62) (.cells #[.int .u8 k,.int .u8 co,.int .i64 cd,.int .i64 cn,.int .i64 cra.reg,.int .u64 cra.num,.int .i64 crb.reg,.int .u64 crb.num] 58)
  have c0:=cell_keep hb0.out c0
  have c1:=cell_keep hb0.out c1
  have c2:=cell_keep hb0.out c2
  have c3:=cell_keep hb0.out c3
  generalize ((w.alloc (.cells #[.int .i64 f.width,.int .i64 f.regs,.slice ca f.chans.length cc,.slice sa f.sites.length sc,.slice aa f.arrays.length ac,.slice ka f.code.length kc] 62)).alloc (.cells #[.int .u8 k,.int .u8 co,.int .i64 cd,.int .i64 cn,.int .i64 cra.reg,.int .u64 cra.num,.int .i64 crb.reg,.int .u64 crb.num] 58))=W0 at *
  have d1:=row_of g0 0 (.int .i64 f.width) rfl
  have d0:=row_of g0 1 (.int .i64 f.regs) rfl
  have d2:=row_of g0 2 (.slice ca f.chans.length cc) rfl
  have d3:=row_of g0 3 (.slice sa f.sites.length sc) rfl
  have d4:=row_of g0 4 (.slice aa f.arrays.length ac) rfl
  have d5:=row_of g0 5 (.slice ka f.code.length kc) rfl
  have e0:=row_of g1 0 (.int .u8 k) rfl
  have e1:=row_of g1 1 (.int .u8 co) rfl
  have e2:=row_of g1 2 (.int .i64 cd) rfl
  have e3:=row_of g1 3 (.int .i64 cn) rfl
  have e4:=row_of g1 4 (.int .i64 cra.reg) rfl
  have e5:=row_of g1 5 (.int .u64 cra.num) rfl
  have e6:=row_of g1 6 (.int .i64 crb.reg) rfl
  have e7:=row_of g1 7 (.int .u64 crb.num) rfl
  have hz:=hb0.out.size
  have G0:=Hd g0
  have G1:=Hd g1
  clear g0 g1
  go_upto_region 4 with fail
  clear hidx0
  have n0:=heap_alloc_new W0 (.cells #[.bool x0,.bool x1,.bool x2,.int .i64 x3] 194)
  have hbA:Below W0.heap.size W0 (W0.alloc (.cells #[.bool x0,.bool x1,.bool x2,.int .i64 x3] 194)):=(bR _ _).alloc (nR _) _
  have HW1:=Hd (bcomp hb0.out hbA)
  have d0:=cell_keep hbA d0
  have d1:=cell_keep hbA d1
  have d2:=cell_keep hbA d2
  have d3:=cell_keep hbA d3
  have d4:=cell_keep hbA d4
  have d5:=cell_keep hbA d5
  have e0:=cell_keep hbA e0
  have e1:=cell_keep hbA e1
  have e2:=cell_keep hbA e2
  have e3:=cell_keep hbA e3
  have e4:=cell_keep hbA e4
  have e5:=cell_keep hbA e5
  have e6:=cell_keep hbA e6
  have e7:=cell_keep hbA e7
  have g0:=Hd ((hbA.block _ (aE G0.out).1).trans G0.out)
  have g1:=Hd ((hbA.block _ (aE G1.out).1).trans G1.out)
  have hs0:w.heap.size<W0.heap.size:=(aE G0.out).1
  have hs1:w.heap.size+1<W0.heap.size:=(aE G1.out).1
  clear c0 c1 c2 c3 hbA G0 G1
  generalize W0.heap.size=sb at *
  generalize (W0.alloc (.cells #[.bool x0,.bool x1,.bool x2,.int .i64 x3] 194))=W1 at *
  cases hk:((k:Int) == 1)
  ·by_cases ho:co=0
   ·have HD:=Hd (HCode.out.trans (by rw [if_neg (by rw [hk];simp),ho,S3.out (by intro h;subst h;simp at hk) 0]))
    have HB1:=Hd (HB.out x2)
    have qo:(co != 0)=false:=by rw [ho];rfl
    generalize hrb:refOk f crb x2=rb at *
    clear HCode HB S3 hrb ho
    go_upto_region 11 with fail
    have t0:=row_of n0 0 _ rfl
    have t1:=row_of n0 1 _ rfl
    have t2:=row_of n0 2 _ rfl
    have t3:=row_of n0 3 _ rfl
    clear n0
    have HW2:=HW1
    clear HW1
    generalize W1=W2 at *
    rcases n_cases cn most with ⟨m1,m2,m3⟩|⟨m1,m2,m3,m4⟩|⟨m1,m2,m3,m4,m5⟩
    ·have HV:Hid (res=false):=by show _=_;rw [HD.out,m1];cases x0 <;> cases ra <;> cases rb <;> rfl
     clear m1 HD
     go_wp2_with fail
     go_ret
     exact ⟨by rw [HV.out];rfl,HW2.out⟩
    ·have HV:Hid (res=false):=by show _=_;rw [HD.out,m1];cases x0 <;> cases ra <;> cases rb <;> rfl
     clear m1 HD
     go_wp2_with fail
     go_ret
     exact ⟨by rw [HV.out];rfl,HW2.out⟩
    ·rw [m1] at HD
     clear m1
     cases x0
     ·cases md:(cd == 0)
      ·have HV:Hid (res=false):=by show _=_;rw [HD.out,md];cases ra <;> cases rb <;> rfl
       have md':(cd != 0)=true:=by rw [bne,md];rfl
       clear md HD
       go_wp2_with fail
       go_ret
       exact ⟨by rw [HV.out];rfl,HW2.out⟩
      ·have md':(cd != 0)=false:=by rw [bne,md];rfl
       cases ra
       ·have HV:Hid (res=false):=by show _=_;rw [HD.out,md];cases rb <;> rfl
        clear md HD
        go_wp2_with (go_at_call_of 129 (Value.int IntKind.i64 cra.reg);refine (HA1.out _).mono ?_;rintro e w3 ⟨rfl,hb3⟩)
        go_ret
        exact ⟨by rw [HV.out];rfl,bcomp HW2.out hb3⟩
       ·have HV:Hid (res=rb):=by show _=_;rw [HD.out,md];cases rb <;> rfl
        clear md HD
        go_wp2_with (first
         | (go_at_call_of 129 (Value.int IntKind.i64 cra.reg);refine (HA1.out _).mono ?_;rintro e w3 ⟨rfl,hb3⟩;have d0:=cell_keep hb3 d0;have d1:=cell_keep hb3 d1;have d2:=cell_keep hb3 d2;have d3:=cell_keep hb3 d3;have d4:=cell_keep hb3 d4;have d5:=cell_keep hb3 d5;have e6:=cell_keep hb3 e6;have e7:=cell_keep hb3 e7;have t2:=cell_keep hb3 t2)
         | (go_at_call_of 129 (Value.int IntKind.i64 crb.reg);refine (HB1.out _).mono ?_;rintro e w4 ⟨rfl,hb4⟩))
        go_ret
        exact ⟨by rw [HV.out];rfl,bcomp (bcomp HW2.out hb3) hb4⟩
     ·rcases n_cases cd f.regs with ⟨v1,v2,v3⟩|⟨v1,v2,v3,v4⟩|⟨v1,v2,v3,v4,v5⟩
      ·have HV:Hid (res=false):=by show _=_;rw [HD.out,if_pos rfl,v1];cases ra <;> cases rb <;> rfl
       clear v1 HD
       go_wp2_with fail
       go_ret
       exact ⟨by rw [HV.out];rfl,HW2.out⟩
      ·have HV:Hid (res=false):=by show _=_;rw [HD.out,if_pos rfl,v1];cases ra <;> cases rb <;> rfl
       clear v1 HD
       go_wp2_with fail
       go_ret
       exact ⟨by rw [HV.out];rfl,HW2.out⟩
      ·cases ra
       ·have HV:Hid (res=false):=by show _=_;rw [HD.out,if_pos rfl,v1];cases rb <;> rfl
        clear v1 HD
        go_wp2_with (go_at_call_of 129 (Value.int IntKind.i64 cra.reg);refine (HA1.out _).mono ?_;rintro e w3 ⟨rfl,hb3⟩)
        go_ret
        exact ⟨by rw [HV.out];rfl,bcomp HW2.out hb3⟩
       ·have HV:Hid (res=rb):=by show _=_;rw [HD.out,if_pos rfl,v1];cases rb <;> rfl
        clear v1 HD
        go_wp2_with (first
         | (go_at_call_of 129 (Value.int IntKind.i64 cra.reg);refine (HA1.out _).mono ?_;rintro e w3 ⟨rfl,hb3⟩;have d0:=cell_keep hb3 d0;have d1:=cell_keep hb3 d1;have d2:=cell_keep hb3 d2;have d3:=cell_keep hb3 d3;have d4:=cell_keep hb3 d4;have d5:=cell_keep hb3 d5;have e6:=cell_keep hb3 e6;have e7:=cell_keep hb3 e7;have t2:=cell_keep hb3 t2)
         | (go_at_call_of 129 (Value.int IntKind.i64 crb.reg);refine (HB1.out _).mono ?_;rintro e w4 ⟨rfl,hb4⟩))
        go_ret
        exact ⟨by rw [HV.out];rfl,bcomp (bcomp HW2.out hb3) hb4⟩
   ·have HV:Hid (res=false):=by show _=_;rw [HCode.out,if_neg (by rw [hk];simp),show (co == 0)=false from by rw [beq_eq_false_iff_ne];exact ho];rfl
    have qo:(co != 0)=true:=by rw [bne_iff_ne];exact ho
    clear HCode
    go_wp2_with fail
    go_ret
    exact ⟨by rw [HV.out];rfl,HW1.out⟩
  ·rcases op_casesM co with ⟨p1,p2,p3⟩|⟨p1,p2,p3⟩|⟨p1,p2,p3,p4,p5⟩
   ·have HV:Hid (res=false):=by show _=_;rw [HCode.out,if_pos hk,p1];rfl
    clear p1
    go_wp2_with fail
    go_ret
    exact ⟨by rw [HV.out];rfl,HW1.out⟩
   ·have HV:Hid (res=false):=by show _=_;rw [HCode.out,if_pos hk,p1];rfl
    clear p1
    go_wp2_with fail
    go_ret
    exact ⟨by rw [HV.out];rfl,HW1.out⟩
   ·have HD:=Hd (HCode.out.trans (by rw [if_pos hk,p1]))
    rw [p5 k hk] at HD
    have HB1:=Hd (HB.out (arityZ co == 2))
    generalize hrb:refOk f crb (arityZ co == 2)=rb at *
    clear HCode HB p1 p5 hrb
    go_upto_region 11 with (go_at_call 128;refine (HAr.out _).mono ?_;rintro e w2 ⟨rfl,hb2⟩;have d0:=cell_keep hb2 d0;have d1:=cell_keep hb2 d1;have d2:=cell_keep hb2 d2;have d3:=cell_keep hb2 d3;have d4:=cell_keep hb2 d4;have d5:=cell_keep hb2 d5;have e0:=cell_keep hb2 e0;have e1:=cell_keep hb2 e1;have e2:=cell_keep hb2 e2;have e3:=cell_keep hb2 e3;have e4:=cell_keep hb2 e4;have e5:=cell_keep hb2 e5;have e6:=cell_keep hb2 e6;have e7:=cell_keep hb2 e7;have n1:=(hb2.block _ (aE n0).1).trans n0;have f1:=frozen_of_row w2 sb 2 _ _ n1;have n2:=row_of n1 2 _ rfl)
    have n3:=heap_setCell_same _ _ 2 _ _ (.bool (arityZ co == 2)) n1
    have t0:=row_of n3 0 (.bool x0) rfl
    have t1:=row_of n3 1 (.bool x1) rfl
    have t2:=row_of n3 2 (.bool (arityZ co == 2)) rfl
    have t3:=row_of n3 3 (.int .i64 x3) rfl
    have d0:=(cell_setCell_other w2 sb 2 (.bool (arityZ co == 2)) w.heap.size 1 (by omega)).trans d0
    have d1:=(cell_setCell_other w2 sb 2 (.bool (arityZ co == 2)) w.heap.size 0 (by omega)).trans d1
    have d2:=(cell_setCell_other w2 sb 2 (.bool (arityZ co == 2)) w.heap.size 2 (by omega)).trans d2
    have d3:=(cell_setCell_other w2 sb 2 (.bool (arityZ co == 2)) w.heap.size 3 (by omega)).trans d3
    have d4:=(cell_setCell_other w2 sb 2 (.bool (arityZ co == 2)) w.heap.size 4 (by omega)).trans d4
    have d5:=(cell_setCell_other w2 sb 2 (.bool (arityZ co == 2)) w.heap.size 5 (by omega)).trans d5
    have e0:=(cell_setCell_other w2 sb 2 (.bool (arityZ co == 2)) (w.heap.size+1) 0 (by omega)).trans e0
    have e1:=(cell_setCell_other w2 sb 2 (.bool (arityZ co == 2)) (w.heap.size+1) 1 (by omega)).trans e1
    have e2:=(cell_setCell_other w2 sb 2 (.bool (arityZ co == 2)) (w.heap.size+1) 2 (by omega)).trans e2
    have e3:=(cell_setCell_other w2 sb 2 (.bool (arityZ co == 2)) (w.heap.size+1) 3 (by omega)).trans e3
    have e4:=(cell_setCell_other w2 sb 2 (.bool (arityZ co == 2)) (w.heap.size+1) 4 (by omega)).trans e4
    have e5:=(cell_setCell_other w2 sb 2 (.bool (arityZ co == 2)) (w.heap.size+1) 5 (by omega)).trans e5
    have e6:=(cell_setCell_other w2 sb 2 (.bool (arityZ co == 2)) (w.heap.size+1) 6 (by omega)).trans e6
    have e7:=(cell_setCell_other w2 sb 2 (.bool (arityZ co == 2)) (w.heap.size+1) 7 (by omega)).trans e7
    have HW2:Hid (Below w.heap.size w (w2.setCell ⟨sb,2,none⟩ (.bool (arityZ co == 2)))):=(bcomp HW1.out hb2).setCell (by simp;omega) _
    clear n0 n1 n2 n3 f1 hb2 HW1
    generalize (w2.setCell ⟨sb,2,none⟩ (.bool (arityZ co == 2)))=W2 at *
    generalize (arityZ co == 2)=x2 at *
    rcases n_cases cn most with ⟨m1,m2,m3⟩|⟨m1,m2,m3,m4⟩|⟨m1,m2,m3,m4,m5⟩
    ·have HV:Hid (res=false):=by show _=_;rw [HD.out,m1];cases x0 <;> cases ra <;> cases rb <;> rfl
     clear m1 HD
     go_wp2_with fail
     go_ret
     exact ⟨by rw [HV.out];rfl,HW2.out⟩
    ·have HV:Hid (res=false):=by show _=_;rw [HD.out,m1];cases x0 <;> cases ra <;> cases rb <;> rfl
     clear m1 HD
     go_wp2_with fail
     go_ret
     exact ⟨by rw [HV.out];rfl,HW2.out⟩
    ·rw [m1] at HD
     clear m1
     cases x0
     ·cases md:(cd == 0)
      ·have HV:Hid (res=false):=by show _=_;rw [HD.out,md];cases ra <;> cases rb <;> rfl
       have md':(cd != 0)=true:=by rw [bne,md];rfl
       clear md HD
       go_wp2_with fail
       go_ret
       exact ⟨by rw [HV.out];rfl,HW2.out⟩
      ·have md':(cd != 0)=false:=by rw [bne,md];rfl
       cases ra
       ·have HV:Hid (res=false):=by show _=_;rw [HD.out,md];cases rb <;> rfl
        clear md HD
        go_wp2_with (go_at_call_of 129 (Value.int IntKind.i64 cra.reg);refine (HA1.out _).mono ?_;rintro e w3 ⟨rfl,hb3⟩)
        go_ret
        exact ⟨by rw [HV.out];rfl,bcomp HW2.out hb3⟩
       ·have HV:Hid (res=rb):=by show _=_;rw [HD.out,md];cases rb <;> rfl
        clear md HD
        go_wp2_with (first
         | (go_at_call_of 129 (Value.int IntKind.i64 cra.reg);refine (HA1.out _).mono ?_;rintro e w3 ⟨rfl,hb3⟩;have d0:=cell_keep hb3 d0;have d1:=cell_keep hb3 d1;have d2:=cell_keep hb3 d2;have d3:=cell_keep hb3 d3;have d4:=cell_keep hb3 d4;have d5:=cell_keep hb3 d5;have e6:=cell_keep hb3 e6;have e7:=cell_keep hb3 e7;have t2:=cell_keep hb3 t2)
         | (go_at_call_of 129 (Value.int IntKind.i64 crb.reg);refine (HB1.out _).mono ?_;rintro e w4 ⟨rfl,hb4⟩))
        go_ret
        exact ⟨by rw [HV.out];rfl,bcomp (bcomp HW2.out hb3) hb4⟩
     ·rcases n_cases cd f.regs with ⟨v1,v2,v3⟩|⟨v1,v2,v3,v4⟩|⟨v1,v2,v3,v4,v5⟩
      ·have HV:Hid (res=false):=by show _=_;rw [HD.out,if_pos rfl,v1];cases ra <;> cases rb <;> rfl
       clear v1 HD
       go_wp2_with fail
       go_ret
       exact ⟨by rw [HV.out];rfl,HW2.out⟩
      ·have HV:Hid (res=false):=by show _=_;rw [HD.out,if_pos rfl,v1];cases ra <;> cases rb <;> rfl
       clear v1 HD
       go_wp2_with fail
       go_ret
       exact ⟨by rw [HV.out];rfl,HW2.out⟩
      ·cases ra
       ·have HV:Hid (res=false):=by show _=_;rw [HD.out,if_pos rfl,v1];cases rb <;> rfl
        clear v1 HD
        go_wp2_with (go_at_call_of 129 (Value.int IntKind.i64 cra.reg);refine (HA1.out _).mono ?_;rintro e w3 ⟨rfl,hb3⟩)
        go_ret
        exact ⟨by rw [HV.out];rfl,bcomp HW2.out hb3⟩
       ·have HV:Hid (res=rb):=by show _=_;rw [HD.out,if_pos rfl,v1];cases rb <;> rfl
        clear v1 HD
        go_wp2_with (first
         | (go_at_call_of 129 (Value.int IntKind.i64 cra.reg);refine (HA1.out _).mono ?_;rintro e w3 ⟨rfl,hb3⟩;have d0:=cell_keep hb3 d0;have d1:=cell_keep hb3 d1;have d2:=cell_keep hb3 d2;have d3:=cell_keep hb3 d3;have d4:=cell_keep hb3 d4;have d5:=cell_keep hb3 d5;have e6:=cell_keep hb3 e6;have e7:=cell_keep hb3 e7;have t2:=cell_keep hb3 t2)
         | (go_at_call_of 129 (Value.int IntKind.i64 crb.reg);refine (HB1.out _).mono ?_;rintro e w4 ⟨rfl,hb4⟩))
        go_ret
        exact ⟨by rw [HV.out];rfl,bcomp (bcomp HW2.out hb3) hb4⟩
open Go.ChangeShapes Go.WideShapes Go.ChangeAt Go.RowKit
theorem head_cases (f:FlatD) :
  (headOk f=false/\f.width<1/\decide (1<=f.width)=false) \/
  (headOk f=false/\1<=f.width/\64<f.width/\decide (f.width<=64)=false) \/
  (headOk f=false/\1<=f.width/\f.width<=64/\f.regs<0/\decide (0<=f.regs)=false) \/
  (headOk f=false/\1<=f.width/\f.width<=64/\0<=f.regs/\2097152<f.regs/\decide (f.regs<=2097152)=false) \/
  (headOk f=false/\1<=f.width/\f.width<=64/\0<=f.regs/\f.regs<=2097152/\namesOk f.chans=false) \/
  (headOk f=false/\1<=f.width/\f.width<=64/\0<=f.regs/\f.regs<=2097152/\namesOk f.chans=true/\namesOk f.sites=false) \/
  (headOk f=false/\1<=f.width/\f.width<=64/\0<=f.regs/\f.regs<=2097152/\namesOk f.chans=true/\namesOk f.sites=true/\32<f.arrays.length) \/
  (headOk f=false/\1<=f.width/\f.width<=64/\0<=f.regs/\f.regs<=2097152/\namesOk f.chans=true/\namesOk f.sites=true/\f.arrays.length<=32/\f.code.length<1) \/
  (headOk f=false/\1<=f.width/\f.width<=64/\0<=f.regs/\f.regs<=2097152/\namesOk f.chans=true/\namesOk f.sites=true/\f.arrays.length<=32/\1<=f.code.length/\4096<f.code.length) \/
  (headOk f=true/\1<=f.width/\f.width<=64/\0<=f.regs/\f.regs<=2097152/\namesOk f.chans=true/\namesOk f.sites=true/\f.arrays.length<=32/\1<=f.code.length/\f.code.length<=4096):=by
 unfold headOk
 by_cases h1:1<=f.width
 rotate_left
 ·exact .inl ⟨by rw [decide_eq_false h1];rfl,by omega,decide_eq_false h1⟩
 by_cases h2:f.width<=64
 rotate_left
 ·exact .inr (.inl ⟨by rw [decide_eq_false h2];simp,h1,by omega,decide_eq_false h2⟩)
 by_cases h3:0<=f.regs
 rotate_left
 ·exact .inr (.inr (.inl ⟨by rw [decide_eq_false h3];simp,h1,h2,by omega,decide_eq_false h3⟩))
 by_cases h4:f.regs<=2097152
 rotate_left
 ·exact .inr (.inr (.inr (.inl ⟨by rw [decide_eq_false h4];simp,h1,h2,h3,by omega,decide_eq_false h4⟩)))
 cases h5:namesOk f.chans
 ·exact .inr (.inr (.inr (.inr (.inl ⟨by simp,h1,h2,h3,h4,rfl⟩))))
 cases h6:namesOk f.sites
 ·exact .inr (.inr (.inr (.inr (.inr (.inl ⟨by simp,h1,h2,h3,h4,rfl,rfl⟩)))))
 by_cases h7:f.arrays.length<=32
 rotate_left
 ·exact .inr (.inr (.inr (.inr (.inr (.inr (.inl ⟨by rw [decide_eq_false h7];simp,h1,h2,h3,h4,rfl,rfl,by omega⟩))))))
 by_cases h8:1<=f.code.length
 rotate_left
 ·exact .inr (.inr (.inr (.inr (.inr (.inr (.inr (.inl ⟨by rw [decide_eq_false h8];simp,h1,h2,h3,h4,rfl,rfl,h7,by omega⟩)))))))
 by_cases h9:f.code.length<=4096
 rotate_left
 ·exact .inr (.inr (.inr (.inr (.inr (.inr (.inr (.inr (.inl ⟨by rw [decide_eq_false h9];simp,h1,h2,h3,h4,rfl,rfl,h7,h8,by omega⟩))))))))
 exact .inr (.inr (.inr (.inr (.inr (.inr (.inr (.inr (.inr ⟨by simp [h1,h2,h3,h4,h7,h8,h9],h1,h2,h3,h4,rfl,rfl,h7,h8,h9⟩))))))))
theorem flatE_head {f:FlatD} (h:headOk f=false):flatE f=2:=by unfold flatE flatOk;rw [h];rfl
theorem all_take_step {α:Type} (p:α->Bool) (l:List α) (k:Nat) (x:α) (h:l[k]?=some x):(l.take (k+1)).all p=((l.take k).all p && p x):=by
 rw [List.take_add_one,h,List.all_append];simp
theorem all_missM {α:Type} (p:α->Bool) (l:List α) (k:Nat) (x:α) (h:l[k]?=some x) (hp:p x=false):l.all p=false:=by
 rw [List.all_eq_false];exact ⟨x,List.mem_of_getElem? h,by rw [hp];simp⟩
theorem flatE_arr {f:FlatD} (h:f.arrays.all arrOk=false):flatE f=2:=by unfold flatE flatOk;rw [h];simp
theorem flatE_code {f:FlatD} (h:f.code.all (codeOk f)=false):flatE f=2:=by unfold flatE flatOk;rw [h];simp
theorem flatE_last {f:FlatD} (h0:headOk f=true) (h1:f.arrays.all arrOk=true) (h2:f.code.all (codeOk f)=true):flatE f=if (lastK f == 9 || lastK f == 7) then 0 else 2:=by
 unfold flatE flatOk;rw [h0,h1,h2];rfl
theorem arr_cases (n:Int):(arrOk n=false/\n<1/\decide (n<1)=true) \/ (arrOk n=false/\64<n/\decide (n<1)=false) \/ (arrOk n=true/\1<=n/\n<=64/\decide (n<1)=false):=by
 unfold arrOk
 rcases Int.lt_or_le n 1 with h|h
 ·exact .inl ⟨by rw [decide_eq_false (by omega)];rfl,h,decide_eq_true h⟩
 ·rcases Int.lt_or_le 64 n with h'|h'
  ·exact .inr (.inl ⟨by rw [decide_eq_false (p:=n<=64) (by omega),Bool.and_false],h',decide_eq_false (by omega)⟩)
  ·exact .inr (.inr ⟨by rw [decide_eq_true h,decide_eq_true h'];rfl,h,h',decide_eq_false (by omega)⟩)
theorem last_at {f:FlatD} (h:1<=f.code.length):∃ c,f.code[f.code.length - 1]?=some c/\lastK f=c.kind:=by
 refine ⟨_,lG (by omega),?_⟩
 unfold lastK
 rw [List.getLast?_eq_getElem?,lG (by omega)]
theorem flatCheck (f:FlatD) (cv sv av kv:Value) (w:World) (hF:RdFlat none w f cv sv av kv) (hL:LaidM w) :
  Calls Tryz.prog 75 #[flatV f cv sv av kv] w fun e w'=>e=.returned (.int .i64 (flatE f))/\Below w.heap.size w w':=by
 obtain ⟨hF1,hF2,hF3,hF4,⟨hF5,hF6⟩,⟨hF7,hF8⟩⟩:=id hF
 obtain ⟨ca,cc,rfl⟩:=hF1.is
 obtain ⟨sa,sc,rfl⟩:=hF2.is
 obtain ⟨aa,ac,rfl⟩:=hF3.is
 obtain ⟨ka,kc,rfl⟩:=hF4.is
 have l3:=hF3.size
 have l4:=hF4.size
 have HF:=Hd hF
 have HL:=Hd hL
 have hb0:Hid (Below w.heap.size w (w.alloc (.cells #[.int .i64 f.width,.int .i64 f.regs,.slice ca f.chans.length cc,.slice sa f.sites.length sc,.slice aa f.arrays.length ac,.slice ka f.code.length kc] 62))):=(bR _ _).alloc (nR _) _
 have g0:=heap_alloc_new w (.cells #[.int .i64 f.width,.int .i64 f.regs,.slice ca f.chans.length cc,.slice sa f.sites.length sc,.slice aa f.arrays.length ac,.slice ka f.code.length kc] 62)
 have C1:=Hd (fun w' (hb:Below w.heap.size w w')=>flatNames _ f.chans w' (hF1.keep hb))
 have C2:=Hd (fun w' (hb:Below w.heap.size w w')=>flatNames _ f.sites w' (hF2.keep hb))
 clear hF hL hF1 hF2 hF3 hF4
 generalize hres:flatE f=res at *
 have HR:=Hd hres
 clear hres
 rcases head_cases f with ⟨q,h1,h2⟩|⟨q,h1,h2,h3⟩|⟨q,h1,h2,h3,h4⟩|⟨q,h1,h2,h3,h4,h5⟩|⟨q,h1,h2,h3,h4,h5⟩|⟨q,h1,h2,h3,h4,h5,h6⟩|⟨q,h1,h2,h3,h4,h5,h6,h7⟩|⟨q,h1,h2,h3,h4,h5,h6,h7,h8⟩|⟨q,h1,h2,h3,h4,h5,h6,h7,h8,h9⟩|⟨q,h1,h2,h3,h4,h5,h6,h7,h8,h9⟩
 all_goals
  go_enter Tryz.func75,Tryz.ntmps75
  go_upto_region 1 with fail
  have d0:=row_of g0 0 (.int .i64 f.width) rfl
  have d1:=row_of g0 1 (.int .i64 f.regs) rfl
  have d2:=row_of g0 2 (.slice ca f.chans.length cc) rfl
  have d3:=row_of g0 3 (.slice sa f.sites.length sc) rfl
  have d4:=row_of g0 4 (.slice aa f.arrays.length ac) rfl
  have d5:=row_of g0 5 (.slice ka f.code.length kc) rfl
  clear g0
  generalize (w.alloc (.cells #[.int .i64 f.width,.int .i64 f.regs,.slice ca f.chans.length cc,.slice sa f.sites.length sc,.slice aa f.arrays.length ac,.slice ka f.code.length kc] 62))=W0 at *
 ·have HV:=Hd (HR.out.symm.trans (flatE_head q))
  clear q
  go_wp2
  go_ret
  exact ⟨by rw [HV.out];rfl,hb0.out⟩
 ·have HV:=Hd (HR.out.symm.trans (flatE_head q))
  clear q
  go_wp2
  go_ret
  exact ⟨by rw [HV.out];rfl,hb0.out⟩
 ·have HV:=Hd (HR.out.symm.trans (flatE_head q))
  clear q
  go_wp2
  go_ret
  exact ⟨by rw [HV.out];rfl,hb0.out⟩
 ·have HV:=Hd (HR.out.symm.trans (flatE_head q))
  clear q
  go_wp2
  go_ret
  exact ⟨by rw [HV.out];rfl,hb0.out⟩
 ·have HV:=Hd (HR.out.symm.trans (flatE_head q))
  rw [h5] at C1
  clear q h5
  go_wp2_with (go_at_call 107;refine (C1.out _ hb0.out).mono ?_;rintro e w1 ⟨rfl,hb1⟩)
  go_ret
  exact ⟨by rw [HV.out];rfl,bcomp hb0.out hb1⟩
 ·have HV:=Hd (HR.out.symm.trans (flatE_head q))
  rw [h5] at C1
  rw [h6] at C2
  clear q h5 h6
  go_wp2_with (first
   | (go_at_call_of 107 (Value.slice ca f.chans.length cc);refine (C1.out _ hb0.out).mono ?_;rintro e w1 ⟨rfl,hb1⟩;have d3:=cell_keep hb1 d3)
   | (go_at_call_of 107 (Value.slice sa f.sites.length sc);refine (C2.out _ (bcomp hb0.out hb1)).mono ?_;rintro e w2 ⟨rfl,hb2⟩))
  go_ret
  exact ⟨by rw [HV.out];rfl,bcomp (bcomp hb0.out hb1) hb2⟩
 ·have HV:=Hd (HR.out.symm.trans (flatE_head q))
  rw [h5] at C1
  rw [h6] at C2
  clear q h5 h6
  have m1:(32:Int)<(f.arrays.length:Int):=by omega
  go_wp2_with (first
   | (go_at_call_of 107 (Value.slice ca f.chans.length cc);refine (C1.out _ hb0.out).mono ?_;rintro e w1 ⟨rfl,hb1⟩;have d2:=cell_keep hb1 d2;have d3:=cell_keep hb1 d3;have d4:=cell_keep hb1 d4;have d5:=cell_keep hb1 d5)
   | (go_at_call_of 107 (Value.slice sa f.sites.length sc);refine (C2.out _ (bcomp hb0.out hb1)).mono ?_;rintro e w2 ⟨rfl,hb2⟩;have d4:=cell_keep hb2 d4;have d5:=cell_keep hb2 d5))
  go_ret
  exact ⟨by rw [HV.out];rfl,bcomp (bcomp hb0.out hb1) hb2⟩
 ·have HV:=Hd (HR.out.symm.trans (flatE_head q))
  rw [h5] at C1
  rw [h6] at C2
  clear q h5 h6
  have m1:(f.arrays.length:Int)<=32:=by omega
  have m2:(f.code.length:Int)<1:=by omega
  have m3:decide ((32:Int)<(f.arrays.length:Int))=false:=decide_eq_false (by omega)
  go_wp2_with (first
   | (go_at_call_of 107 (Value.slice ca f.chans.length cc);refine (C1.out _ hb0.out).mono ?_;rintro e w1 ⟨rfl,hb1⟩;have d2:=cell_keep hb1 d2;have d3:=cell_keep hb1 d3;have d4:=cell_keep hb1 d4;have d5:=cell_keep hb1 d5)
   | (go_at_call_of 107 (Value.slice sa f.sites.length sc);refine (C2.out _ (bcomp hb0.out hb1)).mono ?_;rintro e w2 ⟨rfl,hb2⟩;have d4:=cell_keep hb2 d4;have d5:=cell_keep hb2 d5))
  go_ret
  exact ⟨by rw [HV.out];rfl,bcomp (bcomp hb0.out hb1) hb2⟩
 ·have HV:=Hd (HR.out.symm.trans (flatE_head q))
  rw [h5] at C1
  rw [h6] at C2
  clear q h5 h6
  have m1:(f.arrays.length:Int)<=32:=by omega
  have m2:(1:Int)<=(f.code.length:Int):=by omega
  have m4:(4096:Int)<(f.code.length:Int):=by omega
  have m3:decide ((32:Int)<(f.arrays.length:Int))=false:=decide_eq_false (by omega)
  have m5:decide ((f.code.length:Int)<1)=false:=decide_eq_false (by omega)
  go_wp2_with (first
   | (go_at_call_of 107 (Value.slice ca f.chans.length cc);refine (C1.out _ hb0.out).mono ?_;rintro e w1 ⟨rfl,hb1⟩;have d2:=cell_keep hb1 d2;have d3:=cell_keep hb1 d3;have d4:=cell_keep hb1 d4;have d5:=cell_keep hb1 d5)
   | (go_at_call_of 107 (Value.slice sa f.sites.length sc);refine (C2.out _ (bcomp hb0.out hb1)).mono ?_;rintro e w2 ⟨rfl,hb2⟩;have d4:=cell_keep hb2 d4;have d5:=cell_keep hb2 d5))
  go_ret
  exact ⟨by rw [HV.out];rfl,bcomp (bcomp hb0.out hb1) hb2⟩
 ·rw [h5] at C1
  rw [h6] at C2
  clear h5 h6
  have m1:(f.arrays.length:Int)<=32:=by omega
  have m2:(1:Int)<=(f.code.length:Int):=by omega
  have m4:(f.code.length:Int)<=4096:=by omega
  have m3:decide ((32:Int)<(f.arrays.length:Int))=false:=decide_eq_false (by omega)
  have m5:decide ((f.code.length:Int)<1)=false:=decide_eq_false (by omega)
  have m6:decide ((4096:Int)<(f.code.length:Int))=false:=decide_eq_false (by omega)
  have Q:=Hd q
  clear q
  go_wp2_with (first
   | (go_at_call_of 107 (Value.slice ca f.chans.length cc);refine (C1.out _ hb0.out).mono ?_;rintro e w1 ⟨rfl,hb1⟩;have d2:=cell_keep hb1 d2;have d3:=cell_keep hb1 d3;have d4:=cell_keep hb1 d4;have d5:=cell_keep hb1 d5)
   | (go_at_call_of 107 (Value.slice sa f.sites.length sc);refine (C2.out _ (bcomp hb0.out hb1)).mono ?_;rintro e w2 ⟨rfl,hb2⟩;have d0:=cell_keep hb2 (cell_keep hb1 d0);have d1:=cell_keep hb2 (cell_keep hb1 d1);have d2:=cell_keep hb2 d2;have d3:=cell_keep hb2 d3;have d4:=cell_keep hb2 d4;have d5:=cell_keep hb2 d5;have hw2:=Hd (bcomp (bcomp hb0.out hb1) hb2)))
  go_loopw [5,60] (fun _ i wr=>∃ k:Nat,k<=f.arrays.length/\i=.int .i64 k/\Hid ((f.arrays.take k).all arrOk=true)/\Below w2.heap.size w2 wr) (fun _ i _=>f.arrays.length - (intOf i).toNat)
  case atStart=>exact ⟨0,Nat.zero_le _,rfl,rfl,bR _ _⟩
  case round=>
   obtain ⟨k,hk,rfl,hq,hb⟩:=hrel
   by_cases hlt:k<f.arrays.length
   ·obtain ⟨x,hx⟩:∃ x,f.arrays[k]?=some x:=⟨_,lG hlt⟩
    obtain ⟨b,o,rfl,_,c0,hx1⟩:=atInt (HF.out.2.2.1.keep (bcomp hw2.out hb)) hx
    have HS:=Hd (all_take_step arrOk f.arrays k x hx)
    have HM:=Hd (fun h=>HR.out.symm.trans (flatE_arr (all_missM arrOk f.arrays k x hx h)))
    have hi1:(k:Int)<(f.arrays.length:Int):=by omega
    obtain ⟨hx0,hx2⟩:=hx1
    clear hx
    rcases arr_cases x with ⟨a1,a2,a3⟩|⟨a1,a2,a3⟩|⟨a1,a2,a3,a4⟩
    ·have HV:=Hd (HM.out a1)
     clear a1
     go_wp2
     go_ret
     exact ⟨by rw [HV.out];rfl,bcomp hw2.out hb⟩
    ·have HV:=Hd (HM.out a1)
     clear a1
     go_wp2
     go_ret
     exact ⟨by rw [HV.out];rfl,bcomp hw2.out hb⟩
    ·have HN:Hid ((f.arrays.take (k+1)).all arrOk=true):=by show _=_;rw [HS.out,hq.out,a1];rfl
     clear a1
     go_wp2
     go_roundw
     case rel=>exact ⟨k+1,by omega,by go_num,HN,hb⟩
     case measure=>simp [intOf];omega
   ·obtain rfl:k=f.arrays.length:=by omega
    have hq2:=Hd (show f.arrays.all arrOk=true by have:=hq.out;rwa [List.take_length] at this)
    have d0:=cell_keep hb d0
    have d1:=cell_keep hb d1
    have d2:=cell_keep hb d2
    have d3:=cell_keep hb d3
    have d4:=cell_keep hb d4
    have d5:=cell_keep hb d5
    have hw3:=Hd (bcomp hw2.out hb)
    clear hb hq hlt
    obtain ⟨wo,rfl⟩:∃ x:World,x=wr:=⟨_,rfl⟩
    go_wp2
    go_loopw [7,74] (fun _ i wr=>∃ k:Nat,k<=f.code.length/\i=.int .i64 k/\Hid ((f.code.take k).all (codeOk f)=true)/\Below wo.heap.size wo wr) (fun _ i _=>f.code.length - (intOf i).toNat)
    case atStart=>exact ⟨0,Nat.zero_le _,rfl,rfl,bR _ _⟩
    case round=>
     obtain ⟨k,hk,rfl,hq,hb⟩:=hrel
     have d0:=cell_keep hb d0
     have d1:=cell_keep hb d1
     have d2:=cell_keep hb d2
     have d3:=cell_keep hb d3
     have d4:=cell_keep hb d4
     have d5:=cell_keep hb d5
     have hwr:=Hd (bcomp hw3.out hb)
     by_cases hlt:k<f.code.length
     ·obtain ⟨x,hx⟩:∃ x,f.code[k]?=some x:=⟨_,lG hlt⟩
      have hRk:=HF.out.2.2.2.1.keep hwr.out
      obtain ⟨b,o,rfl,_,c0,c1,c2,c3,c4,c5,c6,c7,hx1⟩:=atCode hRk hx
      have HC:=Hd (fun w' (hb':Below wr.heap.size wr w')=>flatInstr f x (.slice ca f.chans.length cc) (.slice sa f.sites.length sc) (.slice aa f.arrays.length ac) (.slice (some ⟨b,o,none⟩) f.code.length kc) w' (HF.out.keep (bcomp hwr.out hb')) h1 h2 hx1 (HL.out.keep (bcomp hwr.out hb')))
      have HS:=Hd (all_take_step (codeOk f) f.code k x hx)
      have HM:=Hd (fun h=>HR.out.symm.trans (flatE_code (all_missM (codeOk f) f.code k x hx h)))
      have hi1:(k:Int)<(f.code.length:Int):=by omega
      have hA:Below wr.heap.size wr (wr.alloc (.cells #[.int .u8 x.kind,.int .u8 x.op,.int .i64 x.dst,.int .i64 x.n,.int .i64 x.a.reg,.int .u64 x.a.num,.int .i64 x.b.reg,.int .u64 x.b.num] 58)):=(bR _ _).alloc (nR _) _
      have HA:=Hd hA
      have hs1:w.heap.size<wr.heap.size:=block_lt_of_cell d0
      clear hx hRk hA hx1
      cases hok:codeOk f x
      ·have HV:=Hd (HM.out hok)
       rw [hok] at HC
       clear hok
       go_wp2_with (go_at_call 108;refine (HC.out _ HA.out).mono ?_;rintro e w4 ⟨rfl,hb4⟩)
       go_ret
       exact ⟨by rw [HV.out];rfl,bcomp (bcomp hwr.out HA.out) hb4⟩
      ·have HN:Hid ((f.code.take (k+1)).all (codeOk f)=true):=by show _=_;rw [HS.out,hq.out,hok];rfl
       rw [hok] at HC
       clear hok
       go_wp2_with (go_at_call 108;refine (HC.out _ HA.out).mono ?_;rintro e w4 ⟨rfl,hb4⟩)
       go_roundw
       case rel=>exact ⟨k+1,by omega,by go_num,HN,bcomp (bcomp hb HA.out) hb4⟩
       case measure=>simp [intOf];omega
     ·obtain rfl:k=f.code.length:=by omega
      have hq3:=show f.code.all (codeOk f)=true by have:=hq.out;rwa [List.take_length] at this
      obtain ⟨x,hx,hlast⟩:=last_at h8
      have HE:=Hd (HR.out.symm.trans (flatE_last Q.out hq2.out hq3))
      have hRk:=HF.out.2.2.2.1.keep hwr.out
      obtain ⟨b,o,rfl,_,c0,c1,c2,c3,c4,c5,c6,c7,hx1⟩:=atCode hRk hx
      have hi1:((f.code.length:Int) - 1)<(f.code.length:Int):=by omega
      have hi2:((f.code.length:Int) - 1).toNat=f.code.length - 1:=by omega
      clear hx hRk hx1 hq hq3 c1 c2 c3 c4 c5 c6 c7
      cases e9:(x.kind == 9)
      ·have n9:(x.kind != 9)=true:=by rw [bne,e9];rfl
       cases e7:(x.kind == 7)
       ·have n7:(x.kind != 7)=true:=by rw [bne,e7];rfl
        have HV:Hid (res=2):=by show _=_;rw [HE.out,hlast,e9,e7];rfl
        clear hlast
        go_wp2
        go_ret
        exact ⟨by rw [HV.out];rfl,hwr.out⟩
       ·have n7:(x.kind != 7)=false:=by rw [bne,e7];rfl
        have HV:Hid (res=0):=by show _=_;rw [HE.out,hlast,e9,e7];rfl
        clear hlast
        go_wp2
        go_ret
        exact ⟨by rw [HV.out];rfl,hwr.out⟩
      ·have n9:(x.kind != 9)=false:=by rw [bne,e9];rfl
       have HV:Hid (res=0):=by show _=_;rw [HE.out,hlast,e9];rfl
       clear hlast
       go_wp2
       go_ret
       exact ⟨by rw [HV.out];rfl,hwr.out⟩
open Go.ChangeShapes Go.WideShapes Go.ChangeAt Go.RowKit
end Go.Proofs.YtgllkgedjplpdaaGreatDoor
