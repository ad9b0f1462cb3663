/- Contract of the reference's Step. Conditions: the run lies at the pointer, it is one that runs come to. -/
import Derived.Test.YtkjkpddajjmloaaGreatDoorRMb
import Derived.Test.YtkjkpddajjmloaaGreatDoorOwn
set_option linter.all false
set_option maxRecDepth 1000000
set_option maxHeartbeats 6400000
namespace Go.Proofs.YtkjkpddajjmloaaGreatDoor
open Go.ChangeShapes Go.WideShapes Go.ChangeAt Go.RowKit
open Go.Lib (hid)
theorem gsRMc {α:Type} {a:Array α} {i:Nat} {v:α} (h:a[i]?=some v):i<a.size:=(Array.getElem?_eq_some_iff.1 h).1
theorem lgRMc {α:Type} {l:List α} {i:Nat} (h:i<l.length):l[i]?=some l[i]:=List.getElem?_eq_getElem h
theorem postR_in {G G' I:Nat→Prop} {w w':World} {bm:Nat} {f:FlatD} {ins:List (List Int)} {m:MachD} {c2 c3 c4 kv iv av ov rv bv:Value} {gb db:Nat} {bs:List Nat} (h:RefAt G' I w' bm f ins m c2 c3 c4 kv iv av ov rv bv gb db bs) (k:∀ b,G' b→Grow G w w' b) (t:Turn G w w'):PostR G w w' bm f ins m:=
 ⟨⟨I,c2,c3,c4,kv,iv,av,ov,rv,bv,gb,db,bs,h.mono k⟩,t⟩
theorem bR_true {k op:Int} (h:bR k op=true) (ho:k=1→2≤op∧op≤20):bK k op=true:=by
 simp only[bR,Bool.or_eq_true,Bool.and_eq_true,beq_iff_eq] at h
 simp only[bK,Bool.or_eq_true,Bool.and_eq_true,beq_iff_eq,decide_eq_true_eq]
 rcases h with h|⟨h1,h2⟩
 ·exact .inl h
 ·refine .inr ⟨h1,?_⟩
  obtain⟨a,b⟩:=ho h1
  by_cases h4:4≤op
  ·exact h4
  ·rcases (show op=2 ∨ op=3 by omega) with rfl|rfl
   ·exact absurd h2 (by decide)
   ·exact absurd h2 (by decide)
theorem refStep {G I:Nat→Prop} {w:World} {bm:Nat} {f:FlatD} {ins:List (List Int)} {m:MachD} {c2 c3 c4 kv iv av ov rv bv:Value} {gb db:Nat} {bs:List Nat} (h:RefAt G I w bm f ins m c2 c3 c4 kv iv av ov rv bv gb db bs) (hh:HeadP f) (g:Good f m) (hins:ins.length≤1000) (hGb:∀ b,G b→b<w.heap.size) (hfew:m.t.steps<1000000) (hp0:0≤m.pc) (hp1:m.pc<f.code.length) :
  Calls Tryz.prog 62 #[.pointer (some ⟨bm,0,none⟩)] w fun e w'=>e=.returned (.bool (m.t.status==2))∧PostR G w w' bm f ins (stepM f ins m):=by
 by_cases hs:m.t.status=2
 rotate_left
 ·have hd:(m.t.status != 2)=true:=by simpa using hs
  have hd2:(m.t.status==2)=false:=by simpa using hs
  have c10:=row_of h.box 10 _ rfl
  have H:=hid (postR_of h (Turn.refl G w))
  have HE:Hid (stepM f ins m=m):=step_end hs
  rw[hd2]
  clear h hs hd2
  go_enter Tryz.func62,Tryz.ntmps62
  go_wp2
  go_ret
  exact⟨rfl,by rw[HE.out];exact H.out⟩
 obtain⟨p,hp⟩:∃ p:Nat,m.pc=p:=⟨m.pc.toNat,by omega⟩
 obtain⟨c,hc⟩:∃ c,f.code[p]?=some c:=⟨_,lgRMc (by omega)⟩
 have hcp:=codeP (hh.codes c (List.mem_of_getElem? hc))
 have hci:CodeIn c:=h.mem.code.ok c (List.mem_of_getElem? hc)
 have hst:=g.steps
 have hkm:=hcp.kind
 have hkn:=hci.1.1
 obtain⟨cck,co,cd,cn,cra,crb⟩:=c
 obtain⟨kk,rfl⟩:∃ kk:Nat,cck=kk:=⟨cck.toNat,by simp only at hkn;omega⟩
 have hk9:kk≤9:=by simp only at hkm;omega
 clear hkm hkn
 have HRES:Hid (stepM f ins m=doM f ins ⟨kk,co,cd,cn,cra,crb⟩ (tickM m) kk):=by
  show _=_
  rw[stepM,if_pos hs,hp,Int.toNat_natCast,hc]
  rfl
 have hlen:=hh.code1
 obtain⟨ka,kc,rfl⟩:=h.mem.code.is
 obtain⟨kb,ko,rfl,_,e0,e1,e2,e3,e4,e5,e6,e7,_⟩:=atCode h.mem.code hc
 have c10:w.cell? ⟨bm,10,none⟩=some (.int .u8 2):=by rw[← hs];exact row_of h.box 10 _ rfl
 have hpl:(p:Int)<(f.code.length:Int):=by omega
 have hs':(m.t.status==2)=true:=by simp[hs]
 rw[hs']
 have hrl:m.regs.length≤2097152:=by have:=g.regs;have:=hh.r1;omega
 have HV:=hid (fun (r:RefD) (has:Bool) (h1:refOk f r has=true) (h2:InI64 r.reg) (h3:InU64 r.num) (h4:has=true)=>refIn_of hh g h1 h2 h3 (.inl h4))
 have H:=hid h
 have HP:=hid hp
 have HCP:=hid hcp
 have HCI:=hid hci
 have HG:=hid g
 have HH:=hid hh
 have HRL:=hid hrl
 clear h hc hp hcp hci hh g hs hs' hp0 hp1
 go_enter Tryz.func62,Tryz.ntmps62
 go_upto_region 3 with fail
 have l5:=ext_cell (row_of H.out.box 5 _ rfl)
 have l9:∀ x,(ext w x).cell? ⟨bm,9,none⟩=some (.int .i64 p):=by rw[← HP.out];exact ext_cell (row_of H.out.box 9 _ rfl)
 have f0:=ext_cell e0
 have f1:=ext_cell e1
 have f2:=ext_cell e2
 have f3:=ext_cell e3
 have f4:=ext_cell e4
 have f5:=ext_cell e5
 have f6:=ext_cell e6
 have f7:=ext_cell e7
 refine wp_region_mix (.one [0,1,2,3,4,5,6,7,8,9,10] 11 (tailOf [12])) (fun j=>decide (12≤j)) (by kernel_rfl) (by kernel_rfl) rfl (by kernel_rfl) (fun _ d _ _ _ h=>by cases d <;> exact h) ?_
 have HBd:Hid (Below w.heap.size w w.drew):=(Below.refl _ _).drew
 generalize w.drew=wn at *
 refine mix_one (by simp only[opsOf,List.filterMap_cons,List.filterMap_nil,List.getElem?_toArray,List.getElem?_cons_succ,List.getElem?_cons_zero];rfl) ⟨_,ext_of HBd.out⟩ ?_
 change wpQuiet _ _ _ _ [_,_,_,_,_,_,_,_,_,_,_] _
 (repeat (go_big_quiet_step (fail)))
 refine wpQuiet_nil ?_
 clear l5 l9 f0 f1 f2 f3 f4 f5 f6 f7 e0 e1 e2 e3 e4 e5 e6 e7 c10
 refine mix_step rfl ?_
 go_wp2_with fail
 refine⟨⟨_,ext_of (HBd.out.alloc HBd.out.size _)⟩,?_⟩
 refine mix_tail [12] [_] _ _ rfl rfl ?_
 go_upto_region 4 with fail
 have hal:=HBd.out.alloc HBd.out.size (.cells #[.int .u8 kk,.int .u8 co,.int .i64 cd,.int .i64 cn,.int .i64 cra.reg,.int .u64 cra.num,.int .i64 crb.reg,.int .u64 crb.num] 91)
 have HGC:=hid (heap_alloc_new wn (.cells #[.int .u8 kk,.int .u8 co,.int .i64 cd,.int .i64 cn,.int .i64 cra.reg,.int .u64 cra.num,.int .i64 crb.reg,.int .u64 crb.num] 91))
 have H1:=hid (H.out.keep hal)
 have T1:=hid (Turn.of_below (B:=G) hal)
 have hcbw:w.heap.size≤wn.heap.size:=HBd.out.size
 clear hal HBd
 generalize wn.alloc (.cells #[.int .u8 kk,.int .u8 co,.int .i64 cd,.int .i64 cn,.int .i64 cra.reg,.int .u64 cra.num,.int .i64 crb.reg,.int .u64 crb.num] 91)=W at *
 generalize wn.heap.size=cb at *
 have c11:=row_of H1.out.box 11 _ rfl
 have f11:=frozen_of_row W bm 11 _ _ H1.out.box
 have H2:=hid (H1.out.setSteps (m.t.steps+1))
 have T2:=hid (T1.out.setCell (a:=⟨bm,11,none⟩) H1.out.bG.1 (.int .i64 (m.t.steps+1)))
 have hne:cb≠bm:=row_ne HGC.out H1.out.box (by decide)
 have HG2:=hid ((heap_setCell_other W ⟨bm,11,none⟩ cb (.int .i64 (m.t.steps+1)) (by simpa using hne)).trans HGC.out)
 go_upto_region 6 with fail
 clear c11 f11 hne HGC H1 T1
 generalize W.setCell ⟨bm,11,none⟩ (.int .i64 (m.t.steps+1))=W2 at *
 obtain⟨m1,hm1⟩:∃ m1:MachD,m1={ m with t:={ m.t with steps:=m.t.steps+1 } }:=⟨_,rfl⟩
 rw[← hm1] at H2
 have HM1:=hid hm1
 have hrl1:m1.regs.length≤2097152:=by rw[hm1];exact HRL.out
 have hva:∀ r,RefIn m r→RefIn m1 r:=fun r hr=>by rw[hm1];exact hr
 have HVA:=hid hva
 clear hm1 hva
 have HFI:=hid (fun (z:World) (hz:Below W2.heap.size W2 z)=>refFields f ⟨kk,co,cd,cn,cra,crb⟩ c2 c3 c4 (.slice (some ⟨kb,ko,none⟩) f.code.length kc) z ⟨(H2.out.flat.1.keep hz).forget,(H2.out.flat.2.1.keep hz).forget,(H2.out.flat.2.2.1.keep hz).forget,(H2.out.flat.2.2.2.1.keep hz).forget,H2.out.flat.2.2.2.2⟩ HCI.out)
 obtain⟨xa2,xc2,rfl⟩:=H2.out.flat.1.is
 obtain⟨xa3,xc3,rfl⟩:=H2.out.flat.2.1.is
 obtain⟨xa4,xc4,rfl⟩:=H2.out.flat.2.2.1.is
 obtain⟨ud,hud⟩:∃ b,dstK (kk:Int)=b:=⟨_,rfl⟩
 obtain⟨un,hun⟩:∃ b,nK (kk:Int)=b:=⟨_,rfl⟩
 obtain⟨ua,hua⟩:∃ b,aK (kk:Int)=b:=⟨_,rfl⟩
 obtain⟨ub,hub⟩:∃ b,bR (kk:Int) co=b:=⟨_,rfl⟩
 obtain⟨um,hum⟩:∃ b,mostR f (kk:Int)=b:=⟨_,rfl⟩
 obtain⟨uk,huk⟩:∃ b,isK (kk:Int) co=b:=⟨_,rfl⟩
 simp only[hud,hun,hua,hub,hum,huk] at HFI
 have HUA:=hid hua
 have HUB:=hid hub
 clear hud hun hua hub hum huk
 go_cut [6] from 38 to 47 (fun v wx=>∃ g:Nat,v=.pointer (some ⟨g,0,none⟩)∧W2.heap.size≤g∧wx.heap[g]?=some (.cells #[.bool ud,.bool un,.bool ua,.bool ub,.int .i64 um] 148 (0,0))∧Below W2.heap.size W2 wx)
 case first=>
  refine wp_region_mix (.two [0,1,2,3,4] 5 9 (.one [6,7,8] 9 (.one [] 10 (.one [] 11 (.fin [])))) (.one [] 5 (.one [6,7,8] 10 (.one [] 11 (.fin []))))) (fun _=>false) (by kernel_rfl) (by kernel_rfl) rfl (by kernel_rfl) (fun _ d _ _ _ h=>by cases d <;> exact h) ?_
  have l0:=ext_cell (row_of H2.out.box 0 _ rfl)
  have l1:=ext_cell (row_of H2.out.box 1 _ rfl)
  have l2:=ext_cell (row_of H2.out.box 2 _ rfl)
  have l3:=ext_cell (row_of H2.out.box 3 _ rfl)
  have l4:=ext_cell (row_of H2.out.box 4 _ rfl)
  have l5:=ext_cell (row_of H2.out.box 5 _ rfl)
  have r0:=ext_cell (row_of HG2.out 0 (.int .u8 kk) rfl)
  have r1:=ext_cell (row_of HG2.out 1 (.int .u8 co) rfl)
  have r2:=ext_cell (row_of HG2.out 2 (.int .i64 cd) rfl)
  have r3:=ext_cell (row_of HG2.out 3 (.int .i64 cn) rfl)
  have r4:=ext_cell (row_of HG2.out 4 (.int .i64 cra.reg) rfl)
  have r5:=ext_cell (row_of HG2.out 5 (.int .u64 cra.num) rfl)
  have r6:=ext_cell (row_of HG2.out 6 (.int .i64 crb.reg) rfl)
  have r7:=ext_cell (row_of HG2.out 7 (.int .u64 crb.num) rfl)
  have HB0:Hid (Below W2.heap.size W2 W2.drew):=(Below.refl _ _).drew
  generalize W2.drew=wn at *
  refine mix_two (by simp only[opsOf,List.filterMap_cons,List.filterMap_nil,List.getElem?_toArray,List.getElem?_cons_succ,List.getElem?_cons_zero];rfl) ⟨_,ext_of HB0.out⟩ ?_
  change wpQuiet _ _ _ _ [_,_,_,_,_] _
  (repeat (go_big_quiet_step (fail)))
  clear l0 l1 l2 l3 l4 l5 r0 r1 r2 r3 r4 r5 r6 r7
  refine wpQuiet_nil ⟨?_,?_⟩
  ·refine mix_step rfl ?_
   go_wp2_with (go_at_call 83;refine (HFI.out _ HB0.out).mono ?_;rintro e z ⟨rfl,hzz⟩)
   have HB1:=hid (bcomp HB0.out hzz)
   clear hzz
   (first|refine⟨fun _=>⟨_,ext_of HB1.out⟩,?_⟩|refine⟨⟨_,ext_of HB1.out⟩,?_⟩)
   refine mix_one (by simp only[opsOf,List.filterMap_cons,List.filterMap_nil,List.getElem?_toArray,List.getElem?_cons_succ,List.getElem?_cons_zero];rfl) ⟨_,ext_of HB1.out⟩ ?_
   change wpQuiet _ _ _ _ [_,_,_] _
   (repeat (go_big_quiet_step (fail)))
   refine wpQuiet_nil ?_
   refine mix_step rfl ?_
   go_wp2_with fail
   have HN:=hid (heap_alloc_new z (.cells noUses 148))
   have HB2:=hid (HB1.out.alloc HB1.out.size (.cells noUses 148))
   have hlg:=HB1.out.size
   (first|refine⟨fun _=>⟨_,ext_of HB2.out⟩,?_⟩|refine⟨⟨_,ext_of HB2.out⟩,?_⟩)
   refine mix_now ?_
   refine mix_step rfl ?_
   go_wp2_with (refine wpList_store_row rfl 148 (.tmp 6) (.tmp 45) rfl z.heap.size #[.bool ud,.bool un,.bool ua,.bool ub,.int .i64 um] rfl rfl 148 noUses ?hu1 (by as_aux_lemma=>kernel_rfl) (by as_aux_lemma=>kernel_rfl) (by as_aux_lemma=>kernel_rfl) ?_;exact HN.out)
   have HB3:=hid (below_row HB2.out hlg #[.bool ud,.bool un,.bool ua,.bool ub,.int .i64 um])
   have HG3:Hid (((z.alloc (.cells noUses 148)).setRow z.heap.size #[.bool ud,.bool un,.bool ua,.bool ub,.int .i64 um]).heap[z.heap.size]?=some (.cells #[.bool ud,.bool un,.bool ua,.bool ub,.int .i64 um] 148 (0,0))):=setRow_heap _ _ _ _ _ _ HN.out
   (first|refine⟨fun _=>⟨_,ext_of HB3.out⟩,?_⟩|refine⟨⟨_,ext_of HB3.out⟩,?_⟩)
   refine mix_now ?_
   refine mix_step rfl ?_
   simp only[Act.put,List.setIfInBounds_toArray,List.set_cons_succ,List.set_cons_zero,List.getElem_toArray,List.getElem_cons_succ,List.getElem_cons_zero]
   go_wp2_with fail
   refine And.intro (fun _=>⟨_,ext_of HB3.out⟩) ?_
   simp only[mixRun,readRun]
   go_wp2_with fail
   go_meet
   exact⟨z.heap.size,rfl,hlg,HG3.out,HB3.out⟩
  ·refine mix_step rfl ?_
   go_wp2_with fail
   have HN0:=hid (heap_alloc_new wn (.cells noUses 148))
   have HB1:=hid (HB0.out.alloc HB0.out.size (.cells noUses 148))
   have hlg:=HB0.out.size
   (first|refine⟨fun _=>⟨_,ext_of HB1.out⟩,?_⟩|refine⟨⟨_,ext_of HB1.out⟩,?_⟩)
   generalize wn.heap.size=ug at *
   generalize wn.alloc (.cells noUses 148)=w1 at *
   refine mix_now ?_
   refine mix_step rfl ?_
   go_wp2_with (go_at_call 83;refine (HFI.out _ HB1.out).mono ?_;rintro e z ⟨rfl,hzz⟩)
   have HB2:=hid (bcomp HB1.out hzz)
   have HN:=hid ((hzz.block _ (gsRMc HN0.out)).trans HN0.out)
   clear hzz
   (first|refine⟨fun _=>⟨_,ext_of HB2.out⟩,?_⟩|refine⟨⟨_,ext_of HB2.out⟩,?_⟩)
   refine mix_one (by simp only[opsOf,List.filterMap_cons,List.filterMap_nil,List.getElem?_toArray,List.getElem?_cons_succ,List.getElem?_cons_zero];rfl) ⟨_,ext_of HB2.out⟩ ?_
   change wpQuiet _ _ _ _ [_,_,_] _
   (repeat (go_big_quiet_step (fail)))
   refine wpQuiet_nil ?_
   refine mix_step rfl ?_
   go_wp2_with (refine wpList_store_row rfl 148 (.tmp 6) (.tmp 45) rfl ug #[.bool ud,.bool un,.bool ua,.bool ub,.int .i64 um] rfl rfl 148 noUses ?hu2 (by as_aux_lemma=>kernel_rfl) (by as_aux_lemma=>kernel_rfl) (by as_aux_lemma=>kernel_rfl) ?_;exact HN.out)
   have HB3:=hid (below_row HB2.out hlg #[.bool ud,.bool un,.bool ua,.bool ub,.int .i64 um])
   have HG3:Hid ((z.setRow ug #[.bool ud,.bool un,.bool ua,.bool ub,.int .i64 um]).heap[ug]?=some (.cells #[.bool ud,.bool un,.bool ua,.bool ub,.int .i64 um] 148 (0,0))):=setRow_heap _ _ _ _ _ _ HN.out
   (first|refine⟨fun _=>⟨_,ext_of HB3.out⟩,?_⟩|refine⟨⟨_,ext_of HB3.out⟩,?_⟩)
   refine mix_now ?_
   refine mix_step rfl ?_
   simp only[Act.put,List.setIfInBounds_toArray,List.set_cons_succ,List.set_cons_zero,List.getElem_toArray,List.getElem_cons_succ,List.getElem_cons_zero]
   go_wp2_with fail
   refine And.intro (fun _=>⟨_,ext_of HB3.out⟩) ?_
   simp only[mixRun,readRun]
   go_wp2_with fail
   go_meet
   exact⟨ug,rfl,hlg,HG3.out,HB3.out⟩
 case rest=>
  generalize wc=W3 at *
  obtain⟨ug,rfl,hug,hgu,hb3⟩:=hcut
  have H3:=hid (H2.out.keep hb3)
  have HG3:=hid ((hb3.block _ (gsRMc HG2.out)).trans HG2.out)
  have T3:=hid (T2.out.trans (Turn.of_below hb3))
  have HU:=hid hgu
  clear hgu hb3 hug H2 HG2 T2 HFI
  have u2:=row_of HU.out 2 (.bool ua) rfl
  go_upto_if 48 with fail
  obtain⟨va,hva⟩:∃ v:Int,(if ua then valM m1 cra else 0)=v:=⟨_,rfl⟩
  obtain⟨vb,hvb⟩:∃ v:Int,(if ua&&ub then valM m1 crb else 0)=v:=⟨_,rfl⟩
  have u3:=row_of HU.out 3 (.bool ub) rfl
  have HVA2:=hid hva
  have HVB2:=hid hvb
  go_cut [4,5] from 49 to 59 (fun a b wx=>a=.int .u64 va∧b=.int .u64 vb∧Below W3.heap.size W3 wx)
  case first=>
   have r0:=row_of HG3.out 0 (.int .u8 kk) rfl
   have r1:=row_of HG3.out 1 (.int .u8 co) rfl
   have r2:=row_of HG3.out 2 (.int .i64 cd) rfl
   have r3:=row_of HG3.out 3 (.int .i64 cn) rfl
   have r4:=row_of HG3.out 4 (.int .i64 cra.reg) rfl
   have r5:=row_of HG3.out 5 (.int .u64 cra.num) rfl
   have r6:=row_of HG3.out 6 (.int .i64 crb.reg) rfl
   have r7:=row_of HG3.out 7 (.int .u64 crb.num) rfl
   cases ua
   ·obtain rfl:va=0:=by rw[← hva];rfl
    obtain rfl:vb=0:=by rw[← hvb];rfl
    clear hva hvb
    go_wp2
    go_meet
    exact⟨rfl,rfl,Below.refl _ _⟩
   ·have hca:refOk f cra (aK (kk:Int))=true:=HCP.out.a
    rw[HUA.out] at hca
    have hA:=hid (refValue H3.out cra (HVA.out _ (HV.out cra true hca HCI.out.2.2.2.2.1 HCI.out.2.2.2.2.2.1 rfl)) hrl1)
    obtain rfl:va=valM m1 cra:=by rw[← hva];rfl
    clear hca hva
    cases ub
    ·obtain rfl:vb=0:=by rw[← hvb];rfl
     clear hvb
     generalize valM m1 cra=va at *
     go_wp2_with (go_at_call 93;refine hA.out.mono ?_;rintro e z ⟨rfl,hz⟩;have HZ:=hid hz;have u3:=row_of ((HZ.out.block _ (gsRMc HU.out)).trans HU.out) 3 (.bool false) rfl;clear hz)
     go_meet
     exact⟨rfl,rfl,HZ.out⟩
    ·have hcb:refOk f crb (bK (kk:Int) co)=true:=HCP.out.b
     rw[bR_true HUB.out HCP.out.op] at hcb
     have hB:=hid (fun (z:World) (hz:Below W3.heap.size W3 z)=>refValue (H3.out.keep hz) crb (HVA.out _ (HV.out crb true hcb HCI.out.2.2.2.2.2.2.1 HCI.out.2.2.2.2.2.2.2 rfl)) hrl1)
     obtain rfl:vb=valM m1 crb:=by rw[← hvb];rfl
     clear hcb hvb
     generalize valM m1 cra=va at *
     generalize valM m1 crb=vb at *
     go_wp2_with (first|(go_at_call 93;with_reducible refine hA.out.mono ?_;rintro e z ⟨rfl,hz⟩;have HZ:=hid hz;have HGz:=(HZ.out.block _ (gsRMc HG3.out)).trans HG3.out;have u3:=row_of ((HZ.out.block _ (gsRMc HU.out)).trans HU.out) 3 (.bool true) rfl;have r6:=row_of HGz 6 (.int .i64 crb.reg) rfl;have r7:=row_of HGz 7 (.int .u64 crb.num) rfl;clear hz HGz)|(go_at_call 93;with_reducible refine (hB.out z HZ.out).mono ?_;rintro e z2 ⟨rfl,hz⟩;have HZ2:=hid (bcomp HZ.out hz);clear hz))
     go_meet
     exact⟨rfl,rfl,HZ2.out⟩
  case rest=>
   generalize wc=W4 at *
   obtain⟨rfl,rfl,hb4⟩:=hcut
   have H4:=hid (H3.out.keep hb4)
   have HG4:=hid ((hb4.block _ (gsRMc HG3.out)).trans HG3.out)
   have HU4:=hid ((hb4.block _ (gsRMc HU.out)).trans HU.out)
   have T4:=hid (T3.out.trans (Turn.of_below hb4))
   clear hb4 H3 HG3 T3 HU u2 u3 hva hvb
   have c9:W4.cell? ⟨bm,9,none⟩=some (.int .i64 p):=by
    have:=row_of H4.out.box 9 (.int .i64 m1.pc) rfl
    rw[show m1.pc=p by rw[HM1.out];exact HP.out] at this;exact this
   have r0:=row_of HG4.out 0 (.int .u8 kk) rfl
   have r1:=row_of HG4.out 1 (.int .u8 co) rfl
   have r2:=row_of HG4.out 2 (.int .i64 cd) rfl
   have r3:=row_of HG4.out 3 (.int .i64 cn) rfl
   have r4:=row_of HG4.out 4 (.int .i64 cra.reg) rfl
   have r5:=row_of HG4.out 5 (.int .u64 cra.num) rfl
   have r6:=row_of HG4.out 6 (.int .i64 crb.reg) rfl
   have r7:=row_of HG4.out 7 (.int .u64 crb.num) rfl
   go_upto_region 13 with fail
   clear c9
   rcases (show kk=0 ∨ kk=1 ∨ kk=2 ∨ kk=3 ∨ kk=4 ∨ kk=5 ∨ kk=6 ∨ kk=7 ∨ kk=8 ∨ kk=9 by omega) with hk|hk|hk|hk|hk|hk|hk|hk|hk|hk
   ·have hkc:(kk:Int)=0:=by omega
    have q0:((kk:Int)==0)=true:=by simp[hkc]
    have q1:((kk:Int)==1)=false:=by simp[hkc]
    have q2:((kk:Int)==2)=false:=by simp[hkc]
    have q3:((kk:Int)==3)=false:=by simp[hkc]
    have q4:((kk:Int)==4)=false:=by simp[hkc]
    have q5:((kk:Int)==5)=false:=by simp[hkc]
    have q6:((kk:Int)==6)=false:=by simp[hkc]
    have q7:((kk:Int)==7)=false:=by simp[hkc]
    have q8:((kk:Int)==8)=false:=by simp[hkc]
    have q9:((kk:Int)==9)=false:=by simp[hkc]
    have hkt:(kk:Int).toNat=0:=by omega
    have hua:ua=true:=by rw[← HUA.out,hkc];rfl
    have hvv:valM m cra=va:=by have:=HVA2.out;rw[hua,if_pos rfl,HM1.out] at this;exact this
    have hdd:=HCP.out.dst (by show dstK (kk:Int)=true;rw[hkc];rfl)
    obtain⟨d,rfl⟩:∃ d:Nat,cd=d:=⟨cd.toNat,by have:=hdd.1;simp only at this;omega⟩
    have hd1:(d:Int)<(m1.regs.length:Int):=by have:=HG.out.regs;have:=hdd.2;have h0:=HH.out.r0;rw[HM1.out];simp only at *;omega
    obtain⟨y,hy⟩:∃ y,m1.regs[d]?=some y:=⟨_,lgRMc (by omega)⟩
    have HF:Hid (stepM f ins m={ setR m1 d va with pc:=(p:Int)+1 }):=by
     show _=_
     rw[HRES.out,hk,HM1.out,← hvv,← HP.out];rfl
    have HY:=hid hy
    clear hdd hy hvv hua
    clear hkc hkt hk
    go_upto_region 14 with fail
    have l7:=ext_cell (row_of H4.out.box 7 _ rfl)
    have l2:=ext_cell r2
    clear r0 r1 r2 r3 r4 r5 r6 r7
    (refine wp_region_calm_tail 7 (by kernel_rfl) (by kernel_rfl) ?_;simp only[List.take_succ_cons,List.take_zero,List.drop_succ_cons,List.drop_zero];(repeat (go_big_quiet_step (fail)));refine wpQuiet_nil ?_;intro wc hwc)
    clear l7 l2
    have H5:=hid (H4.out.keep hwc)
    have T5:=hid (T4.out.trans (Turn.of_below hwc))
    clear hwc
    have cg:=row_of H5.out.mem.regs d _ (u64s_get _ _ _ HY.out)
    have fg:=frozen_of_row wc gb d _ _ H5.out.mem.regs
    have H6:=hid (H5.out.setReg d va)
    have T6:=hid (T5.out.setCell (a:=⟨gb,d,none⟩) H5.out.mem.sep.1 (.int .u64 va))
    go_upto_region 45 with fail
    clear cg fg
    simp only[Int.toNat_natCast] at H6
    generalize wc.setCell ⟨gb,d,none⟩ (.int .u64 va)=W6 at *
    have H7:=hid (H6.out.setPc ((p:Int)+1))
    have T7:=hid (T6.out.setCell (a:=⟨bm,9,none⟩) H6.out.bG.1 (.int .i64 ((p:Int)+1)))
    have f9:=frozen_of_row W6 bm 9 _ _ H6.out.box
    have c9:=row_of H6.out.box 9 _ rfl
    go_wp2
    go_ret
    exact⟨rfl,by rw[HF.out];exact postR_of H7.out T7.out⟩
   ·have hkc:(kk:Int)=1:=by omega
    have q0:((kk:Int)==0)=false:=by simp[hkc]
    have q1:((kk:Int)==1)=true:=by simp[hkc]
    have q2:((kk:Int)==2)=false:=by simp[hkc]
    have q3:((kk:Int)==3)=false:=by simp[hkc]
    have q4:((kk:Int)==4)=false:=by simp[hkc]
    have q5:((kk:Int)==5)=false:=by simp[hkc]
    have q6:((kk:Int)==6)=false:=by simp[hkc]
    have q7:((kk:Int)==7)=false:=by simp[hkc]
    have q8:((kk:Int)==8)=false:=by simp[hkc]
    have q9:((kk:Int)==9)=false:=by simp[hkc]
    have hkt:(kk:Int).toNat=1:=by omega
    have hua:ua=true:=by rw[← HUA.out,hkc];rfl
    have hvv:valM m cra=va:=by have:=HVA2.out;rw[hua,if_pos rfl,HM1.out] at this;exact this
    have hdd:=HCP.out.dst (by show dstK (kk:Int)=true;rw[hkc];rfl)
    obtain⟨d,rfl⟩:∃ d:Nat,cd=d:=⟨cd.toNat,by have:=hdd.1;simp only at this;omega⟩
    have hd1:(d:Int)<(m1.regs.length:Int):=by have:=HG.out.regs;have:=hdd.2;have h0:=HH.out.r0;rw[HM1.out];simp only at *;omega
    obtain⟨y,hy⟩:∃ y,m1.regs[d]?=some y:=⟨_,lgRMc (by omega)⟩
    have hop:2≤co∧co≤20:=HCP.out.op hkc
    obtain⟨wd,hwd⟩:∃ wd:Nat,f.width=wd:=⟨f.width.toNat,by have:=HH.out.w1;omega⟩
    have hwd1:1≤wd:=by have:=HH.out.w1;omega
    have hwd2:wd≤64:=by have:=HH.out.w2;omega
    have hia:=valM_in (HV.out cra true (by have:refOk f cra (aK (kk:Int))=true:=HCP.out.a;rw[show aK (kk:Int)=true by rw[hkc];rfl] at this;exact this) HCI.out.2.2.2.2.1 HCI.out.2.2.2.2.2.1 rfl) HG.out.rv
    rw[hvv] at hia
    have HF:Hid (stepM f ins m={ setR m1 d (opZ co.toNat wd va (valM m crb)) with pc:=(p:Int)+1 }):=by
     show _=_
     rw[HRES.out,hk,HM1.out,← hvv,← HP.out,show wd=f.width.toNat by omega];rfl
    have hubb:ub=decide (4≤co):=by
     rw[← HUB.out,hkc]
     show (((1:Int)==3)||((1:Int)==1&&arityZ co==2))=decide (4≤co)
     unfold arityZ
     rw[if_neg (by omega),if_neg (by omega)]
     by_cases h4:4≤co
     ·rw[if_neg (by omega),if_neg (by omega)];simp[h4]
     ·rw[if_pos (by omega)];simp[h4]
    have hib:InU64 vb∧(4≤co→vb=valM m crb):=by
     have h2:=HVB2.out
     rw[hua,hubb,Bool.true_and] at h2
     by_cases h4:4≤co
     ·rw[if_pos (by simpa using h4),HM1.out] at h2
      have hin:=valM_in (HV.out crb true (by have:refOk f crb (bK (kk:Int) co)=true:=HCP.out.b;rw[show bK (kk:Int) co=true by rw[hkc];simp[bK,h4]] at this;exact this) HCI.out.2.2.2.2.2.2.1 HCI.out.2.2.2.2.2.2.2 rfl) HG.out.rv
      exact⟨by rw[← h2];exact hin,fun _=>h2.symm⟩
     ·rw[if_neg (by simpa using h4)] at h2
      subst h2
      exact⟨⟨by decide,by decide⟩,fun h=>absurd h h4⟩
    have hWid:f.width=(wd:Int):=hwd
    have HAP:Hid (∀ (z:World) (g c:Nat),z.heap[g]?=some (.cells #[.int .u64 va,.int .u64 vb] 58 (0,0))→c=2→Calls Tryz.prog 94 #[.int .u8 co,.int .i64 f.width,.slice (some ⟨g,0,none⟩) (if ub then 2 else 1) c] z fun e z'=>e=.returned (.tuple #[.int .u64 (opZ co.toNat wd va (valM m crb)),.int .i64 0])∧z=z'):=by
     show ∀ (z:World) (g c:Nat),_
     intro z g c hg hc
     subst hc
     rw[hWid]
     by_cases h4:4≤co
     ·rw[hubb,if_pos (by simpa using h4),← hib.2 h4]
      exact refApply2 co wd _ [va,vb] va vb z h4 hop.2 hwd1 hwd2 (nums_rd (l:=[va,vb]) hg (by simp) (by simp) (fun i x hx=>by match i,hx with|0,hx=>simp at hx;subst hx;rfl|1,hx=>simp at hx;subst hx;rfl|i+2,hx=>simp at hx) (fun x hx=>by simp at hx;rcases hx with rfl|rfl;exact hia;exact hib.1)) rfl
     ·rw[hubb,if_neg (by simpa using h4)]
      exact refApply1 co wd _ [va] va (valM m crb) z hop.1 (by omega) hwd1 hwd2 (nums_rd (l:=[va]) hg (by simp) (by simp) (fun i x hx=>by match i,hx with|0,hx=>simp at hx;subst hx;rfl|i+1,hx=>simp at hx) (fun x hx=>by simp at hx;rcases hx with rfl;exact hia)) rfl
    have HY:=hid hy
    clear hua hvv hdd hy hop hwd hWid hia hib hubb hwd1 hwd2
    clear hkc hkt hk
    generalize opZ co.toNat wd va (valM m crb)=res at *
    have hal:=(Below.refl W4.heap.size W4).alloc (Nat.le_refl _) (.cells #[.int .u64 va,.int .u64 vb] 58)
    have HN5:=hid (heap_alloc_new W4 (.cells #[.int .u64 va,.int .u64 vb] 58))
    have H5:=hid (H4.out.keep hal)
    have T5:=hid (T4.out.trans (Turn.of_below hal))
    have HG5:=hid ((hal.block _ (gsRMc HG4.out)).trans HG4.out)
    clear hal r0 r1 r2 r3 r4 r5 r6 r7
    go_upto_region 17 with fail
    generalize W4.heap.size=nb at *
    generalize W4.alloc (.cells #[.int .u64 va,.int .u64 vb] 58)=W5 at *
    have HFI5:=hid (fun (z:World) (hz:Below W5.heap.size W5 z)=>refFields f ⟨kk,co,d,cn,cra,crb⟩ _ _ _ _ z ⟨(H5.out.flat.1.keep hz).forget,(H5.out.flat.2.1.keep hz).forget,(H5.out.flat.2.2.1.keep hz).forget,(H5.out.flat.2.2.2.1.keep hz).forget,H5.out.flat.2.2.2.2⟩ HCI.out)
    obtain⟨ud2,hud⟩:∃ b,dstK (kk:Int)=b:=⟨_,rfl⟩
    obtain⟨un2,hun⟩:∃ b,nK (kk:Int)=b:=⟨_,rfl⟩
    obtain⟨um2,hum⟩:∃ b,mostR f (kk:Int)=b:=⟨_,rfl⟩
    obtain⟨uk2,huk⟩:∃ b,isK (kk:Int) co=b:=⟨_,rfl⟩
    simp only[hud,hun,HUA.out,HUB.out,hum,huk] at HFI5
    clear hud hun hum huk
    go_cut [10] from 81 to 90 (fun v wx=>∃ g:Nat,v=.pointer (some ⟨g,0,none⟩)∧W5.heap.size≤g∧wx.heap[g]?=some (.cells #[.bool ud2,.bool un2,.bool ua,.bool ub,.int .i64 um2] 148 (0,0))∧Below W5.heap.size W5 wx)
    case first=>
     refine wp_region_mix (.two [0,1,2,3,4] 5 9 (.one [6,7,8] 9 (.one [] 10 (.one [] 11 (.fin [])))) (.one [] 5 (.one [6,7,8] 10 (.one [] 11 (.fin []))))) (fun _=>false) (by kernel_rfl) (by kernel_rfl) rfl (by kernel_rfl) (fun _ d _ _ _ h=>by cases d <;> exact h) ?_
     have l0:=ext_cell (row_of H5.out.box 0 _ rfl)
     have l1:=ext_cell (row_of H5.out.box 1 _ rfl)
     have l2:=ext_cell (row_of H5.out.box 2 _ rfl)
     have l3:=ext_cell (row_of H5.out.box 3 _ rfl)
     have l4:=ext_cell (row_of H5.out.box 4 _ rfl)
     have l5:=ext_cell (row_of H5.out.box 5 _ rfl)
     have r0:=ext_cell (row_of HG5.out 0 (.int .u8 kk) rfl)
     have r1:=ext_cell (row_of HG5.out 1 (.int .u8 co) rfl)
     have r2:=ext_cell (row_of HG5.out 2 (.int .i64 d) rfl)
     have r3:=ext_cell (row_of HG5.out 3 (.int .i64 cn) rfl)
     have r4:=ext_cell (row_of HG5.out 4 (.int .i64 cra.reg) rfl)
     have r5:=ext_cell (row_of HG5.out 5 (.int .u64 cra.num) rfl)
     have r6:=ext_cell (row_of HG5.out 6 (.int .i64 crb.reg) rfl)
     have r7:=ext_cell (row_of HG5.out 7 (.int .u64 crb.num) rfl)
     have HB0:Hid (Below W5.heap.size W5 W5.drew):=(Below.refl _ _).drew
     generalize W5.drew=wn at *
     refine mix_two (by simp only[opsOf,List.filterMap_cons,List.filterMap_nil,List.getElem?_toArray,List.getElem?_cons_succ,List.getElem?_cons_zero];rfl) ⟨_,ext_of HB0.out⟩ ?_
     change wpQuiet _ _ _ _ [_,_,_,_,_] _
     (repeat (go_big_quiet_step (fail)))
     clear l0 l1 l2 l3 l4 l5 r0 r1 r2 r3 r4 r5 r6 r7
     refine wpQuiet_nil ⟨?_,?_⟩
     ·refine mix_step rfl ?_
      go_wp2_with (go_at_call 83;refine (HFI5.out _ HB0.out).mono ?_;rintro e z ⟨rfl,hzz⟩)
      have HB1:=hid (bcomp HB0.out hzz)
      clear hzz
      (first|refine⟨fun _=>⟨_,ext_of HB1.out⟩,?_⟩|refine⟨⟨_,ext_of HB1.out⟩,?_⟩)
      refine mix_one (by simp only[opsOf,List.filterMap_cons,List.filterMap_nil,List.getElem?_toArray,List.getElem?_cons_succ,List.getElem?_cons_zero];rfl) ⟨_,ext_of HB1.out⟩ ?_
      change wpQuiet _ _ _ _ [_,_,_] _
      (repeat (go_big_quiet_step (fail)))
      refine wpQuiet_nil ?_
      refine mix_step rfl ?_
      go_wp2_with fail
      have HN:=hid (heap_alloc_new z (.cells noUses 148))
      have HB2:=hid (HB1.out.alloc HB1.out.size (.cells noUses 148))
      have hlg:=HB1.out.size
      (first|refine⟨fun _=>⟨_,ext_of HB2.out⟩,?_⟩|refine⟨⟨_,ext_of HB2.out⟩,?_⟩)
      refine mix_now ?_
      refine mix_step rfl ?_
      go_wp2_with (refine wpList_store_row rfl 148 (.tmp 10) (.tmp 88) rfl z.heap.size #[.bool ud2,.bool un2,.bool ua,.bool ub,.int .i64 um2] rfl rfl 148 noUses ?hw1 (by as_aux_lemma=>kernel_rfl) (by as_aux_lemma=>kernel_rfl) (by as_aux_lemma=>kernel_rfl) ?_;exact HN.out)
      have HB3:=hid (below_row HB2.out hlg #[.bool ud2,.bool un2,.bool ua,.bool ub,.int .i64 um2])
      have HG3:Hid (((z.alloc (.cells noUses 148)).setRow z.heap.size #[.bool ud2,.bool un2,.bool ua,.bool ub,.int .i64 um2]).heap[z.heap.size]?=some (.cells #[.bool ud2,.bool un2,.bool ua,.bool ub,.int .i64 um2] 148 (0,0))):=setRow_heap _ _ _ _ _ _ HN.out
      (first|refine⟨fun _=>⟨_,ext_of HB3.out⟩,?_⟩|refine⟨⟨_,ext_of HB3.out⟩,?_⟩)
      refine mix_now ?_
      refine mix_step rfl ?_
      simp only[Act.put,List.setIfInBounds_toArray,List.set_cons_succ,List.set_cons_zero,List.getElem_toArray,List.getElem_cons_succ,List.getElem_cons_zero]
      go_wp2_with fail
      refine And.intro (fun _=>⟨_,ext_of HB3.out⟩) ?_
      simp only[mixRun,readRun]
      go_wp2_with fail
      go_meet
      exact⟨z.heap.size,rfl,hlg,HG3.out,HB3.out⟩
     ·refine mix_step rfl ?_
      go_wp2_with fail
      have HN0:=hid (heap_alloc_new wn (.cells noUses 148))
      have HB1:=hid (HB0.out.alloc HB0.out.size (.cells noUses 148))
      have hlg:=HB0.out.size
      (first|refine⟨fun _=>⟨_,ext_of HB1.out⟩,?_⟩|refine⟨⟨_,ext_of HB1.out⟩,?_⟩)
      generalize wn.heap.size=ug at *
      generalize wn.alloc (.cells noUses 148)=w1 at *
      refine mix_now ?_
      refine mix_step rfl ?_
      go_wp2_with (go_at_call 83;refine (HFI5.out _ HB1.out).mono ?_;rintro e z ⟨rfl,hzz⟩)
      have HB2:=hid (bcomp HB1.out hzz)
      have HN:=hid ((hzz.block _ (gsRMc HN0.out)).trans HN0.out)
      clear hzz
      (first|refine⟨fun _=>⟨_,ext_of HB2.out⟩,?_⟩|refine⟨⟨_,ext_of HB2.out⟩,?_⟩)
      refine mix_one (by simp only[opsOf,List.filterMap_cons,List.filterMap_nil,List.getElem?_toArray,List.getElem?_cons_succ,List.getElem?_cons_zero];rfl) ⟨_,ext_of HB2.out⟩ ?_
      change wpQuiet _ _ _ _ [_,_,_] _
      (repeat (go_big_quiet_step (fail)))
      refine wpQuiet_nil ?_
      refine mix_step rfl ?_
      go_wp2_with (refine wpList_store_row rfl 148 (.tmp 10) (.tmp 88) rfl ug #[.bool ud2,.bool un2,.bool ua,.bool ub,.int .i64 um2] rfl rfl 148 noUses ?hw2 (by as_aux_lemma=>kernel_rfl) (by as_aux_lemma=>kernel_rfl) (by as_aux_lemma=>kernel_rfl) ?_;exact HN.out)
      have HB3:=hid (below_row HB2.out hlg #[.bool ud2,.bool un2,.bool ua,.bool ub,.int .i64 um2])
      have HG3:Hid ((z.setRow ug #[.bool ud2,.bool un2,.bool ua,.bool ub,.int .i64 um2]).heap[ug]?=some (.cells #[.bool ud2,.bool un2,.bool ua,.bool ub,.int .i64 um2] 148 (0,0))):=setRow_heap _ _ _ _ _ _ HN.out
      (first|refine⟨fun _=>⟨_,ext_of HB3.out⟩,?_⟩|refine⟨⟨_,ext_of HB3.out⟩,?_⟩)
      refine mix_now ?_
      refine mix_step rfl ?_
      simp only[Act.put,List.setIfInBounds_toArray,List.set_cons_succ,List.set_cons_zero,List.getElem_toArray,List.getElem_cons_succ,List.getElem_cons_zero]
      go_wp2_with fail
      refine And.intro (fun _=>⟨_,ext_of HB3.out⟩) ?_
      simp only[mixRun,readRun]
      go_wp2_with fail
      go_meet
      exact⟨ug,rfl,hlg,HG3.out,HB3.out⟩
    case rest=>
     generalize wc=W6 at *
     obtain⟨vg,rfl,hvg,hgv,hb6⟩:=hcut
     have H6:=hid (H5.out.keep hb6)
     have T6:=hid (T5.out.trans (Turn.of_below hb6))
     have HG6:=hid ((hb6.block _ (gsRMc HG5.out)).trans HG5.out)
     have HN6:=hid ((hb6.block _ (gsRMc HN5.out)).trans HN5.out)
     have v3:=row_of hgv 3 (.bool ub) rfl
     clear hgv hb6 hvg H5 HG5 HN5 T5 HFI5
     cases ub
     ·have HAPP:=hid (fun (z:World) (hz:z.heap[nb]?=some (.cells #[.int .u64 va,.int .u64 vb] 58 (0,0)))=>HAP.out z nb 2 hz rfl)
      simp only[Bool.false_eq_true,if_false] at HAPP
      go_upto_region 20 with fail
      have l7:=keepS_cell (S:=[bm,cb]) (by simp) (row_of H6.out.box 7 _ rfl)
      have l0:=keepS_cell (S:=[bm,cb]) (by simp) (row_of H6.out.box 0 _ rfl)
      have k2:=keepS_cell (S:=[bm,cb]) (by simp) (row_of HG6.out 2 (.int .i64 d) rfl)
      have k1:=keepS_cell (S:=[bm,cb]) (by simp) (row_of HG6.out 1 (.int .u8 co) rfl)
      have HBd:Hid (Below W6.heap.size W6 W6.drew):=(Below.refl _ _).drew
      have HK0:Hid (∀ x∈[bm,cb],W6.drew.heap[x]?=W6.heap[x]?):=fun _ _=>rfl
      refine wp_region_mixS [bm,cb] (.one [0,1,2,3,4,5,6,7,8,9,10,11,12,13] 14 (.one [15,16,17] 18 (.one [] 19 (.fin [])))) (fun _=>false) (by kernel_rfl) (by kernel_rfl) rfl (by kernel_rfl) (fun _ d _ _ _ h=>by cases d <;> exact h) ?_
      generalize W6.drew=w0 at *
      refine mix_one (by simp only[opsOf,List.filterMap_cons,List.filterMap_nil,List.getElem?_toArray,List.getElem?_cons_succ,List.getElem?_cons_zero];rfl) ⟨_,keepS_of HK0.out⟩ ?_
      change wpQuiet _ _ _ _ [_,_,_,_,_,_,_,_,_,_,_,_,_,_] _
      (repeat (go_big_quiet_step (fail)))
      refine wpQuiet_nil ?_
      clear l7 l0 k2 k1
      have H7:=hid (H6.out.keep HBd.out)
      have T7:=hid (T6.out.trans (Turn.of_below HBd.out))
      have HN7:=hid ((HBd.out.block _ (gsRMc HN6.out)).trans HN6.out)
      have HA7:=hid (HAPP.out w0 HN7.out)
      refine mix_step rfl ?_
      go_wp2_with (go_at_call 94;refine HA7.out.mono ?_;rintro e z ⟨rfl,rfl⟩)
      (first|refine⟨fun _=>⟨_,keepS_of HK0.out⟩,?_⟩|refine⟨⟨_,keepS_of HK0.out⟩,?_⟩)
      refine mix_one (by simp only[opsOf,List.filterMap_cons,List.filterMap_nil,List.getElem?_toArray,List.getElem?_cons_succ,List.getElem?_cons_zero];rfl) ⟨_,keepS_of HK0.out⟩ ?_
      change wpQuiet _ _ _ _ [_,_,_] _
      (repeat (go_big_quiet_step (fail)))
      refine wpQuiet_nil ?_
      refine mix_step rfl ?_
      go_wp2_with fail
      (first|refine⟨fun _=>⟨_,keepS_of HK0.out⟩,?_⟩|refine⟨⟨_,keepS_of HK0.out⟩,?_⟩)
      have cg:=row_of H7.out.mem.regs d _ (u64s_get _ _ _ HY.out)
      have fg:=frozen_of_row w0 gb d _ _ H7.out.mem.regs
      have H8:=hid (H7.out.setReg d res)
      have T8:=hid (T7.out.setCell (a:=⟨gb,d,none⟩) H7.out.mem.sep.1 (.int .u64 res))
      simp only[Int.toNat_natCast] at H8
      have hgm:gb≠bm:=row_ne H7.out.mem.regs H7.out.box (by decide)
      have hgc:gb≠cb:=row_ne H7.out.mem.regs (((HBd.out.block _ (gsRMc HG6.out))).trans HG6.out) (by decide)
      have HK8:=hid (two_keep ((heap_setCell_other w0 ⟨gb,d,none⟩ bm (.int .u64 res) (by simpa using hgm.symm)).trans (HK0.out bm (by simp))) ((heap_setCell_other w0 ⟨gb,d,none⟩ cb (.int .u64 res) (by simpa using hgc.symm)).trans (HK0.out cb (by simp))))
      refine mix_now ?_
      refine mix_step rfl ?_
      go_wp2_with fail
      (first|refine And.intro (fun _=>⟨_,keepS_of HK8.out⟩) ?_|refine And.intro ⟨_,keepS_of HK8.out⟩ ?_)
      simp only[mixRun,readRun]
      go_upto_region 45 with fail
      clear cg fg
      generalize w0.setCell ⟨gb,d,none⟩ (.int .u64 res)=W8 at *
      have H9:=hid (H8.out.setPc ((p:Int)+1))
      have T9:=hid (T8.out.setCell (a:=⟨bm,9,none⟩) H8.out.bG.1 (.int .i64 ((p:Int)+1)))
      have f9:=frozen_of_row W8 bm 9 _ _ H8.out.box
      have c9:=row_of H8.out.box 9 _ rfl
      go_wp2
      go_ret
      exact⟨rfl,by rw[HF.out];exact postR_of H9.out T9.out⟩
     ·have HAPP:=hid (fun (z:World) (hz:z.heap[nb]?=some (.cells #[.int .u64 va,.int .u64 vb] 58 (0,0)))=>HAP.out z nb 2 hz rfl)
      simp only[if_true] at HAPP
      go_upto_region 20 with fail
      have l7:=keepS_cell (S:=[bm,cb]) (by simp) (row_of H6.out.box 7 _ rfl)
      have l0:=keepS_cell (S:=[bm,cb]) (by simp) (row_of H6.out.box 0 _ rfl)
      have k2:=keepS_cell (S:=[bm,cb]) (by simp) (row_of HG6.out 2 (.int .i64 d) rfl)
      have k1:=keepS_cell (S:=[bm,cb]) (by simp) (row_of HG6.out 1 (.int .u8 co) rfl)
      have HBd:Hid (Below W6.heap.size W6 W6.drew):=(Below.refl _ _).drew
      have HK0:Hid (∀ x∈[bm,cb],W6.drew.heap[x]?=W6.heap[x]?):=fun _ _=>rfl
      refine wp_region_mixS [bm,cb] (.one [0,1,2,3,4,5,6,7,8,9,10,11,12,13] 14 (.one [15,16,17] 18 (.one [] 19 (.fin [])))) (fun _=>false) (by kernel_rfl) (by kernel_rfl) rfl (by kernel_rfl) (fun _ d _ _ _ h=>by cases d <;> exact h) ?_
      generalize W6.drew=w0 at *
      refine mix_one (by simp only[opsOf,List.filterMap_cons,List.filterMap_nil,List.getElem?_toArray,List.getElem?_cons_succ,List.getElem?_cons_zero];rfl) ⟨_,keepS_of HK0.out⟩ ?_
      change wpQuiet _ _ _ _ [_,_,_,_,_,_,_,_,_,_,_,_,_,_] _
      (repeat (go_big_quiet_step (fail)))
      refine wpQuiet_nil ?_
      clear l7 l0 k2 k1
      have H7:=hid (H6.out.keep HBd.out)
      have T7:=hid (T6.out.trans (Turn.of_below HBd.out))
      have HN7:=hid ((HBd.out.block _ (gsRMc HN6.out)).trans HN6.out)
      have HA7:=hid (HAPP.out w0 HN7.out)
      refine mix_step rfl ?_
      go_wp2_with (go_at_call 94;refine HA7.out.mono ?_;rintro e z ⟨rfl,rfl⟩)
      (first|refine⟨fun _=>⟨_,keepS_of HK0.out⟩,?_⟩|refine⟨⟨_,keepS_of HK0.out⟩,?_⟩)
      refine mix_one (by simp only[opsOf,List.filterMap_cons,List.filterMap_nil,List.getElem?_toArray,List.getElem?_cons_succ,List.getElem?_cons_zero];rfl) ⟨_,keepS_of HK0.out⟩ ?_
      change wpQuiet _ _ _ _ [_,_,_] _
      (repeat (go_big_quiet_step (fail)))
      refine wpQuiet_nil ?_
      refine mix_step rfl ?_
      go_wp2_with fail
      (first|refine⟨fun _=>⟨_,keepS_of HK0.out⟩,?_⟩|refine⟨⟨_,keepS_of HK0.out⟩,?_⟩)
      have cg:=row_of H7.out.mem.regs d _ (u64s_get _ _ _ HY.out)
      have fg:=frozen_of_row w0 gb d _ _ H7.out.mem.regs
      have H8:=hid (H7.out.setReg d res)
      have T8:=hid (T7.out.setCell (a:=⟨gb,d,none⟩) H7.out.mem.sep.1 (.int .u64 res))
      simp only[Int.toNat_natCast] at H8
      have hgm:gb≠bm:=row_ne H7.out.mem.regs H7.out.box (by decide)
      have hgc:gb≠cb:=row_ne H7.out.mem.regs (((HBd.out.block _ (gsRMc HG6.out))).trans HG6.out) (by decide)
      have HK8:=hid (two_keep ((heap_setCell_other w0 ⟨gb,d,none⟩ bm (.int .u64 res) (by simpa using hgm.symm)).trans (HK0.out bm (by simp))) ((heap_setCell_other w0 ⟨gb,d,none⟩ cb (.int .u64 res) (by simpa using hgc.symm)).trans (HK0.out cb (by simp))))
      refine mix_now ?_
      refine mix_step rfl ?_
      go_wp2_with fail
      (first|refine And.intro (fun _=>⟨_,keepS_of HK8.out⟩) ?_|refine And.intro ⟨_,keepS_of HK8.out⟩ ?_)
      simp only[mixRun,readRun]
      go_upto_region 45 with fail
      clear cg fg
      generalize w0.setCell ⟨gb,d,none⟩ (.int .u64 res)=W8 at *
      have H9:=hid (H8.out.setPc ((p:Int)+1))
      have T9:=hid (T8.out.setCell (a:=⟨bm,9,none⟩) H8.out.bG.1 (.int .i64 ((p:Int)+1)))
      have f9:=frozen_of_row W8 bm 9 _ _ H8.out.box
      have c9:=row_of H8.out.box 9 _ rfl
      go_wp2
      go_ret
      exact⟨rfl,by rw[HF.out];exact postR_of H9.out T9.out⟩
   ·have hkc:(kk:Int)=2:=by omega
    have q0:((kk:Int)==0)=false:=by simp[hkc]
    have q1:((kk:Int)==1)=false:=by simp[hkc]
    have q2:((kk:Int)==2)=true:=by simp[hkc]
    have q3:((kk:Int)==3)=false:=by simp[hkc]
    have q4:((kk:Int)==4)=false:=by simp[hkc]
    have q5:((kk:Int)==5)=false:=by simp[hkc]
    have q6:((kk:Int)==6)=false:=by simp[hkc]
    have q7:((kk:Int)==7)=false:=by simp[hkc]
    have q8:((kk:Int)==8)=false:=by simp[hkc]
    have q9:((kk:Int)==9)=false:=by simp[hkc]
    have hkt:(kk:Int).toNat=2:=by omega
    have hua:ua=true:=by rw[← HUA.out,hkc];rfl
    have hvv:valM m cra=va:=by have:=HVA2.out;rw[hua,if_pos rfl,HM1.out] at this;exact this
    have hdd:=HCP.out.dst (by show dstK (kk:Int)=true;rw[hkc];rfl)
    obtain⟨d,rfl⟩:∃ d:Nat,cd=d:=⟨cd.toNat,by have:=hdd.1;simp only at this;omega⟩
    have hd1:(d:Int)<(m1.regs.length:Int):=by have:=HG.out.regs;have:=hdd.2;have h0:=HH.out.r0;rw[HM1.out];simp only at *;omega
    obtain⟨y,hy⟩:∃ y,m1.regs[d]?=some y:=⟨_,lgRMc (by omega)⟩
    have hn0:0≤cn:=HCP.out.n0
    have hn1:cn<mostF f (kk:Int):=HCP.out.n1
    rw[show mostF f (kk:Int)=f.arrays.length by rw[hkc];rfl] at hn1
    obtain⟨n,rfl⟩:∃ n:Nat,cn=n:=⟨cn.toNat,by omega⟩
    have hal2:m1.arrs.length=f.arrays.length:=by have:=congrArg List.length HG.out.arrs;rw[List.length_map,List.length_map] at this;rw[HM1.out];exact this
    obtain⟨l,hll⟩:∃ l,m1.arrs[n]?=some l:=⟨_,lgRMc (by omega)⟩
    have hlen:l.length≤64:=by
     have h1:l.length∈m1.arrs.map List.length:=List.mem_map.2 ⟨l,List.mem_of_getElem? hll,rfl⟩
     rw[HM1.out] at h1
     rw[show ({ m with t:={ m.t with steps:=m.t.steps+1 } }:MachD).arrs.map List.length=f.arrays.map Int.toNat from HG.out.arrs] at h1
     obtain⟨z,hz,e⟩:=List.mem_map.1 h1
     have:=HH.out.arr z hz
     omega
    have hia:=valM_in (HV.out cra true (by have:refOk f cra (aK (kk:Int))=true:=HCP.out.a;rw[show aK (kk:Int)=true by rw[hkc];rfl] at this;exact this) HCI.out.2.2.2.2.1 HCI.out.2.2.2.2.2.1 rfl) HG.out.rv
    rw[hvv] at hia
    obtain⟨vn,rfl⟩:∃ vn:Nat,va=vn:=⟨va.toNat,by have:=hia.1;omega⟩
    have hu:(vn:Int)<18446744073709551616:=by have:=hia.2;omega
    have hel:elemM (tickM m) ⟨kk,co,d,n,cra,crb⟩=l[vn]?:=by show (((tickM m).arrs[(n:Int).toNat]?).bind fun l=>l[(valM (tickM m) cra).toNat]?)=_;rw[Int.toNat_natCast,show (tickM m).arrs=m1.arrs by rw[HM1.out];rfl,hll,show valM (tickM m) cra=(vn:Int) from hvv];rfl
    obtain⟨aa,ac,rfl⟩:=H4.out.mem.av_is
    obtain⟨ob,oo,b,rfl,hbn,cA,hrow⟩:=H4.out.mem.arr_at hll
    have l8:=row_of H4.out.box 8 _ rfl
    have hin:(n:Int)<(m1.arrs.length:Int):=by omega
    have HEL:=hid hel
    have HBN:=hid hbn
    have HLL:=hid hll
    have HVV:=hid hvv
    have HY:=hid hy
    clear hy hdd
    clear hua hvv hel hbn hll hia hrow
    by_cases hge:(l.length:Int)≤(vn:Int)
    ·have HF:Hid (stepM f ins m={ m1 with t:={ m1.t with status:=1 } }):=by
      show _=_
      rw[HRES.out,hk,HM1.out]
      show (match elemM (tickM m) ⟨kk,co,d,n,cra,crb⟩ with|some x=>setR (tickM m) d x|none=>endM (tickM m) 1)=_
      rw[HEL.out,List.getElem?_eq_none (by omega)]
      simp only[endM,tickM,Int.add_sub_cancel]
     clear hkc hkt hk
     go_upto_region 23 with fail
     go_quiet (fail)
     have HBd:=hid (below_drewN (Below.refl W4.heap.size W4) nq)
     have H5:=hid ((H4.out.keep HBd.out).setStatus 1)
     have T5:=hid ((T4.out.trans (Turn.of_below HBd.out)).setCell (a:=⟨bm,10,none⟩) H4.out.bG.1 (.int .u8 1))
     have hbx:=(H4.out.keep HBd.out).box
     generalize W4.drewN nq=W5 at *
     have f10:=frozen_of_row W5 bm 10 _ _ hbx
     have c10:=row_of hbx 10 _ rfl
     clear hbx
     go_wp2
     go_ret
     exact⟨rfl,by rw[HF.out];exact postR_of H5.out T5.out⟩
    ·have hlt2:(vn:Int)<(l.length:Int):=by omega
     obtain⟨x,hx⟩:∃ x,l[vn]?=some x:=⟨_,lgRMc (by omega)⟩
     have HF:Hid (stepM f ins m={ setR m1 d x with pc:=(p:Int)+1 }):=by
      show _=_
      rw[HRES.out,hk,HM1.out]
      show (match elemM (tickM m) ⟨kk,co,d,n,cra,crb⟩ with|some x=>setR (tickM m) d x|none=>endM (tickM m) 1)=_
      rw[HEL.out,hx]
      rw[← HP.out];rfl
     have HX:=hid hx
     clear hx
     clear hkc hkt hk
     go_upto_region 23 with fail
     go_quiet (fail)
     have HBd:=hid (below_drewN (Below.refl W4.heap.size W4) nq)
     have H5:=hid (H4.out.keep HBd.out)
     have T5:=hid (T4.out.trans (Turn.of_below HBd.out))
     have HG5:=hid ((HBd.out.block _ (gsRMc HG4.out)).trans HG4.out)
     have cA5:=cell_keep HBd.out cA
     clear cA l8 r0 r1 r2 r3 r4 r5 r6 r7
     generalize W4.drewN nq=W5 at *
     have r0:=row_of HG5.out 0 (.int .u8 kk) rfl
     go_upto_region 27 with fail
     have l7:=ext_cell (row_of H5.out.box 7 _ rfl)
     have l8:=ext_cell (row_of H5.out.box 8 _ rfl)
     have k2:=ext_cell (row_of HG5.out 2 (.int .i64 d) rfl)
     have k3:=ext_cell (row_of HG5.out 3 (.int .i64 n) rfl)
     have kA:=ext_cell cA5
     have hrow:=H5.out.mem.rows n b l HBN.out HLL.out
     have kx:=ext_cell (row_of hrow vn _ (u64s_get _ _ _ HX.out))
     clear r0 cA5 hrow
     (refine wp_region_calm_tail 17 (by kernel_rfl) (by kernel_rfl) ?_;simp only[List.take_succ_cons,List.take_zero,List.drop_succ_cons,List.drop_zero];(repeat (go_big_quiet_step (fail)));refine wpQuiet_nil ?_;intro wc hwc)
     clear l7 l8 k2 k3 kA kx
     have H6:=hid (H5.out.keep hwc)
     have T6:=hid (T5.out.trans (Turn.of_below hwc))
     clear hwc
     have cg:=row_of H6.out.mem.regs d _ (u64s_get _ _ _ HY.out)
     have fg:=frozen_of_row wc gb d _ _ H6.out.mem.regs
     have H7:=hid (H6.out.setReg d x)
     have T7:=hid (T6.out.setCell (a:=⟨gb,d,none⟩) H6.out.mem.sep.1 (.int .u64 x))
     go_upto_region 45 with fail
     clear cg fg
     simp only[Int.toNat_natCast] at H7
     generalize wc.setCell ⟨gb,d,none⟩ (.int .u64 x)=W7 at *
     have H8:=hid (H7.out.setPc ((p:Int)+1))
     have T8:=hid (T7.out.setCell (a:=⟨bm,9,none⟩) H7.out.bG.1 (.int .i64 ((p:Int)+1)))
     have f9:=frozen_of_row W7 bm 9 _ _ H7.out.box
     have c9:=row_of H7.out.box 9 _ rfl
     go_wp2
     go_ret
     exact⟨rfl,by rw[HF.out];exact postR_of H8.out T8.out⟩
   ·have hkc:(kk:Int)=3:=by omega
    have q0:((kk:Int)==0)=false:=by simp[hkc]
    have q1:((kk:Int)==1)=false:=by simp[hkc]
    have q2:((kk:Int)==2)=false:=by simp[hkc]
    have q3:((kk:Int)==3)=true:=by simp[hkc]
    have q4:((kk:Int)==4)=false:=by simp[hkc]
    have q5:((kk:Int)==5)=false:=by simp[hkc]
    have q6:((kk:Int)==6)=false:=by simp[hkc]
    have q7:((kk:Int)==7)=false:=by simp[hkc]
    have q8:((kk:Int)==8)=false:=by simp[hkc]
    have q9:((kk:Int)==9)=false:=by simp[hkc]
    have hkt:(kk:Int).toNat=3:=by omega
    have hua:ua=true:=by rw[← HUA.out,hkc];rfl
    have hvv:valM m cra=va:=by have:=HVA2.out;rw[hua,if_pos rfl,HM1.out] at this;exact this
    have hub:ub=true:=by rw[← HUB.out,hkc];rfl
    have hvw:valM m crb=vb:=by have:=HVB2.out;rw[hua,hub,HM1.out] at this;exact this
    have hn0:0≤cn:=HCP.out.n0
    have hn1:cn<mostF f (kk:Int):=HCP.out.n1
    rw[show mostF f (kk:Int)=f.arrays.length by rw[hkc];rfl] at hn1
    obtain⟨n,rfl⟩:∃ n:Nat,cn=n:=⟨cn.toNat,by omega⟩
    have hal2:m1.arrs.length=f.arrays.length:=by have:=congrArg List.length HG.out.arrs;rw[List.length_map,List.length_map] at this;rw[HM1.out];exact this
    obtain⟨l,hll⟩:∃ l,m1.arrs[n]?=some l:=⟨_,lgRMc (by omega)⟩
    have hlen:l.length≤64:=by
     have h1:l.length∈m1.arrs.map List.length:=List.mem_map.2 ⟨l,List.mem_of_getElem? hll,rfl⟩
     rw[HM1.out] at h1
     rw[show ({ m with t:={ m.t with steps:=m.t.steps+1 } }:MachD).arrs.map List.length=f.arrays.map Int.toNat from HG.out.arrs] at h1
     obtain⟨z,hz,e⟩:=List.mem_map.1 h1
     have:=HH.out.arr z hz
     omega
    have hia:=valM_in (HV.out cra true (by have:refOk f cra (aK (kk:Int))=true:=HCP.out.a;rw[show aK (kk:Int)=true by rw[hkc];rfl] at this;exact this) HCI.out.2.2.2.2.1 HCI.out.2.2.2.2.2.1 rfl) HG.out.rv
    rw[hvv] at hia
    obtain⟨vn,rfl⟩:∃ vn:Nat,va=vn:=⟨va.toNat,by have:=hia.1;omega⟩
    have hu:(vn:Int)<18446744073709551616:=by have:=hia.2;omega
    have hel:elemM (tickM m) ⟨kk,co,cd,n,cra,crb⟩=l[vn]?:=by show (((tickM m).arrs[(n:Int).toNat]?).bind fun l=>l[(valM (tickM m) cra).toNat]?)=_;rw[Int.toNat_natCast,show (tickM m).arrs=m1.arrs by rw[HM1.out];rfl,hll,show valM (tickM m) cra=(vn:Int) from hvv];rfl
    obtain⟨aa,ac,rfl⟩:=H4.out.mem.av_is
    obtain⟨ob,oo,b,rfl,hbn,cA,hrow⟩:=H4.out.mem.arr_at hll
    have l8:=row_of H4.out.box 8 _ rfl
    have hin:(n:Int)<(m1.arrs.length:Int):=by omega
    have HEL:=hid hel
    have HBN:=hid hbn
    have HLL:=hid hll
    have HVV:=hid hvv
    have HVW:=hid hvw
    clear hub hvw
    clear hua hvv hel hbn hll hia hrow
    by_cases hge:(l.length:Int)≤(vn:Int)
    ·have HF:Hid (stepM f ins m={ m1 with t:={ m1.t with status:=1 } }):=by
      show _=_
      rw[HRES.out,hk,HM1.out]
      show (match elemM (tickM m) ⟨kk,co,cd,n,cra,crb⟩ with|some _=>putA (tickM m) (n:Int).toNat (valM (tickM m) cra).toNat (valM (tickM m) crb)|none=>endM (tickM m) 1)=_
      rw[HEL.out,List.getElem?_eq_none (by omega)]
      simp only[endM,tickM,Int.add_sub_cancel]
     clear hkc hkt hk
     go_upto_region 23 with fail
     go_quiet (fail)
     have HBd:=hid (below_drewN (Below.refl W4.heap.size W4) nq)
     have H5:=hid ((H4.out.keep HBd.out).setStatus 1)
     have T5:=hid ((T4.out.trans (Turn.of_below HBd.out)).setCell (a:=⟨bm,10,none⟩) H4.out.bG.1 (.int .u8 1))
     have hbx:=(H4.out.keep HBd.out).box
     generalize W4.drewN nq=W5 at *
     have f10:=frozen_of_row W5 bm 10 _ _ hbx
     have c10:=row_of hbx 10 _ rfl
     clear hbx
     go_wp2
     go_ret
     exact⟨rfl,by rw[HF.out];exact postR_of H5.out T5.out⟩
    ·have hlt2:(vn:Int)<(l.length:Int):=by omega
     obtain⟨x,hx⟩:∃ x,l[vn]?=some x:=⟨_,lgRMc (by omega)⟩
     have HF:Hid (stepM f ins m={ putA m1 n vn vb with pc:=(p:Int)+1 }):=by
      show _=_
      rw[HRES.out,hk,HM1.out]
      show (match elemM (tickM m) ⟨kk,co,cd,n,cra,crb⟩ with|some _=>putA (tickM m) (n:Int).toNat (valM (tickM m) cra).toNat (valM (tickM m) crb)|none=>endM (tickM m) 1)=_
      rw[HEL.out,hx]
      rw[show valM (tickM m) cra=(vn:Int) from HVV.out,show valM (tickM m) crb=vb from HVW.out,← HP.out];rfl
     have HX:=hid hx
     clear hx
     clear hkc hkt hk
     go_upto_region 23 with fail
     go_quiet (fail)
     have HBd:=hid (below_drewN (Below.refl W4.heap.size W4) nq)
     have H5:=hid (H4.out.keep HBd.out)
     have T5:=hid (T4.out.trans (Turn.of_below HBd.out))
     have HG5:=hid ((HBd.out.block _ (gsRMc HG4.out)).trans HG4.out)
     have cA5:=cell_keep HBd.out cA
     clear cA l8 r0 r1 r2 r3 r4 r5 r6 r7
     generalize W4.drewN nq=W5 at *
     have r0:=row_of HG5.out 0 (.int .u8 kk) rfl
     go_upto_region 28 with fail
     have l7:=ext_cell (row_of H5.out.box 7 _ rfl)
     have l8:=ext_cell (row_of H5.out.box 8 _ rfl)
     have k2:=ext_cell (row_of HG5.out 2 (.int .i64 cd) rfl)
     have k3:=ext_cell (row_of HG5.out 3 (.int .i64 n) rfl)
     have kA:=ext_cell cA5
     have hrow:=H5.out.mem.rows n b l HBN.out HLL.out
     have kx:=ext_cell (row_of hrow vn _ (u64s_get _ _ _ HX.out))
     clear r0 cA5 hrow
     (refine wp_region_calm_tail 10 (by kernel_rfl) (by kernel_rfl) ?_;simp only[List.take_succ_cons,List.take_zero,List.drop_succ_cons,List.drop_zero];(repeat (go_big_quiet_step (fail)));refine wpQuiet_nil ?_;intro wc hwc)
     clear l7 l8 k2 k3 kA kx
     have H6:=hid (H5.out.keep hwc)
     have T6:=hid (T5.out.trans (Turn.of_below hwc))
     clear hwc
     have hrow:=H6.out.mem.rows n b l HBN.out HLL.out
     have cg:=row_of hrow vn _ (u64s_get _ _ _ HX.out)
     have fg:=frozen_of_row wc b vn _ _ hrow
     have H7:=hid (H6.out.setArr n vn vb HBN.out)
     have T7:=hid (T6.out.setCell (a:=⟨b,vn,none⟩) (H6.out.mem.sep.2.2.2.2 b (List.mem_of_getElem? HBN.out)).1 (.int .u64 vb))
     clear hrow
     go_upto_region 45 with fail
     clear cg fg
     generalize wc.setCell ⟨b,vn,none⟩ (.int .u64 vb)=W7 at *
     have H8:=hid (H7.out.setPc ((p:Int)+1))
     have T8:=hid (T7.out.setCell (a:=⟨bm,9,none⟩) H7.out.bG.1 (.int .i64 ((p:Int)+1)))
     have f9:=frozen_of_row W7 bm 9 _ _ H7.out.box
     have c9:=row_of H7.out.box 9 _ rfl
     go_wp2
     go_ret
     exact⟨rfl,by rw[HF.out];exact postR_of H8.out T8.out⟩
   ·have hkc:(kk:Int)=4:=by omega
    have q0:((kk:Int)==0)=false:=by simp[hkc]
    have q1:((kk:Int)==1)=false:=by simp[hkc]
    have q2:((kk:Int)==2)=false:=by simp[hkc]
    have q3:((kk:Int)==3)=false:=by simp[hkc]
    have q4:((kk:Int)==4)=true:=by simp[hkc]
    have q5:((kk:Int)==5)=false:=by simp[hkc]
    have q6:((kk:Int)==6)=false:=by simp[hkc]
    have q7:((kk:Int)==7)=false:=by simp[hkc]
    have q8:((kk:Int)==8)=false:=by simp[hkc]
    have q9:((kk:Int)==9)=false:=by simp[hkc]
    have hkt:(kk:Int).toNat=4:=by omega
    have hdd:=HCP.out.dst (by show dstK (kk:Int)=true;rw[hkc];rfl)
    obtain⟨d,rfl⟩:∃ d:Nat,cd=d:=⟨cd.toNat,by have:=hdd.1;simp only at this;omega⟩
    have hd1:(d:Int)<(m1.regs.length:Int):=by have:=HG.out.regs;have:=hdd.2;have h0:=HH.out.r0;rw[HM1.out];simp only at *;omega
    obtain⟨y,hy⟩:∃ y,m1.regs[d]?=some y:=⟨_,lgRMc (by omega)⟩
    have hn0:0≤cn:=HCP.out.n0
    have hn1:cn<mostF f (kk:Int):=HCP.out.n1
    rw[show mostF f (kk:Int)=f.chans.length by rw[hkc];rfl] at hn1
    obtain⟨n,rfl⟩:∃ n:Nat,cn=n:=⟨cn.toNat,by omega⟩
    have hrl2:m1.t.reads.length=f.chans.length:=by rw[HM1.out];exact HG.out.reads
    obtain⟨qi,hqi⟩:∃ qi,m1.t.reads[n]?=some qi:=⟨_,lgRMc (by omega)⟩
    have hqr:=HG.out.rd qi (by have:=List.mem_of_getElem? hqi;rw[HM1.out] at this;exact this)
    obtain⟨q,rfl⟩:∃ q:Nat,qi=q:=⟨qi.toNat,by omega⟩
    obtain⟨v,hv⟩:∃ v,readV f ins n q=v:=⟨_,rfl⟩
    have HF:Hid (stepM f ins m={ setR { m1 with t:={ m1.t with reads:=m1.t.reads.set n ((q:Int)+1) } } d v with pc:=(p:Int)+1 }):=by
     show _=_
     have e1:(tickM m).t.reads.getD n 0=(q:Int):=by
      rw[List.getD_eq_getElem?_getD,show (tickM m).t.reads=m1.t.reads by rw[HM1.out];rfl,hqi];rfl
     rw[HRES.out,hk,← hv]
     show setR { tickM m with t:={ (tickM m).t with reads:=(tickM m).t.reads.set (n:Int).toNat ((tickM m).t.reads.getD (n:Int).toNat 0+1) } } d (match inAt ins (n:Int).toNat ((tickM m).t.reads.getD (n:Int).toNat 0).toNat with|some v=>v%2 ^ f.width.toNat|none=>0)=_
     rw[Int.toNat_natCast,e1,Int.toNat_natCast,HM1.out,← HP.out];rfl
    have HY:=hid hy
    have HQI:=hid hqi
    have HVV:=hid hv
    clear hdd hy hqi hv
    clear hkc hkt hk
    go_upto_region 30 with fail
    have l7:=keepS_cell (S:=[bm,cb]) (by simp) (row_of H4.out.box 7 _ rfl)
    have k2:=keepS_cell (S:=[bm,cb]) (by simp) r2
    have k3:=keepS_cell (S:=[bm,cb]) (by simp) r3
    have HBd:Hid (Below W4.heap.size W4 W4.drew):=(Below.refl _ _).drew
    have HK0:Hid (∀ x∈[bm,cb],W4.drew.heap[x]?=W4.heap[x]?):=fun _ _=>rfl
    refine wp_region_mixS [bm,cb] (.one [0,1,2,3,4,5,6,7,8] 9 (tailOf [10,11])) (fun j=>decide (10≤j)) (by kernel_rfl) (by kernel_rfl) rfl (by kernel_rfl) (fun _ d _ _ _ h=>by cases d <;> exact h) ?_
    generalize W4.drew=w0 at *
    refine mix_one (by simp only[opsOf,List.filterMap_cons,List.filterMap_nil,List.getElem?_toArray,List.getElem?_cons_succ,List.getElem?_cons_zero];rfl) ⟨_,keepS_of HK0.out⟩ ?_
    change wpQuiet _ _ _ _ [_,_,_,_,_,_,_,_,_] _
    (repeat (go_big_quiet_step (fail)))
    refine wpQuiet_nil ?_
    clear l7 k2 k3 r0 r1 r2 r3 r4 r5 r6 r7
    have H5:=hid (H4.out.keep HBd.out)
    have T5:=hid (T4.out.trans (Turn.of_below HBd.out))
    have HG5:=hid ((HBd.out.block _ (gsRMc HG4.out)).trans HG4.out)
    have HRD:=hid (refRead H5.out n q HH.out.w1 HH.out.w2 (by omega) HQI.out (by omega) hins (by have:=HH.out.chans;omega))
    rw[HVV.out] at HRD
    refine mix_step rfl ?_
    go_wp2_with (go_at_call 95;refine HRD.out.mono ?_;rintro e w5 ⟨rfl,hr5,ht5⟩;have HR5:=hid hr5;have HT5:=hid ht5;clear hr5 ht5)
    have hb5:w5.heap[bm]?=W4.heap[bm]?:=by rw[HR5.out.box,H4.out.box];simp[cellsR]
    have hc5:w5.heap[cb]?=W4.heap[cb]?:=(HT5.out.block cb (gsRMc HG5.out) (fun hg=>by have:=hGb _ hg;omega)).trans (HG5.out.trans HG4.out.symm)
    (first|refine⟨fun _=>⟨_,keepS_of (two_keep hb5 hc5)⟩,?_⟩|refine⟨⟨_,keepS_of (two_keep hb5 hc5)⟩,?_⟩)
    have cg:=row_of HR5.out.mem.regs d _ (u64s_get _ _ _ HY.out)
    have fg:=frozen_of_row w5 gb d _ _ HR5.out.mem.regs
    have H6:=hid (HR5.out.setReg d v)
    have T6:=hid ((T5.out.trans HT5.out).setCell (a:=⟨gb,d,none⟩) HR5.out.mem.sep.1 (.int .u64 v))
    clear hb5 hc5
    refine mix_tail [10,11] [_,_] _ _ rfl rfl ?_
    try (simp only[Act.put,List.setIfInBounds_toArray,List.set_cons_succ,List.set_cons_zero,List.getElem_toArray,List.getElem_cons_succ,List.getElem_cons_zero])
    go_upto_region 45 with fail
    clear cg fg
    simp only[Int.toNat_natCast] at H6
    generalize w5.setCell ⟨gb,d,none⟩ (.int .u64 v)=W6 at *
    have H7:=hid (H6.out.setPc ((p:Int)+1))
    have T7:=hid (T6.out.setCell (a:=⟨bm,9,none⟩) H6.out.bG.1 (.int .i64 ((p:Int)+1)))
    have f9:=frozen_of_row W6 bm 9 _ _ H6.out.box
    have c9:=row_of H6.out.box 9 _ rfl
    go_wp2
    go_ret
    exact⟨rfl,by rw[HF.out];exact postR_of H7.out T7.out⟩
   ·have hkc:(kk:Int)=5:=by omega
    have q0:((kk:Int)==0)=false:=by simp[hkc]
    have q1:((kk:Int)==1)=false:=by simp[hkc]
    have q2:((kk:Int)==2)=false:=by simp[hkc]
    have q3:((kk:Int)==3)=false:=by simp[hkc]
    have q4:((kk:Int)==4)=false:=by simp[hkc]
    have q5:((kk:Int)==5)=true:=by simp[hkc]
    have q6:((kk:Int)==6)=false:=by simp[hkc]
    have q7:((kk:Int)==7)=false:=by simp[hkc]
    have q8:((kk:Int)==8)=false:=by simp[hkc]
    have q9:((kk:Int)==9)=false:=by simp[hkc]
    have hkt:(kk:Int).toNat=5:=by omega
    have hua:ua=true:=by rw[← HUA.out,hkc];rfl
    have hvv:valM m cra=va:=by have:=HVA2.out;rw[hua,if_pos rfl,HM1.out] at this;exact this
    obtain⟨i0,hi,hz0,hz1,hz2⟩:=info_parts infoEv
    have hN:m1.t.outs.length≤1000000000:=by have:=HG.out.outs;rw[HM1.out];simp only;omega
    have HF:Hid (stepM f ins m={ m1 with pc:=(p:Int)+1,t:={ m1.t with outs:=m1.t.outs++[⟨cn,va⟩] } }):=by
     show _=_
     rw[HRES.out,hk,HM1.out,← hvv,← HP.out];rfl
    clear hua hvv
    clear hkc hkt hk
    go_upto_region 32 with fail
    have l12:=keepS_cell (S:=[bm,cb]) (by simp) (row_of H4.out.box 12 _ rfl)
    have k3:=keepS_cell (S:=[bm,cb]) (by simp) r3
    have HBd:Hid (Below W4.heap.size W4 W4.drew):=(Below.refl _ _).drew
    have HK0:Hid (∀ x∈[bm,cb],W4.drew.heap[x]?=W4.heap[x]?):=fun _ _=>rfl
    refine wp_region_mixS [bm,cb] (.one [0,1,2,3,4,5,6,7,8,9] 10 (.one [] 11 (tailOf [12,13,14,15]))) (fun j=>decide (12≤j)) (by kernel_rfl) (by kernel_rfl) rfl (by kernel_rfl) (fun _ d _ _ _ h=>by cases d <;> exact h) ?_
    generalize W4.drew=w0 at *
    refine mix_one (by simp only[opsOf,List.filterMap_cons,List.filterMap_nil,List.getElem?_toArray,List.getElem?_cons_succ,List.getElem?_cons_zero];rfl) ⟨_,keepS_of HK0.out⟩ ?_
    change wpQuiet _ _ _ _ [_,_,_,_,_,_,_,_,_,_] _
    (repeat (go_big_quiet_step (fail)))
    refine wpQuiet_nil ?_
    clear l12 k3 r0 r1 r2 r3 r4 r5 r6 r7
    have hal0:=(Below.refl w0.heap.size w0).alloc (Nat.le_refl _) (.cells #[.int .i64 cn,.int .u64 va] 163)
    have hal:=bcomp HBd.out hal0
    have H5:=hid (H4.out.keep hal)
    have T5:=hid (T4.out.trans (Turn.of_below hal))
    have HG5:=hid ((hal.block _ (gsRMc HG4.out)).trans HG4.out)
    have HK5:=hid (two_keep (hal.block bm (gsRMc H4.out.box)) (hal.block cb (gsRMc HG4.out)))
    have hown:=H5.out.mem.outs
    have hm1:m1.t.outs.length+1≤maxLen:=by unfold maxLen;omega
    have hbl:=(gsRMc H5.out.box)
    have hcl:=(gsRMc HG5.out)
    have HNB:Hid (ov.ownBlock≠some bm∧ov.ownBlock≠some cb):=⟨fun e=>by obtain⟨cs,hr⟩:=own_row hown e;exact row_ne H5.out.box hr (by decide) rfl,fun e=>by obtain⟨cs,hr⟩:=own_row hown e;exact row_ne HG5.out hr (by decide) rfl⟩
    have hnews:=many_new w0 (cellsEv ⟨cn,va⟩) 163
    clear hal hal0
    refine mix_step rfl ?_
    go_wp2_with fail
    (first|refine⟨fun _=>⟨_,keepS_of HK5.out⟩,?_⟩|refine⟨⟨_,keepS_of HK5.out⟩,?_⟩)
    refine mix_now ?_
    refine mix_step rfl ?_
    have h1c:∀ u∈cellsEv ⟨cn,va⟩,u.oneCell'=true:=by intro u hu;simp[cellsEv] at hu;rcases hu with rfl|rfl <;> rfl
    try (simp only[Act.put,List.setIfInBounds_toArray,List.set_cons_succ,List.set_cons_zero,List.getElem_toArray,List.getElem_cons_succ,List.getElem_cons_zero])
    refine wpList_append_own_at _ rfl (.tmp 185) (.tmp 190) 49 rfl 0 163 i0 (.agg #[.int .i64 0,.int .u64 0]) 2 16 Tryz.underlying49 hi hz0 hz1 hz2 rfl (by decide) _ _ _ rfl hown ⟨w0.heap.size,0,none⟩ 1 1 (cellsEv ⟨cn,va⟩) rfl rfl hnews h1c hm1 (by omega) (Nat.zero_le _) ?_
    intro v' w5 hown' hgrow _ hblk
    have hbx5:=(hgrow.block bm hbl (fun e=>HNB.out.1 e.symm)).trans H5.out.box
    have hcx5:=(hgrow.block cb hcl (fun e=>HNB.out.2 e.symm)).trans HG5.out
    have HHH:=hid (And.intro hown' (And.intro hgrow hblk))
    obtain⟨xa,xc,rfl,_⟩:=own_read hown'
    clear hown' hgrow hblk
    try (simp only[Act.put,List.setIfInBounds_toArray,List.set_cons_succ,List.set_cons_zero,List.getElem_toArray,List.getElem_cons_succ,List.getElem_cons_zero])
    go_wp2_with fail
    (first|refine⟨fun _=>⟨_,keepS_of (two_keep (hbx5.trans H4.out.box.symm) (hcx5.trans HG4.out.symm))⟩,?_⟩|refine⟨⟨_,keepS_of (two_keep (hbx5.trans H4.out.box.symm) (hcx5.trans HG4.out.symm))⟩,?_⟩)
    have c12:=row_of hbx5 12 _ rfl
    have f12:=frozen_of_row w5 bm 12 _ _ hbx5
    have M6:=hid (H5.out.setOuts _ HHH.out.1 HHH.out.2.1 HHH.out.2.2)
    have T6:=hid ((T5.out.grown HHH.out.2.1 (fun b hb=>(H5.out.mem.osep.1 b hb).1)).setCell (a:=⟨bm,12,none⟩) H5.out.bG.1 (.slice xa (m1.t.outs.length+1) xc))
    have hcb:cb≠bm:=row_ne HG5.out H5.out.box (by decide)
    have HG6:=hid ((heap_setCell_other w5 ⟨bm,12,none⟩ cb (.slice xa (m1.t.outs.length+1) xc) (by simpa using hcb)).trans hcx5)
    have GR:Hid (∀ b,Grow G (w0.alloc (.cells #[.int .i64 cn,.int .u64 va] 163)) w5 b→Grow G w (w5.setCell ⟨bm,12,none⟩ (.slice xa (m1.t.outs.length+1) xc)) b):=fun b hb=>hb.elim .inl fun k=>.inr ⟨Nat.le_trans T5.out.size k.1,by simpa using k.2⟩
    have HGB:=hid H5.out.bG.1
    clear HHH hown hbx5 hcx5 hcb hbl hcl hnews
    refine mix_tail [12,13,14,15] [_,_,_,_] _ _ rfl rfl ?_
    simp only[Act.put,List.setIfInBounds_toArray,List.set_cons_succ,List.set_cons_zero,List.getElem_toArray,List.getElem_cons_succ,List.getElem_cons_zero]
    go_upto_region 45 with fail
    clear c12 f12
    generalize w5.setCell ⟨bm,12,none⟩ (.slice xa (m1.t.outs.length+1) xc)=W6 at *
    have f9:=frozen_of_row W6 bm 9 _ _ M6.out.box
    have c9:=row_of M6.out.box 9 _ rfl
    have H9:=hid (M6.out.setPc ((p:Int)+1))
    have T9:=hid (T6.out.setCell (a:=⟨bm,9,none⟩) HGB.out (.int .i64 ((p:Int)+1)))
    go_wp2
    go_ret
    exact⟨rfl,by rw[HF.out];exact postR_in H9.out (fun b hb=>(GR.out b hb).elim .inl fun k=>.inr ⟨k.1,by simpa using k.2⟩) T9.out⟩
   ·have hkc:(kk:Int)=6:=by omega
    have q0:((kk:Int)==0)=false:=by simp[hkc]
    have q1:((kk:Int)==1)=false:=by simp[hkc]
    have q2:((kk:Int)==2)=false:=by simp[hkc]
    have q3:((kk:Int)==3)=false:=by simp[hkc]
    have q4:((kk:Int)==4)=false:=by simp[hkc]
    have q5:((kk:Int)==5)=false:=by simp[hkc]
    have q6:((kk:Int)==6)=true:=by simp[hkc]
    have q7:((kk:Int)==7)=false:=by simp[hkc]
    have q8:((kk:Int)==8)=false:=by simp[hkc]
    have q9:((kk:Int)==9)=false:=by simp[hkc]
    have hkt:(kk:Int).toNat=6:=by omega
    have hua:ua=true:=by rw[← HUA.out,hkc];rfl
    have hvv:valM m cra=va:=by have:=HVA2.out;rw[hua,if_pos rfl,HM1.out] at this;exact this
    obtain⟨i0,hi,hz0,hz1,hz2⟩:=info_parts infoEv
    have hN:m1.t.rels.length≤1000000000:=by have:=HG.out.rels;rw[HM1.out];simp only;omega
    have hdd:=HCP.out.dst (by show dstK (kk:Int)=true;rw[hkc];rfl)
    obtain⟨d,rfl⟩:∃ d:Nat,cd=d:=⟨cd.toNat,by have:=hdd.1;simp only at this;omega⟩
    have hd1:(d:Int)<(m1.regs.length:Int):=by have:=HG.out.regs;have:=hdd.2;have h0:=HH.out.r0;rw[HM1.out];simp only at *;omega
    obtain⟨y,hy⟩:∃ y,m1.regs[d]?=some y:=⟨_,lgRMc (by omega)⟩
    have HY:=hid hy
    clear hy hdd
    have HF:Hid (stepM f ins m={ setR { m1 with t:={ m1.t with rels:=m1.t.rels++[⟨cn,va⟩] } } d va with pc:=(p:Int)+1 }):=by
     show _=_
     rw[HRES.out,hk,HM1.out,← hvv,← HP.out];rfl
    clear hua hvv
    clear hkc hkt hk
    go_upto_region 34 with fail
    have l12:=keepS_cell (S:=[bm,cb]) (by simp) (row_of H4.out.box 13 _ rfl)
    have k3:=keepS_cell (S:=[bm,cb]) (by simp) r3
    have HBd:Hid (Below W4.heap.size W4 W4.drew):=(Below.refl _ _).drew
    have HK0:Hid (∀ x∈[bm,cb],W4.drew.heap[x]?=W4.heap[x]?):=fun _ _=>rfl
    refine wp_region_mixS [bm,cb] (.one [0,1,2,3,4,5,6,7,8,9] 10 (.one [] 11 (tailOf [12,13,14,15]))) (fun j=>decide (12≤j)) (by kernel_rfl) (by kernel_rfl) rfl (by kernel_rfl) (fun _ d _ _ _ h=>by cases d <;> exact h) ?_
    generalize W4.drew=w0 at *
    refine mix_one (by simp only[opsOf,List.filterMap_cons,List.filterMap_nil,List.getElem?_toArray,List.getElem?_cons_succ,List.getElem?_cons_zero];rfl) ⟨_,keepS_of HK0.out⟩ ?_
    change wpQuiet _ _ _ _ [_,_,_,_,_,_,_,_,_,_] _
    (repeat (go_big_quiet_step (fail)))
    refine wpQuiet_nil ?_
    clear l12 k3 r0 r1 r2 r3 r4 r5 r6 r7
    have hal0:=(Below.refl w0.heap.size w0).alloc (Nat.le_refl _) (.cells #[.int .i64 cn,.int .u64 va] 163)
    have hal:=bcomp HBd.out hal0
    have H5:=hid (H4.out.keep hal)
    have T5:=hid (T4.out.trans (Turn.of_below hal))
    have HG5:=hid ((hal.block _ (gsRMc HG4.out)).trans HG4.out)
    have HK5:=hid (two_keep (hal.block bm (gsRMc H4.out.box)) (hal.block cb (gsRMc HG4.out)))
    have hown:=H5.out.mem.rels
    have hm1:m1.t.rels.length+1≤maxLen:=by unfold maxLen;omega
    have hbl:=(gsRMc H5.out.box)
    have hcl:=(gsRMc HG5.out)
    have HNB:Hid (rv.ownBlock≠some bm∧rv.ownBlock≠some cb):=⟨fun e=>by obtain⟨cs,hr⟩:=own_row hown e;exact row_ne H5.out.box hr (by decide) rfl,fun e=>by obtain⟨cs,hr⟩:=own_row hown e;exact row_ne HG5.out hr (by decide) rfl⟩
    have hnews:=many_new w0 (cellsEv ⟨cn,va⟩) 163
    clear hal hal0
    refine mix_step rfl ?_
    go_wp2_with fail
    (first|refine⟨fun _=>⟨_,keepS_of HK5.out⟩,?_⟩|refine⟨⟨_,keepS_of HK5.out⟩,?_⟩)
    refine mix_now ?_
    refine mix_step rfl ?_
    have h1c:∀ u∈cellsEv ⟨cn,va⟩,u.oneCell'=true:=by intro u hu;simp[cellsEv] at hu;rcases hu with rfl|rfl <;> rfl
    try (simp only[Act.put,List.setIfInBounds_toArray,List.set_cons_succ,List.set_cons_zero,List.getElem_toArray,List.getElem_cons_succ,List.getElem_cons_zero])
    refine wpList_append_own_at _ rfl (.tmp 202) (.tmp 207) 49 rfl 0 163 i0 (.agg #[.int .i64 0,.int .u64 0]) 2 16 Tryz.underlying49 hi hz0 hz1 hz2 rfl (by decide) _ _ _ rfl hown ⟨w0.heap.size,0,none⟩ 1 1 (cellsEv ⟨cn,va⟩) rfl rfl hnews h1c hm1 (by omega) (Nat.zero_le _) ?_
    intro v' w5 hown' hgrow _ hblk
    have hbx5:=(hgrow.block bm hbl (fun e=>HNB.out.1 e.symm)).trans H5.out.box
    have hcx5:=(hgrow.block cb hcl (fun e=>HNB.out.2 e.symm)).trans HG5.out
    have HHH:=hid (And.intro hown' (And.intro hgrow hblk))
    obtain⟨xa,xc,rfl,_⟩:=own_read hown'
    clear hown' hgrow hblk
    try (simp only[Act.put,List.setIfInBounds_toArray,List.set_cons_succ,List.set_cons_zero,List.getElem_toArray,List.getElem_cons_succ,List.getElem_cons_zero])
    go_wp2_with fail
    (first|refine⟨fun _=>⟨_,keepS_of (two_keep (hbx5.trans H4.out.box.symm) (hcx5.trans HG4.out.symm))⟩,?_⟩|refine⟨⟨_,keepS_of (two_keep (hbx5.trans H4.out.box.symm) (hcx5.trans HG4.out.symm))⟩,?_⟩)
    have c12:=row_of hbx5 13 _ rfl
    have f12:=frozen_of_row w5 bm 13 _ _ hbx5
    have M6:=hid (H5.out.setRels _ HHH.out.1 HHH.out.2.1 HHH.out.2.2)
    have T6:=hid ((T5.out.grown HHH.out.2.1 (fun b hb=>(H5.out.mem.osep.2.1 b hb).1)).setCell (a:=⟨bm,13,none⟩) H5.out.bG.1 (.slice xa (m1.t.rels.length+1) xc))
    have hcb:cb≠bm:=row_ne HG5.out H5.out.box (by decide)
    have HG6:=hid ((heap_setCell_other w5 ⟨bm,13,none⟩ cb (.slice xa (m1.t.rels.length+1) xc) (by simpa using hcb)).trans hcx5)
    have GR:Hid (∀ b,Grow G (w0.alloc (.cells #[.int .i64 cn,.int .u64 va] 163)) w5 b→Grow G w (w5.setCell ⟨bm,13,none⟩ (.slice xa (m1.t.rels.length+1) xc)) b):=fun b hb=>hb.elim .inl fun k=>.inr ⟨Nat.le_trans T5.out.size k.1,by simpa using k.2⟩
    have HGB:=hid H5.out.bG.1
    clear HHH hown hbx5 hcx5 hcb hbl hcl hnews
    refine mix_tail [12,13,14,15] [_,_,_,_] _ _ rfl rfl ?_
    simp only[Act.put,List.setIfInBounds_toArray,List.set_cons_succ,List.set_cons_zero,List.getElem_toArray,List.getElem_cons_succ,List.getElem_cons_zero]
    go_upto_region 35 with fail
    clear c12 f12
    generalize w5.setCell ⟨bm,13,none⟩ (.slice xa (m1.t.rels.length+1) xc)=W6 at *
    have l7:=ext_cell (row_of M6.out.box 7 _ rfl)
    have l2:=ext_cell (row_of HG6.out 2 (.int .i64 d) rfl)
    (refine wp_region_calm_tail 7 (by kernel_rfl) (by kernel_rfl) ?_;simp only[List.take_succ_cons,List.take_zero,List.drop_succ_cons,List.drop_zero];(repeat (go_big_quiet_step (fail)));refine wpQuiet_nil ?_;intro wc hwc)
    clear l7 l2
    have H7:=hid (M6.out.keep hwc)
    have T7:=hid (T6.out.trans (Turn.of_below hwc))
    have hsz7:=hwc.size
    clear hwc
    have cg:=row_of H7.out.mem.regs d _ (u64s_get _ _ _ HY.out)
    have fg:=frozen_of_row wc gb d _ _ H7.out.mem.regs
    have H8:=hid (H7.out.setReg d va)
    have T8:=hid (T7.out.setCell (a:=⟨gb,d,none⟩) H4.out.mem.sep.1 (.int .u64 va))
    have hsz8:wc.heap.size=(wc.setCell ⟨gb,d,none⟩ (.int .u64 va)).heap.size:=by simp
    go_upto_region 45 with fail
    clear cg fg
    simp only[Int.toNat_natCast] at H8
    generalize wc.setCell ⟨gb,d,none⟩ (.int .u64 va)=W8 at *
    have f9:=frozen_of_row W8 bm 9 _ _ H8.out.box
    have c9:=row_of H8.out.box 9 _ rfl
    have H9:=hid (H8.out.setPc ((p:Int)+1))
    have T9:=hid (T8.out.setCell (a:=⟨bm,9,none⟩) HGB.out (.int .i64 ((p:Int)+1)))
    go_wp2
    go_ret
    exact⟨rfl,by rw[HF.out];exact postR_in H9.out (fun b hb=>(GR.out b hb).elim .inl fun k=>.inr ⟨k.1,by simp;omega⟩) T9.out⟩
   ·have hkc:(kk:Int)=7:=by omega
    have q0:((kk:Int)==0)=false:=by simp[hkc]
    have q1:((kk:Int)==1)=false:=by simp[hkc]
    have q2:((kk:Int)==2)=false:=by simp[hkc]
    have q3:((kk:Int)==3)=false:=by simp[hkc]
    have q4:((kk:Int)==4)=false:=by simp[hkc]
    have q5:((kk:Int)==5)=false:=by simp[hkc]
    have q6:((kk:Int)==6)=false:=by simp[hkc]
    have q7:((kk:Int)==7)=true:=by simp[hkc]
    have q8:((kk:Int)==8)=false:=by simp[hkc]
    have q9:((kk:Int)==9)=false:=by simp[hkc]
    have hkt:(kk:Int).toNat=7:=by omega
    have HF:Hid (stepM f ins m={ m1 with pc:=cn }):=by show _=_;rw[HRES.out,hk,HM1.out];rfl
    have H5:=hid (H4.out.setPc cn)
    have T5:=hid (T4.out.setCell (a:=⟨bm,9,none⟩) H4.out.bG.1 (.int .i64 cn))
    have f9:=frozen_of_row W4 bm 9 _ _ H4.out.box
    have c9:=row_of H4.out.box 9 _ rfl
    clear hkc hkt hk
    go_wp2
    go_ret
    exact⟨rfl,by rw[HF.out];exact postR_of H5.out T5.out⟩
   ·have hkc:(kk:Int)=8:=by omega
    have q0:((kk:Int)==0)=false:=by simp[hkc]
    have q1:((kk:Int)==1)=false:=by simp[hkc]
    have q2:((kk:Int)==2)=false:=by simp[hkc]
    have q3:((kk:Int)==3)=false:=by simp[hkc]
    have q4:((kk:Int)==4)=false:=by simp[hkc]
    have q5:((kk:Int)==5)=false:=by simp[hkc]
    have q6:((kk:Int)==6)=false:=by simp[hkc]
    have q7:((kk:Int)==7)=false:=by simp[hkc]
    have q8:((kk:Int)==8)=true:=by simp[hkc]
    have q9:((kk:Int)==9)=false:=by simp[hkc]
    have hkt:(kk:Int).toNat=8:=by omega
    have hua:ua=true:=by rw[← HUA.out,hkc];rfl
    have hvv:valM m cra=va:=by have:=HVA2.out;rw[hua,if_pos rfl,HM1.out] at this;exact this
    obtain⟨i0,hi,hz0,hz1,hz2⟩:=info_parts infoBool
    have hN:m1.t.brs.length≤1000000000:=by have:=HG.out.brs;rw[HM1.out];simp only;omega
    cases hz:(va != 0)
    ·have HF:Hid (stepM f ins m={ m1 with pc:=(p:Int)+1,t:={ m1.t with brs:=m1.t.brs++[false] } }):=by
      show _=_
      have hz':=hz
      rw[HRES.out,hk,HM1.out]
      show ({ tickM m with pc:=if valM (tickM m) cra=0 then (tickM m).pc else cn,t:={ (tickM m).t with brs:=(tickM m).t.brs++[valM (tickM m) cra != 0] } }:MachD)=_
      rw[show valM (tickM m) cra=va from hvv,hz',if_pos (by simpa using hz')]
      simp only[tickM,HP.out]
     have hzz:=hz
     clear hua hvv hz
     clear hkc hkt hk
     have hal:Below W4.heap.size W4 (W4.alloc (.cells #[.bool false] 4)):=(Below.refl _ _).alloc (Nat.le_refl _) _
     have H5:=hid (H4.out.keep hal)
     have T5:=hid (T4.out.trans (Turn.of_below hal))
     have HG5:=hid ((hal.block _ (gsRMc HG4.out)).trans HG4.out)
     have hown:=H5.out.mem.brs
     have hm1:m1.t.brs.length+1≤maxLen:=by unfold maxLen;omega
     have hbl:=(gsRMc H5.out.box)
     have hcl:=(gsRMc HG5.out)
     have HNB:Hid (bv.ownBlock≠some bm∧bv.ownBlock≠some cb):=⟨fun e=>by obtain⟨cs,hr⟩:=own_row H5.out.mem.brs e;exact row_ne H5.out.box hr (by decide) rfl,fun e=>by obtain⟨cs,hr⟩:=own_row H5.out.mem.brs e;exact row_ne HG5.out hr (by decide) rfl⟩
     have hnews:=many_new W4 (cellsBool false) 4
     have l14:=row_of H4.out.box 14 _ rfl
     clear hal
     have hzl:(va != 0)=false:=hzz
     go_upto_region 40 with (at_builtin;refine wpList_append_own_at _ rfl (.tmp 231) (.tmp 234) 50 rfl 0 4 i0 (.bool false) 1 1 Tryz.underlying50 hi hz0 hz1 hz2 rfl (by decide) _ _ _ rfl hown ⟨W4.heap.size,0,none⟩ 1 1 (cellsBool _) rfl rfl hnews (by intro u hu;simp[cellsBool] at hu;subst hu;rfl) hm1 (by omega) (Nat.zero_le _) ?_;intro v' w5 hown' hgrow _ hblk;have hbx5:=(hgrow.block bm hbl (fun e=>HNB.out.1 e.symm)).trans H5.out.box;have c14:=row_of hbx5 14 _ rfl;have f14:=frozen_of_row w5 bm 14 _ _ hbx5;have HGC5:=hid ((hgrow.block _ hcl (fun e=>HNB.out.2 e.symm)).trans HG5.out);have HHH:=hid (And.intro hown' (And.intro hgrow hblk));obtain⟨xa,xc,rfl,_⟩:=own_read hown';clear hown' hgrow hblk hbx5)
     have M6:=hid (H5.out.setBrs _ HHH.out.1 HHH.out.2.1 HHH.out.2.2)
     have T6:=hid ((T5.out.grown HHH.out.2.1 (fun b hb=>(H5.out.mem.osep.2.2 b hb).1)).setCell (a:=⟨bm,14,none⟩) H5.out.bG.1 (.slice xa (m1.t.brs.length+1) xc))
     have hcb:cb≠bm:=row_ne HG5.out H5.out.box (by decide)
     have HG6:=hid ((heap_setCell_other w5 ⟨bm,14,none⟩ cb (.slice xa (m1.t.brs.length+1) xc) (by simpa using hcb)).trans HGC5.out)
     have GR:Hid (∀ b,Grow G (W4.alloc (.cells #[.bool false] 4)) w5 b→Grow G w (w5.setCell ⟨bm,14,none⟩ (.slice xa (m1.t.brs.length+1) xc)) b):=fun b hb=>hb.elim .inl fun k=>.inr ⟨Nat.le_trans T5.out.size k.1,by simpa using k.2⟩
     clear HHH c14 f14 hown HGC5 hcb hbl hcl hnews l14 r0 r1 r2 r3 r4 r5 r6 r7
     generalize w5.setCell ⟨bm,14,none⟩ (.slice xa (m1.t.brs.length+1) xc)=W6 at *
     have r3:=row_of HG6.out 3 (.int .i64 cn) rfl
     have f9:=frozen_of_row W6 bm 9 _ _ M6.out.box
     have c9:=row_of M6.out.box 9 _ rfl
     have H7:=hid (M6.out.setPc ((p:Int)+1))
     have T7:=hid (T6.out.setCell (a:=⟨bm,9,none⟩) H5.out.bG.1 (.int .i64 ((p:Int)+1)))
     go_wp2
     go_ret
     exact⟨rfl,by rw[HF.out];exact postR_in H7.out (fun b hb=>(GR.out b hb).elim .inl fun k=>.inr ⟨k.1,by simpa using k.2⟩) T7.out⟩
    ·have HF:Hid (stepM f ins m={ m1 with pc:=cn,t:={ m1.t with brs:=m1.t.brs++[true] } }):=by
      show _=_
      have hz':=hz
      rw[HRES.out,hk,HM1.out]
      show ({ tickM m with pc:=if valM (tickM m) cra=0 then (tickM m).pc else cn,t:={ (tickM m).t with brs:=(tickM m).t.brs++[valM (tickM m) cra != 0] } }:MachD)=_
      rw[show valM (tickM m) cra=va from hvv,hz',if_neg (by simpa using hz')]
      simp only[tickM,HP.out]
     have hzz:=hz
     clear hua hvv hz
     clear hkc hkt hk
     have hal:Below W4.heap.size W4 (W4.alloc (.cells #[.bool true] 4)):=(Below.refl _ _).alloc (Nat.le_refl _) _
     have H5:=hid (H4.out.keep hal)
     have T5:=hid (T4.out.trans (Turn.of_below hal))
     have HG5:=hid ((hal.block _ (gsRMc HG4.out)).trans HG4.out)
     have hown:=H5.out.mem.brs
     have hm1:m1.t.brs.length+1≤maxLen:=by unfold maxLen;omega
     have hbl:=(gsRMc H5.out.box)
     have hcl:=(gsRMc HG5.out)
     have HNB:Hid (bv.ownBlock≠some bm∧bv.ownBlock≠some cb):=⟨fun e=>by obtain⟨cs,hr⟩:=own_row H5.out.mem.brs e;exact row_ne H5.out.box hr (by decide) rfl,fun e=>by obtain⟨cs,hr⟩:=own_row H5.out.mem.brs e;exact row_ne HG5.out hr (by decide) rfl⟩
     have hnews:=many_new W4 (cellsBool true) 4
     have l14:=row_of H4.out.box 14 _ rfl
     clear hal
     have hzl:(va != 0)=true:=hzz
     go_upto_region 40 with (at_builtin;refine wpList_append_own_at _ rfl (.tmp 231) (.tmp 234) 50 rfl 0 4 i0 (.bool false) 1 1 Tryz.underlying50 hi hz0 hz1 hz2 rfl (by decide) _ _ _ rfl hown ⟨W4.heap.size,0,none⟩ 1 1 (cellsBool _) rfl rfl hnews (by intro u hu;simp[cellsBool] at hu;subst hu;rfl) hm1 (by omega) (Nat.zero_le _) ?_;intro v' w5 hown' hgrow _ hblk;have hbx5:=(hgrow.block bm hbl (fun e=>HNB.out.1 e.symm)).trans H5.out.box;have c14:=row_of hbx5 14 _ rfl;have f14:=frozen_of_row w5 bm 14 _ _ hbx5;have HGC5:=hid ((hgrow.block _ hcl (fun e=>HNB.out.2 e.symm)).trans HG5.out);have HHH:=hid (And.intro hown' (And.intro hgrow hblk));obtain⟨xa,xc,rfl,_⟩:=own_read hown';clear hown' hgrow hblk hbx5)
     have M6:=hid (H5.out.setBrs _ HHH.out.1 HHH.out.2.1 HHH.out.2.2)
     have T6:=hid ((T5.out.grown HHH.out.2.1 (fun b hb=>(H5.out.mem.osep.2.2 b hb).1)).setCell (a:=⟨bm,14,none⟩) H5.out.bG.1 (.slice xa (m1.t.brs.length+1) xc))
     have hcb:cb≠bm:=row_ne HG5.out H5.out.box (by decide)
     have HG6:=hid ((heap_setCell_other w5 ⟨bm,14,none⟩ cb (.slice xa (m1.t.brs.length+1) xc) (by simpa using hcb)).trans HGC5.out)
     have GR:Hid (∀ b,Grow G (W4.alloc (.cells #[.bool true] 4)) w5 b→Grow G w (w5.setCell ⟨bm,14,none⟩ (.slice xa (m1.t.brs.length+1) xc)) b):=fun b hb=>hb.elim .inl fun k=>.inr ⟨Nat.le_trans T5.out.size k.1,by simpa using k.2⟩
     clear HHH c14 f14 hown HGC5 hcb hbl hcl hnews l14 r0 r1 r2 r3 r4 r5 r6 r7
     generalize w5.setCell ⟨bm,14,none⟩ (.slice xa (m1.t.brs.length+1) xc)=W6 at *
     have r3:=row_of HG6.out 3 (.int .i64 cn) rfl
     have f9:=frozen_of_row W6 bm 9 _ _ M6.out.box
     have c9:=row_of M6.out.box 9 _ rfl
     have H7:=hid (M6.out.setPc (cn))
     have T7:=hid (T6.out.setCell (a:=⟨bm,9,none⟩) H5.out.bG.1 (.int .i64 (cn)))
     go_wp2
     go_ret
     exact⟨rfl,by rw[HF.out];exact postR_in H7.out (fun b hb=>(GR.out b hb).elim .inl fun k=>.inr ⟨k.1,by simpa using k.2⟩) T7.out⟩
   ·have hkc:(kk:Int)=9:=by omega
    have q0:((kk:Int)==0)=false:=by simp[hkc]
    have q1:((kk:Int)==1)=false:=by simp[hkc]
    have q2:((kk:Int)==2)=false:=by simp[hkc]
    have q3:((kk:Int)==3)=false:=by simp[hkc]
    have q4:((kk:Int)==4)=false:=by simp[hkc]
    have q5:((kk:Int)==5)=false:=by simp[hkc]
    have q6:((kk:Int)==6)=false:=by simp[hkc]
    have q7:((kk:Int)==7)=false:=by simp[hkc]
    have q8:((kk:Int)==8)=false:=by simp[hkc]
    have q9:((kk:Int)==9)=true:=by simp[hkc]
    have hkt:(kk:Int).toNat=9:=by omega
    have HF:Hid (stepM f ins m={ m1 with t:={ m1.t with status:=0 } }):=by
     show _=_
     rw[HRES.out,hk,HM1.out]
     show endM (tickM m) 0=_
     simp only[endM,tickM,Int.add_sub_cancel]
    have H5:=hid (H4.out.setStatus 0)
    have T5:=hid (T4.out.setCell (a:=⟨bm,10,none⟩) H4.out.bG.1 (.int .u8 0))
    have f10:=frozen_of_row W4 bm 10 _ _ H4.out.box
    have c10:=row_of H4.out.box 10 _ rfl
    clear hkc hkt hk
    go_wp2
    go_ret
    exact⟨rfl,by rw[HF.out];exact postR_of H5.out T5.out⟩
end Go.Proofs.YtkjkpddajjmloaaGreatDoor
