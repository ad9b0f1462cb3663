/- Contracts of few and Few: copies whose lists are cut. Condition: what comes in reads as the list, the program. -/
import Derived.Test.YtgllkgedjplpdaaGreatDoorMix
import Derived.Test.YtgllkgedjplpdaaGreatDoorKitE
import Derived.Test.YtgllkgedjplpdaaGreatDoorRefF
import Derived.Test.YtgllkgedjplpdaaGreatDoorMixK
import Derived.Test.YtgllkgedjplpdaaGreatDoorForm
set_option linter.all false
set_option maxRecDepth 1000000
set_option maxHeartbeats 12800000
set_option linter.unusedVariables false
set_option linter.unusedSimpArgs false
namespace Go.Proofs.YtgllkgedjplpdaaGreatDoor
open Go.ChangeShapes Go.WideShapes Go.ChangeAt Go.RowKit
def cutArgs (x:InstrD):InstrD:={ x with args:=x.args.take 34 }
def fewL (l:List InstrD):List InstrD:=(l.take 30).map cutArgs
theorem RdInstrs.cut {lo:Option (Nat->Prop)} {w:World} {a:Option Addr} {c n:Nat} {l:List InstrD} (h:RdInstrs lo w (.slice a l.length c) l) (hn:n<=l.length):RdInstrs lo w (.slice a n c) (l.take n):=by
 obtain ⟨a',c',e,hl,hr⟩:=h
 simp only [Value.slice.injEq] at e
 obtain ⟨rfl,_,rfl⟩:=e
 refine ⟨a,c,by rw [List.length_take,Nat.min_eq_left hn],⟨by rw [List.length_take];omega,by rw [List.length_take];omega⟩,fun i s hs=>hr i s ?_⟩
 rw [List.getElem?_take] at hs
 split at hs
 ·exact hs
 ·cases hs
theorem RdArgs.cut {lo:Option (Nat->Prop)} {w:World} {a:Option Addr} {c n:Nat} {l:List ArgD} (h:RdArgs lo w (.slice a l.length c) l) (hn:n<=l.length):RdArgs lo w (.slice a n c) (l.take n):=by
 obtain ⟨a',c',e,hl,hr⟩:=h
 simp only [Value.slice.injEq] at e
 obtain ⟨rfl,_,rfl⟩:=e
 refine ⟨a,c,by rw [List.length_take,Nat.min_eq_left hn],⟨by rw [List.length_take];omega,by rw [List.length_take];omega⟩,fun i s hs=>hr i s ?_⟩
 rw [List.getElem?_take] at hs
 split at hs
 ·exact hs
 ·cases hs
theorem RdStrs.cut {lo:Option (Nat->Prop)} {w:World} {a:Option Addr} {c n:Nat} {l:List ByteArray} (h:RdStrs lo w (.slice a l.length c) l) (hn:n<=l.length):RdStrs lo w (.slice a n c) (l.take n):=by
 obtain ⟨a',c',e,hl,hr⟩:=h
 simp only [Value.slice.injEq] at e
 obtain ⟨rfl,_,rfl⟩:=e
 refine ⟨a,c,by rw [List.length_take,Nat.min_eq_left hn],⟨by rw [List.length_take];omega,by rw [List.length_take];omega⟩,fun i s hs=>hr i s ?_⟩
 rw [List.getElem?_take] at hs
 split at hs
 ·exact hs
 ·cases hs
theorem RdArrs.cut {lo:Option (Nat->Prop)} {w:World} {a:Option Addr} {c n:Nat} {l:List ArrD} (h:RdArrs lo w (.slice a l.length c) l) (hn:n<=l.length):RdArrs lo w (.slice a n c) (l.take n):=by
 obtain ⟨a',c',e,hl,hr⟩:=h
 simp only [Value.slice.injEq] at e
 obtain ⟨rfl,_,rfl⟩:=e
 refine ⟨a,c,by rw [List.length_take,Nat.min_eq_left hn],⟨by rw [List.length_take];omega,by rw [List.length_take];omega⟩,fun i s hs=>hr i s ?_⟩
 rw [List.getElem?_take] at hs
 split at hs
 ·exact hs
 ·cases hs
theorem set_hF {g:Nat->Prop} {w:World} {b o:Nat} {u:Value} {T0:TypeId} {cs:Array Value} (hb:w.heap[b]?=some (.cells cs T0 (0,0))):∀ T b',Any T->b'<w.heap.size->Free (some g) T w b'->Free (some g) T (w.setCell ⟨b,o,none⟩ u) b':=by
 intro T b' _ _ h k e
 cases e
 obtain ⟨h1,cs',h2⟩:=h g rfl
 refine ⟨h1,?_⟩
 by_cases hbb:b'=b
 ·subst hbb
  rw [hb] at h2
  simp at h2
  obtain ⟨rfl,rfl⟩:=h2
  exact ⟨_,heap_setCell_same _ _ o _ _ _ hb⟩
 ·exact ⟨cs',(heap_setCell_other w ⟨b,o,none⟩ b' u (by simpa using hbb)).trans h2⟩
theorem set_hC {g:Nat->Prop} {w:World} {b o:Nat} {u:Value} {T0:TypeId} {cs:Array Value} (hb:w.heap[b]?=some (.cells cs T0 (0,0))):∀ T b' o' v,T ≠ T0->Free (some g) T w b'->w.cell? ⟨b',o',none⟩=some v->(w.setCell ⟨b,o,none⟩ u).cell? ⟨b',o',none⟩=some v:=by
 intro T b' o' v hT hf hc
 have hbb:b' ≠ b:=fun e=>by
  subst e
  obtain ⟨_,cs',h2⟩:=hf g rfl
  rw [hb] at h2
  simp at h2
  exact hT h2.2.symm
 rw [World.cell?_of_block (w:=w) (heap_setCell_other w ⟨b,o,none⟩ b' u (by simpa using hbb))]
 exact hc
theorem cell_set_off {w:World} {b o o':Nat} {u v:Value} (hne:o' ≠ o) (hc:w.cell? ⟨b,o',none⟩=some v):(w.setCell ⟨b,o,none⟩ u).cell? ⟨b,o',none⟩=some v:=by
 rw [World.cell?_setCell_other]
 ·exact hc
 ·simpa using fun e=>hne e
theorem RdInstrs.setArgs {g:Nat->Prop} {w:World} {b o c k:Nat} {l:List InstrD} {x:InstrD} {av:Value} {args:List ArgD} (h:RdInstrs (some g) w (.slice (some ⟨b,o,none⟩) l.length c) l) (hx:l[k]?=some x) (ha:RdArgs (some g) w av args) :
  RdInstrs (some g) (w.setCell ⟨b,o+k * 7+4,none⟩ av) (.slice (some ⟨b,o,none⟩) l.length c) (l.set k { x with args:=args }):=by
 obtain ⟨a',c',e,hl,hr⟩:=h
 simp only [Value.slice.injEq] at e
 obtain ⟨rfl,_,rfl⟩:=e
 obtain ⟨b',o',av0,e0,hf0,_,_,_,_,hc4,_⟩:=hr k x hx
 simp only [Option.some.injEq,Addr.mk.injEq,and_true] at e0
 obtain ⟨rfl,rfl⟩:=e0
 obtain ⟨_,cs,hb⟩:=hf0 g rfl
 have hst:∀ (y:InstrD) (v:Value),RdInstr (some g) w y v->RdInstr (some g) (w.setCell ⟨b,o+k * 7+4,none⟩ av) y v:=fun y v hy=>
  RdInstr.map (S:=fun T=>T ≠ 50) (fun T b' _=>set_hF hb T b' trivial) (set_hC hb) (by decide) hy
 refine ⟨some ⟨b,o,none⟩,c,by rw [List.length_set],by rw [List.length_set];exact hl,fun i s hs=>?_⟩
 rw [List.getElem?_set] at hs
 by_cases hik:k=i
 ·subst hik
  have hkl:k<l.length:=(lE hx).1
  rw [if_pos rfl,if_pos hkl] at hs
  cases hs
  obtain ⟨b',o',av1,e1,hf1,h0,h1,h2,h3,h4,h5,h6,h7⟩:=hr k x hx
  simp only [Option.some.injEq,Addr.mk.injEq,and_true] at e1
  obtain ⟨rfl,rfl⟩:=e1
  refine ⟨b,o,av,rfl,set_hF hb _ _ trivial (block_lt_of_cell h0) hf1,cell_set_off (by omega) h0,cell_set_off (by omega) h1,cell_set_off (by omega) h2,cell_set_off (by omega) h3,World.cell?_setCell_same _ _ _ h4,cell_set_off (by omega) h5,cell_set_off (by omega) h6,?_⟩
  have:=hst { x with args:=args } av ⟨ha,h7.2⟩
  exact this
 ·rw [if_neg hik] at hs
  obtain ⟨b',o',av1,e1,hf1,h0,h1,h2,h3,h4,h5,h6,h7⟩:=hr i s hs
  simp only [Option.some.injEq,Addr.mk.injEq,and_true] at e1
  obtain ⟨rfl,rfl⟩:=e1
  exact ⟨b,o,av1,rfl,set_hF hb _ _ trivial (block_lt_of_cell h0) hf1,cell_set_off (by omega) h0,cell_set_off (by omega) h1,cell_set_off (by omega) h2,cell_set_off (by omega) h3,cell_set_off (by omega) h4,cell_set_off (by omega) h5,cell_set_off (by omega) h6,hst s av1 h7⟩
def cutK (l:List InstrD) (k:Nat):List InstrD:=(l.take k).map cutArgs ++ l.drop k
theorem cutK_len (l:List InstrD) (k:Nat):(cutK l k).length=l.length:=by
 unfold cutK
 rw [List.length_append,List.length_map,List.length_take,List.length_drop];omega
theorem cutK_at (l:List InstrD) (k:Nat) (x:InstrD) (h:l[k]?=some x):(cutK l k)[k]?=some x:=by
 have hk:=(lE h).1
 unfold cutK
 rw [List.getElem?_append_right (by rw [List.length_map,List.length_take];omega),List.length_map,List.length_take,Nat.min_eq_left (by omega),Nat.sub_self,List.getElem?_drop]
 exact h
theorem cutK_step (l:List InstrD) (k:Nat) (x:InstrD) (h:l[k]?=some x):(cutK l k).set k (cutArgs x)=cutK l (k+1):=by
 have hk:=(lE h).1
 unfold cutK
 have hx:l[k]=x:=(lE h).2
 rw [List.set_append_right _ _ (by rw [List.length_map,List.length_take];omega),List.length_map,List.length_take,Nat.min_eq_left (by omega),Nat.sub_self,List.take_add_one,h,List.drop_eq_getElem_cons hk,List.set_cons_zero]
 simp
theorem take_min {α:Type} (l:List α) (m:Nat):l.take (min l.length m)=l.take m:=by
 rcases Nat.le_total l.length m with h|h
 ·rw [Nat.min_eq_left h,List.take_of_length_le h,List.take_of_length_le (nR _)]
 ·rw [Nat.min_eq_right h]
theorem cutK_end (l:List InstrD):cutK l l.length=l.map cutArgs:=by simp [cutK]
theorem few_any (av:Value) (l:List InstrD) (w:World) (h:RdInstrs none w av l) :
  Calls Tryz.prog 19 #[av] w fun e w'=>∃ v,e=.returned v/\RdInstrs (some (upFrom w.heap.size)) w' v (fewL l)/\Below w.heap.size w w':=by
 obtain ⟨a,c,rfl,hl,hr⟩:=id h
 obtain ⟨n,hn⟩:∃ n:Nat,min l.length 30=n:=⟨_,rfl⟩
 have hmin:∀ w,(Builtin.min_ #[3,3] 3 #[.int .i64 (l.length:Int),.int .i64 30]).run Tryz.prog w=.ok (.int .i64 (n:Int)) w:=by
  have hz:(n:Int)=min (l.length:Int) 30:=by omega
  intro w
  rw [hz]
  exact run_min2 _ _ _ _ w
 have hcut:=h.cut (n:=n) (by omega)
 have hnl:n<=l.length:=by omega
 have hnc:n<=c:=by omega
 have hn30:n<=30:=by omega
 have hL:Hid (fewL l=(l.take n).map cutArgs):=by
  show _=_
  unfold fewL
  congr 1
  subst hn
  rcases Nat.le_total l.length 30 with h|h
  ·rw [Nat.min_eq_left h,List.take_of_length_le h,List.take_of_length_le (nR _)]
  ·rw [Nat.min_eq_right h]
 have HCUT:=Hd hcut
 clear h hr hcut hn
 go_enter Tryz.func19,Tryz.ntmps19
 go_upto_region 2 with (go_at_call 21;refine (copyInstrs _ _ _ HCUT.out).mono ?_;rintro e w1 ⟨v1,rfl,hr1,hb1⟩;obtain ⟨a1,k1,rfl,_⟩:=id hr1;have HR1:=Hd hr1;clear hr1)
 clear hmin
 go_wp2_with fail
 go_loopw [3] (fun i wr=>∃ k:Nat,k<=n/\i=.int .i64 k/\RdInstrs (some (upFrom w.heap.size)) wr (.slice a1 n k1) (cutK (l.take n) k)/\Below w.heap.size w wr) (fun i _=>n - (intOf i).toNat)
 case atStart=>exact ⟨0,Nat.zero_le _,rfl,(by have hh:=HR1.out;rw [show (l.take n).length=n from by rw [List.length_take];omega] at hh;exact hh),hb1⟩
 case round=>
  obtain ⟨k,hk,rfl,hrd,hb⟩:=hrel
  have hlt':(l.take n).length=n:=by rw [List.length_take];omega
  by_cases hlt:k<n
  rotate_left
  ·obtain rfl:k=n:=by omega
   have HV:Hid (RdInstrs (some (upFrom w.heap.size)) wr (.slice a1 k k1) (fewL l)):=by
    have e:=cutK_end (l.take k)
    rw [hlt'] at e
    rw [hL.out,<- e];exact hrd
   clear hrd
   go_wp2_with fail
   go_ret
   exact ⟨_,rfl,HV.out,hb⟩
  obtain ⟨x,hx⟩:∃ x,(l.take n)[k]?=some x:=⟨_,lG (by omega)⟩
  have HX:=Hd hx
  have hLx:=cutK_at _ _ _ hx
  have hLl:(cutK (l.take n) k).length=n:=by rw [cutK_len];exact hlt'
  have hstep:=cutK_step _ _ _ hx
  obtain ⟨L,hLd⟩:∃ L,L=cutK (l.take n) k:=⟨_,rfl⟩
  rw [<- hLd] at hrd hLx hLl hstep
  obtain ⟨a',c',e,hl2,hr2⟩:=id hrd
  simp only [Value.slice.injEq] at e
  obtain ⟨rfl,-,rfl⟩:=e
  obtain ⟨b,o,av,rfl,hfree,i0,i1,i2,i3,i4,i5,i6,hri⟩:=hr2 k x hLx
  obtain ⟨aa,ca,rfl,hal,_⟩:=id hri.1
  obtain ⟨m,hm⟩:∃ m:Nat,min x.args.length 34=m:=⟨_,rfl⟩
  have hmin:∀ w,(Builtin.min_ #[3,3] 3 #[.int .i64 (x.args.length:Int),.int .i64 34]).run Tryz.prog w=.ok (.int .i64 (m:Int)) w:=by
   have hz:(m:Int)=min (x.args.length:Int) 34:=by omega
   intro w
   rw [hz]
   exact run_min2 _ _ _ _ w
  have hmc:m<=ca:=by omega
  have hma:m<=x.args.length:=by omega
  have hcut:=hri.1.cut (n:=m) hma
  have htm:x.args.take m=x.args.take 34:=by rw [<- hm];exact take_min _ _
  have hfz:=hfree.frozen (o+k * 7+4)
  have HRD:Hid (RdInstrs (some (upFrom w.heap.size)) wr (.slice (some ⟨b,o,none⟩) L.length k1) L):=by show RdInstrs _ _ _ _;rw [hLl];exact hrd
  have HCT:=Hd hcut
  have HF:=Hd (And.intro i4 hfz)
  have HLX:=Hd (And.intro hLx (And.intro hLl (And.intro hstep htm)))
  have hklt:(k:Int)<(n:Int):=by omega
  have e4:=ext_cell i4
  have hge:w.heap.size<=b:=(hfree _ rfl).1
  clear hrd hr2 i0 i1 i2 i3 i4 i5 i6 hri hcut hx hLx hLl hstep htm hm hal hfz hfree hl2
  go_upto_region 5 with fail
  (refine wp_region_calm_tail 17 (by kernel_rfl) (by kernel_rfl) ?_; simp only [List.take_succ_cons, List.take_zero, List.drop_succ_cons, List.drop_zero]; (repeat (go_big_quiet_step (fail))); refine wpQuiet_nil ?_; intro wc hwc)
  have j4:=cell_keep hwc HF.out.1
  have jf:=free_keep hwc HF.out.1 HF.out.2
  clear e4 hmin
  go_wp2_with fail
  go_roundw
  case rel=>
   have hset:=RdInstrs.setArgs (k:=k) (HRD.out.keep hwc) HLX.out.1 (args:=x.args.take 34) (av:=.slice aa m ca) (by rw [<- HLX.out.2.2.2];exact HCT.out.keep hwc)
   rw [HLX.out.2.1] at hset
   refine ⟨k+1,by omega,by go_num,?_,(hb.trans (hwc.mono hb.size)).setCell (by simp only;omega) _⟩
   rw [<- HLX.out.2.2.1]
   exact hset
  case measure=>simp [intOf];omega
open Go.ChangeShapes Go.WideShapes Go.ChangeAt Go.RowKit
def fewFn (f:FuncD):FuncD:={ f with params:=f.params.take 34,code:=fewL f.code }
def fewP (p:ProgD):ProgD:=⟨p.width,p.chans.take 34,p.arrays.take 34,(p.funcs.take 5).map fewFn,fewL p.main⟩
theorem RdStrs.inside {n:Nat} {w:World} {v:Value} {l:List ByteArray} (h:RdStrs (some (upFrom n)) w v l):RdStrs (some (within n w.heap.size)) w v l:=RdStrs.same h (fun _ _ _=>rfl) (fun _ hb hg=>⟨hg,hb⟩)
theorem RdInstrs.inside {n:Nat} {w:World} {v:Value} {l:List InstrD} (h:RdInstrs (some (upFrom n)) w v l):RdInstrs (some (within n w.heap.size)) w v l:=RdInstrs.same h (fun _ _ _=>rfl) (fun _ hb hg=>⟨hg,hb⟩)
theorem few_nth {l:List FuncD} {k:Nat} {f:FuncD} (h:l[k]?=some f) (hk:k<5):((l.take 5).map fewFn)[k]?=some (fewFn f):=by
 rw [List.getElem?_map,List.getElem?_take,if_pos hk,h];rfl
theorem few_len (l:List FuncD):((l.take 5).map fewFn).length=min 5 l.length:=by simp
theorem few_prog (p:ProgD) (cv av fv mv:Value) (w:World) (h:RdProg none w p cv av fv mv) :
  Calls Tryz.prog 5 #[progV p cv av fv mv] w fun e w'=>∃ cv' av' fv' mv',e=.returned (progV (fewP p) cv' av' fv' mv')/\RdProg (some (upFrom w.heap.size)) w' (fewP p) cv' av' fv' mv'/\Below w.heap.size w w':=by
 obtain ⟨hrc,hra,hrf,hrm,hrw⟩:=id h
 obtain ⟨ac,kc,rfl,hlc,-⟩:=id hrc
 obtain ⟨aa,ka,rfl,hla,-⟩:=id hra
 obtain ⟨af,kf,rfl,hlf,hrfs⟩:=id hrf
 obtain ⟨am,km,rfl,-,-⟩:=id hrm
 obtain ⟨nc,hnc⟩:∃ n:Nat,min p.chans.length 34=n:=⟨_,rfl⟩
 obtain ⟨na,hna⟩:∃ n:Nat,min p.arrays.length 34=n:=⟨_,rfl⟩
 have min1:∀ w,(Builtin.min_ #[3,3] 3 #[.int .i64 (p.chans.length:Int),.int .i64 34]).run Tryz.prog w=.ok (.int .i64 (nc:Int)) w:=by
  have hz:(nc:Int)=min (p.chans.length:Int) 34:=by omega
  intro w
  rw [hz]
  exact run_min2 _ _ _ _ w
 have min2:∀ w,(Builtin.min_ #[3,3] 3 #[.int .i64 (p.arrays.length:Int),.int .i64 34]).run Tryz.prog w=.ok (.int .i64 (na:Int)) w:=by
  have hz:(na:Int)=min (p.arrays.length:Int) 34:=by omega
  intro w
  rw [hz]
  exact run_min2 _ _ _ _ w
 have cutc:=hrc.cut (n:=nc) (by omega)
 have cuta:=hra.cut (n:=na) (by omega)
 have hcl:nc<=p.chans.length:=by omega
 have hck:nc<=kc:=by omega
 have hal:na<=p.arrays.length:=by omega
 have hak:na<=ka:=by omega
 have etc:p.chans.take nc=p.chans.take 34:=by rw [<- hnc];exact take_min _ _
 have eta:p.arrays.take na=p.arrays.take 34:=by rw [<- hna];exact take_min _ _
 rw [etc] at cutc
 rw [eta] at cuta
 obtain ⟨C,hC⟩:∃ C,C=p.chans.take 34:=⟨_,rfl⟩
 obtain ⟨A,hA⟩:∃ A,A=p.arrays.take 34:=⟨_,rfl⟩
 rw [<- hC] at cutc
 rw [<- hA] at cuta
 have HE:=Hd (And.intro hC hA)
 have HC1:=Hd cutc
 have HC2:=Hd cuta
 have HRF:=Hd hrfs
 have HRM:=Hd hrm
 have HW:=Hd hrw
 clear h hrc hra hrf hrm hrw hrfs cutc cuta hnc hna etc eta hlc hla hC hA
 go_enter Tryz.func5,Tryz.ntmps5
 go_upto_region 1 with fail
 have hb0:=((bR w.heap.size w).alloc (nR _) (.cells #[.int .i64 p.width,.slice ac p.chans.length kc,.slice aa p.arrays.length ka,.slice af p.funcs.length kf,.slice am p.main.length km] 27)).alloc (by simp) (.cells #[.int .i64 0,.slice none 0 0,.slice none 0 0,.slice none 0 0,.slice none 0 0] 27)
 have g0:=heap_alloc2_old w (.cells #[.int .i64 p.width,.slice ac p.chans.length kc,.slice aa p.arrays.length ka,.slice af p.funcs.length kf,.slice am p.main.length km] 27) (.cells #[.int .i64 0,.slice none 0 0,.slice none 0 0,.slice none 0 0,.slice none 0 0] 27)
 have g1:=heap_alloc2_new w (.cells #[.int .i64 p.width,.slice ac p.chans.length kc,.slice aa p.arrays.length ka,.slice af p.funcs.length kf,.slice am p.main.length km] 27) (.cells #[.int .i64 0,.slice none 0 0,.slice none 0 0,.slice none 0 0,.slice none 0 0] 27)
 generalize ((w.alloc (.cells #[.int .i64 p.width,.slice ac p.chans.length kc,.slice aa p.arrays.length ka,.slice af p.funcs.length kf,.slice am p.main.length km] 27)).alloc (.cells #[.int .i64 0,.slice none 0 0,.slice none 0 0,.slice none 0 0,.slice none 0 0] 27))=W0 at *
 have G0:=Hd g0
 have G1:=Hd g1
 have HB0:=Hd hb0
 clear g0 g1 hb0
 refine wp_region_mix (.one [0,1,2,3,4,5,6,8,9,10,11,12,13,14] 7 (.one [16] 15 (.one [] 17 (.one [] 18 (.one [] 19 (.fin [])))))) (fun j=>decide (17<=j)) (by kernel_rfl) (by kernel_rfl) rfl (by kernel_rfl) (fun _ d _ _ _ h=>by cases d <;> exact h) ?_
 have HB:Hid (Below W0.heap.size W0 W0.drew):=(bR _ _).drew
 generalize W0.drew=wn at *
 refine mix_one (by simp only [opsOf,List.filterMap_cons,List.filterMap_nil,List.getElem?_toArray,List.getElem?_cons_succ,List.getElem?_cons_zero];rfl) ⟨_,ext_of HB.out⟩ ?_
 change wpQuiet _ _ _ _ [_,_,_,_,_,_,_,_,_,_,_,_,_,_] _
 have l1:=ext_cell (row_of G0.out 1 _ rfl)
 have l2:=ext_cell (row_of G0.out 2 _ rfl)
 (repeat (go_big_quiet_step (fail)))
 refine wpQuiet_nil ?_
 clear l1 l2 min1 min2
 refine mix_step rfl ?_
 go_wp2_with (go_at_call 17;refine (copyStrs _ C _ (HC1.out.keep (bcomp HB0.out HB.out))).mono ?_;rintro e w1 ⟨v1,rfl,hr1,hb1⟩;obtain ⟨a1,k1,rfl,_⟩:=id hr1;have HR1:=Hd hr1;clear hr1)
 have HBa:=HB
 have HB:=Hd (bcomp HB.out hb1)
 refine ⟨fun _=>⟨_,ext_of HB.out⟩,?_⟩
 refine mix_one (by simp only [opsOf,List.filterMap_cons,List.filterMap_nil,List.getElem?_toArray,List.getElem?_cons_succ,List.getElem?_cons_zero];rfl) ⟨_,ext_of HB.out⟩ ?_
 change wpQuiet _ _ _ _ [_] _
 (repeat (go_big_quiet_step (fail)))
 refine wpQuiet_nil ?_
 refine mix_step rfl ?_
 go_wp2_with (go_at_call 18;refine (copyArrs _ A _ (HC2.out.keep (bcomp HB0.out HB.out))).mono ?_;rintro e w2 ⟨v2,rfl,hr2,hb2⟩;obtain ⟨a2,k2,rfl,_⟩:=id hr2;have HR2:=Hd hr2;clear hr2)
 have HBb:=HB
 have HB:=Hd (bcomp HB.out hb2)
 refine ⟨fun _=>⟨_,ext_of HB.out⟩,?_⟩
 have G0a:=Hd ((HB.out.block w.heap.size (aE G0.out).1).trans G0.out)
 have G1a:=Hd ((HB.out.block (w.heap.size+1) (aE G1.out).1).trans G1.out)
 have c1:=row_of G0a.out 1 _ rfl
 have f1:=frozen_of_row w2 _ 1 _ _ G0a.out
 have G0b:=Hd (heap_setCell_same _ _ 1 _ _ (.slice a1 C.length k1) G0a.out)
 have t1:=setCell_turned w2 ⟨w.heap.size,1,none⟩ (.slice a1 C.length k1)
 have G1b:=Hd ((t1.block (w.heap.size+1) (aE G1a.out).1 (by simp)).trans G1a.out)
 have c2:=row_of G0a.out 2 (.slice aa p.arrays.length ka) rfl
 have f2:=frozen_of_row w2 _ 2 _ _ G0a.out
 refine mix_tail [17,18,19] [_,_,_] _ _ rfl rfl ?_
 go_wp2_with fail
 have hT:Turned (fun k=>k=w.heap.size) w2 ((w2.setCell ⟨w.heap.size,1,none⟩ (.slice a1 C.length k1)).setCell ⟨w.heap.size,2,none⟩ (.slice a2 A.length k2)):=(setCell_turned w2 ⟨w.heap.size,1,none⟩ (.slice a1 C.length k1)).trans (setCell_turned _ ⟨w.heap.size,2,none⟩ (.slice a2 A.length k2))
 have G0c:Hid (((w2.setCell ⟨w.heap.size,1,none⟩ (.slice a1 C.length k1)).setCell ⟨w.heap.size,2,none⟩ (.slice a2 A.length k2)).heap[w.heap.size]?=some (.cells #[.int .i64 p.width,.slice a1 C.length k1,.slice a2 A.length k2,.slice af p.funcs.length kf,.slice am p.main.length km] 27 (0,0))):=heap_setCell_same _ _ 2 _ _ (.slice a2 A.length k2) G0b.out
 have G1c:=Hd ((hT.block (w.heap.size+1) (aE G1a.out).1 (by simp)).trans G1a.out)
 generalize ((w2.setCell ⟨w.heap.size,1,none⟩ (.slice a1 C.length k1)).setCell ⟨w.heap.size,2,none⟩ (.slice a2 A.length k2))=W3 at *
 have hs0:=HB0.out.size
 have hsa:=HBa.out.size
 have hlt0:w.heap.size+1<W0.heap.size:=(aE G1.out).1
 have HS3:Hid (RdStrs (some (upFrom (w.heap.size+2))) W3 (.slice a1 C.length k1) C):=RdStrs.same (HR1.out.keep hb2) (fun b hb hlt=>hT.block b hlt (by have:wn.heap.size<=b:=hb;omega)) (fun b _ hb=>by have:wn.heap.size<=b:=hb;show w.heap.size+2<=b;omega)
 have HA3:Hid (RdArrs (some (upFrom (w.heap.size+2))) W3 (.slice a2 A.length k2) A):=RdArrs.same HR2.out (fun b hb hlt=>hT.block b hlt (by have:w1.heap.size<=b:=hb;have:=hb1.size;omega)) (fun b _ hb=>by have:w1.heap.size<=b:=hb;have:=hb1.size;show w.heap.size+2<=b;omega)
 have HB3:Hid (Below w.heap.size w W3):=below_then (bcomp HB0.out HB.out) hT (by have:=HB.out.size;omega) (fun i e=>by omega)
 clear c1 f1 c2 f2 hT hb1 hb2
 clear HB HBa HBb G0 G1 G0a G1a G0b G1b HR1 HR2 HB0 HC1 HC2
 obtain ⟨i0,hi,hz0,hz1,hz2⟩:=info_parts infoFunc
 have hs3:w.heap.size+2<=W3.heap.size:=(aE G1c.out).1
 go_wp2_with fail
 go_loopw [3,4] (fun lv i wr=>∃ (k:Nat) (P:List (FuncD × Value × Value)) (a:Option Addr) (c:Nat),k<=((p.funcs.take 5).map fewFn).length/\i=.int .i64 k/\lv=.slice a k c/\P.map Prod.fst=((p.funcs.take 5).map fewFn).take k/\wr.ownsRow W3.heap.size 52 5 (.slice a k c) k (P.flatMap funCells)/\(∀ p ∈ P,RdFunc (some (upFrom W3.heap.size)) wr p.1 p.2.1 p.2.2)/\Below W3.heap.size W3 wr) (fun _ i _=>((p.funcs.take 5).map fewFn).length - (intOf i).toNat)
 case atStart=>exact ⟨0,[],none,0,Nat.zero_le _,rfl,rfl,rfl,World.ownsRow_nil _ _ _ _,(fun p hp=>nomatch hp),bR _ _⟩
 case round=>
  obtain ⟨k,P,a,c,hk,rfl,rfl,hP,hown,hp,hb⟩:=hrel
  have hlen:=few_len p.funcs
  have HP:=Hd hP
  have HQ:=Hd hp
  have HO:=Hd hown
  have HB:=Hd hb
  have hsz:=hb.size
  obtain ⟨L,hL⟩:∃ L,L=((p.funcs.take 5).map fewFn).length:=⟨_,rfl⟩
  have HL:=Hd hL
  rw [<- hL] at hk hlen
  have hg0:=(hb.block w.heap.size (by omega)).trans G0c.out
  have e3:=row_of hg0 3 _ rfl
  have e4:=row_of hg0 4 _ rfl
  have HG:=Hd hg0
  clear hP hown hp hb hL hg0
  by_cases hlt:k<L
  ·have hk5:k<5:=by omega
   have hkn:k<p.funcs.length:=by omega
   have hk5':(k:Int)<5:=by omega
   have hkn':(k:Int)<(p.funcs.length:Int):=by omega
   obtain ⟨x,hx⟩:∃ x,p.funcs[k]?=some x:=⟨_,lG hkn⟩
   obtain ⟨b,o,pv0,cv0,rfl,-,c0,c1,c2,c3,c4,hri⟩:=HRF.out k x hx
   have hri':=hri.keep HB3.out
   have hri'':=hri'.keep HB.out
   obtain ⟨ap,cp,rfl,hlp,-⟩:=id hri''.1
   obtain ⟨ac,cc,rfl,hlc,-⟩:=id hri''.2.1
   have d0:=cell_keep HB.out (cell_keep HB3.out c0)
   have d1:=cell_keep HB.out (cell_keep HB3.out c1)
   have d2:=cell_keep HB.out (cell_keep HB3.out c2)
   have d3:=cell_keep HB.out (cell_keep HB3.out c3)
   have d4:=cell_keep HB.out (cell_keep HB3.out c4)
   have HX0:=Hd hx
   have HR:=Hd hri''
   clear c0 c1 c2 c3 c4 hx hri hri' hri''
   go_upto_region 7 with fail
   obtain ⟨np,hnp⟩:∃ n:Nat,min x.params.length 34=n:=⟨_,rfl⟩
   have min3:∀ w,(Builtin.min_ #[3,3] 3 #[.int .i64 (x.params.length:Int),.int .i64 34]).run Tryz.prog w=.ok (.int .i64 (np:Int)) w:=by
    have hz:(np:Int)=min (x.params.length:Int) 34:=by omega
    intro w
    rw [hz]
    exact run_min2 _ _ _ _ w
   have hpl:np<=x.params.length:=by omega
   have hpc:np<=cp:=by omega
   have hcut:RdStrs none wr (.slice ap np cp) (x.params.take 34):=by
    have:=HR.out.1.cut (n:=np) hpl
    rw [<- hnp,take_min] at this
    rw [<- hnp];exact this
   have hbf:Below wr.heap.size wr (wr.alloc (.cells #[.string x.name,.slice ap x.params.length cp,.slice ac x.code.length cc,.int .i64 x.line,.int .i64 x.col] 52)):=(bR _ _).alloc (nR _) _
   have hgf:=heap_alloc_new wr (.cells #[.string x.name,.slice ap x.params.length cp,.slice ac x.code.length cc,.int .i64 x.line,.int .i64 x.col] 52)
   have HC1:=Hd (hcut.keep hbf)
   have HC2:=Hd (HR.out.2.1.keep hbf)
   have HBF:=Hd hbf
   clear hcut hbf hnp d0 d1 d2 d3 d4 e3 e4 HR
   generalize wr.alloc (.cells #[.string x.name,.slice ap x.params.length cp,.slice ac x.code.length cc,.int .i64 x.line,.int .i64 x.col] 52)=Wf at *
   have hgw:W3.heap.size<=wr.heap.size:=hsz
   generalize hgfe:wr.heap.size=gf at *
   have hgl:gf<Wf.heap.size:=(aE hgf).1
   have HGF:=Hd hgf
   refine wp_region_own [0,1,2,3,4,5,6,8,9] [⟨7,some 47,[]⟩,⟨10,some 50,[]⟩,⟨11,some 51,[]⟩] [12,13,14] [_,_,_] (fun j=>decide (12<=j))
    (fun j v w lo hi=>match j with
      | 7=>∃ a n c,v=.slice a n c/\RdStrs (some (within lo hi)) w v (x.params.take 34)
      | 10=>∃ a n c,v=.slice a n c/\RdInstrs (some (within lo hi)) w v (fewL x.code)
      | 11=>v=.pointer (some ⟨gf,1,none⟩)
      | _=>True) (by kernel_rfl) (by kernel_rfl) rfl (by kernel_rfl) rfl rfl (fun _ d _ _ _ h=>by cases d <;> exact h) ?_ ?_
   ·intro j v w w' lo hi hy hbw
    match j,hy with
    | 7,⟨a,n,c,e,h⟩=>exact ⟨a,n,c,e,h.keep hbw⟩
    | 10,⟨a,n,c,e,h⟩=>exact ⟨a,n,c,e,h.keep hbw⟩
    | 11,h=>exact h
    | 0,_|1,_|2,_|3,_|4,_|5,_|6,_|8,_|9,_|(y+12),_=>trivial
   ·have l1:=ext_cell (row_of HGF.out 1 _ rfl)
    have l2:=ext_cell (row_of HGF.out 2 _ rfl)
    refine mix_reads (by simp only [opsOf,List.filterMap_cons,List.filterMap_nil,List.getElem?_toArray,List.getElem?_cons_succ,List.getElem?_cons_zero];rfl) ⟨_,ext_of (bR _ _).drew⟩ ?_
    change wpQuiet _ _ _ _ [_,_,_,_,_,_,_,_,_] _
    (repeat (go_big_quiet_step (fail)))
    refine wpQuiet_nil ?_
    clear l1 l2 min3
    refine ⟨⟨fun vs wm hb hn=>?_,fun vs wm hb hn=>?_,fun vs wm hb hn=>?_,trivial⟩,fun vs wm hb hy hd=>?_⟩
    ·clear hn
     refine mix_step rfl ?_
     simp only [pv]
     go_wp2_with (go_at_call 17;refine (copyStrs _ _ _ (HC1.out.keep ((bR _ _).drew.trans hb))).mono ?_;rintro e wn ⟨v,rfl,hr,hbn⟩)
     have hr':=hr
     obtain ⟨a',c',e',-⟩:=hr'
     exact ⟨v,rfl,hbn,a',_,c',e',hr.inside⟩
    ·clear hn
     refine mix_step rfl ?_
     simp only [pv]
     go_wp2_with (go_at_call 19;refine (few_any _ _ _ (HC2.out.keep ((bR _ _).drew.trans hb))).mono ?_;rintro e wn ⟨v,rfl,hr,hbn⟩)
     have hr':=hr
     obtain ⟨a',c',e',-⟩:=hr'
     exact ⟨v,rfl,hbn,a',_,c',e',hr.inside⟩
    ·clear hn
     refine mix_step rfl ?_
     simp only [pv]
     go_wp2_with fail
     first|exact ⟨rfl,bR _ _⟩|exact ⟨_,rfl,bR _ _,rfl⟩
    ·obtain ⟨⟨a7,n7,c7,e7,hr7⟩,p7,q7,r7⟩:=hy ⟨7,some 47,[]⟩ (by simp)
     obtain ⟨⟨a10,n10,c10,e10,hr10⟩,p10,q10,r10⟩:=hy ⟨10,some 50,[]⟩ (by simp)
     obtain ⟨e11,-⟩:=hy ⟨11,some 51,[]⟩ (by simp)
     have e11:(vs 11).1=.pointer (some ⟨gf,1,none⟩):=e11
     clear hy hd
     dsimp only at e7 e10 hr7 hr10 p7 q7 r7 p10 q10 r10
     simp only [List.map,Maker.pr,pv]
     generalize vs 7=x7 at *
     obtain ⟨v7,lo7,hi7⟩:=x7
     generalize vs 10=x10 at *
     obtain ⟨v10,lo10,hi10⟩:=x10
     dsimp only at e7 e10 hr7 hr10 p7 q7 r7 p10 q10 r10 ⊢
     subst e7 e10
     rw [e11]
     have hbm:Below Wf.heap.size Wf wm:=(bR _ _).drew.trans hb
     have hgm:=(hbm.block gf hgl).trans HGF.out
     have c1:=row_of hgm 1 _ rfl
     have c2:=row_of hgm 2 _ rfl
     have f1:=frozen_of_row wm _ 1 _ _ hgm
     have f2:=frozen_of_row wm _ 2 _ _ hgm
     have hss:Wf.drew.heap.size=Wf.heap.size:=rfl
     rw [hss] at p7 p10
     have HG2:Hid (((wm.setCell ⟨gf,1,none⟩ (.slice a7 n7 c7)).setCell ⟨gf,2,none⟩ (.slice a10 n10 c10)).heap[gf]?=some (.cells #[.string x.name,.slice a7 n7 c7,.slice a10 n10 c10,.int .i64 x.line,.int .i64 x.col] 52 (0,0))):=heap_setCell_same _ _ 2 _ _ (.slice a10 n10 c10) (heap_setCell_same _ _ 1 _ _ (.slice a7 n7 c7) hgm)
     have hk2:∀ b,b ≠ gf->((wm.setCell ⟨gf,1,none⟩ (.slice a7 n7 c7)).setCell ⟨gf,2,none⟩ (.slice a10 n10 c10)).heap[b]?=wm.heap[b]?:=fun b hb=>(heap_setCell_other _ _ _ _ (by simp;omega)).trans (heap_setCell_other _ _ _ _ (by simp;omega))
     have HR1:Hid (RdStrs (some (upFrom W3.heap.size)) ((wm.setCell ⟨gf,1,none⟩ (.slice a7 n7 c7)).setCell ⟨gf,2,none⟩ (.slice a10 n10 c10)) (.slice a7 n7 c7) (x.params.take 34)):=RdStrs.same hr7 (fun b hb _=>hk2 b (by obtain ⟨u,v⟩:=hb;omega)) (fun b _ hb=>by obtain ⟨u,v⟩:=hb;show W3.heap.size<=b;omega)
     have HR2:Hid (RdInstrs (some (upFrom W3.heap.size)) ((wm.setCell ⟨gf,1,none⟩ (.slice a7 n7 c7)).setCell ⟨gf,2,none⟩ (.slice a10 n10 c10)) (.slice a10 n10 c10) (fewL x.code)):=RdInstrs.same hr10 (fun b hb _=>hk2 b (by obtain ⟨u,v⟩:=hb;omega)) (fun b _ hb=>by obtain ⟨u,v⟩:=hb;show W3.heap.size<=b;omega)
     have HBN:Hid (Below gf wr ((wm.setCell ⟨gf,1,none⟩ (.slice a7 n7 c7)).setCell ⟨gf,2,none⟩ (.slice a10 n10 c10))):=((HBF.out.trans (hbm.mono (by omega))).setCell (nR _) _).setCell (nR _) _
     clear hr7 hr10 hk2 hgm hbm hb hss p7 q7 r7 p10 q10 r10 HC1 HC2 HBF HGF hgf hgl
     simp only [Act.put,List.setIfInBounds_toArray,List.set_cons_succ,List.set_cons_zero,List.getElem_toArray,List.getElem_cons_succ,List.getElem_cons_zero]
     go_upto_region 8 with fail
     clear c1 c2 f1 f2
     generalize ((wm.setCell ⟨gf,1,none⟩ (.slice a7 n7 c7)).setCell ⟨gf,2,none⟩ (.slice a10 n10 c10))=wx at *
     have hbx:Below wr.heap.size wr wx:=by rw [hgfe];exact HBN.out
     have hox:=own_below HO.out hbx
     have hsx:=hbx.size
     have HX:=Hd hbx
     clear hbx HBN HO hpl hpc
     have hsx':W3.heap.size<=wx.heap.size:=by omega
     clear hsx
     go_wp2_with (first
      | (refine wpList_load_row rfl 52 (.tmp 5) rfl gf rfl 52 #[.string x.name,.slice a7 n7 c7,.slice a10 n10 c10,.int .i64 x.line,.int .i64 x.col] (0,0) _ ?h Tryz.underlying52 rfl ?s ?_;exact HG2.out;kernel_rfl)
      | (at_builtin;refine wpList_append_own _ rfl (.tmp 53) (.tmp 55) 24 rfl W3.heap.size 52 i0 (.agg #[.string ⟨#[]⟩,.slice none 0 0,.slice none 0 0,.int .i64 0,.int .i64 0]) 5 80 Tryz.underlying24 hi hz0 hz1 hz2 rfl (by decide) _ _ _ rfl (hox.alloc _) ⟨wx.heap.size,0,none⟩ 1 1 (funCells (fewFn x,Value.slice a7 n7 c7,Value.slice a10 n10 c10)) rfl rfl (many_new _ _ _) ?c2 ?c3 ?c4 ?c5 ?_))
     case c2=>intro u hu;simp [funCells] at hu;rcases hu with rfl|rfl|rfl|rfl|rfl <;> rfl
     case c3=>unfold maxLen;omega
     case c4=>omega
     case c5=>first|omega|(simp;omega)
     ·intro v' w2 hown' hgrow _
      obtain ⟨a',c',rfl,-⟩:=own_read hown'
      have hbx:=HX.out
      have hal:Below wx.heap.size wx (wx.alloc (.cells (funCells (fewFn x,Value.slice a7 n7 c7,Value.slice a10 n10 c10)).toArray 52)):=(bR _ _).alloc (nR _) _
      have hoa:=hox.alloc (.cells (funCells (fewFn x,Value.slice a7 n7 c7,Value.slice a10 n10 c10)).toArray 52)
      have hle:=own_row_le hox
      have hri:=HRF.out k x HX0.out
      have hnew:∀ p ∈ P ++ [(fewFn x,Value.slice a7 n7 c7,Value.slice a10 n10 c10)],RdFunc (some (upFrom W3.heap.size)) w2 p.1 p.2.1 p.2.2:=by
       intro p hp
       rcases List.mem_append.1 hp with h|h
       ·exact func_grown hoa hgrow (((HQ.out p h).keep hbx).keep hal)
       ·rw [List.mem_singleton] at h;subst h
        obtain ⟨_,_,_,_,_,_,_,_,_,_,_,hf⟩:=hri
        exact func_grown hoa hgrow ⟨HR1.out.keep hal,HR2.out.keep hal,hf.2.2⟩
      have hbw:Below W3.heap.size W3 w2:=((HB.out.trans (hbx.mono HB.out.size)).alloc (by have:=HB.out.size;omega) _).grown hgrow (by simp;omega) (fun j h=>by have:=hle j h;omega)
      rw [show P.flatMap funCells ++ funCells (fewFn x,Value.slice a7 n7 c7,Value.slice a10 n10 c10)=(P ++ [(fewFn x,Value.slice a7 n7 c7,Value.slice a10 n10 c10)]).flatMap funCells from by simp] at hown'
      have HRR:=Hd (And.intro hown' (And.intro hnew hbw))
      clear hown' hgrow hbx hal hoa hle hri hnew hbw hox HX HR1 HR2 HG2
      go_wp2_with fail
      go_roundw
      case rel=>
       obtain ⟨r1,r2,r3⟩:=HRR.out
       exact ⟨k+1,P ++ [(fewFn x,Value.slice a7 n7 c7,Value.slice a10 n10 c10)],a',c',by have:=HL.out;omega,by go_num,rfl,map_take_snoc _ HP.out (few_nth HX0.out hk5),r1,r2,r3⟩
      case measure=>have:=HL.out;simp [intOf] at *;omega
  ·obtain rfl:k=L:=by omega
   have hP:=HP.out
   rw [HL.out,List.take_length] at hP
   have HF:Hid (RdFuncs (some (upFrom W3.heap.size)) wr (.slice a k c) ((p.funcs.take 5).map fewFn)):=by
    have:=own_funcs (l:=(p.funcs.take 5).map fewFn) hP (by rw [<- HL.out];exact HO.out) (by rw [<- HL.out];omega) HQ.out
    exact this
   have HM:=Hd ((HRM.out.keep HB3.out).keep HB.out)
   have f3:=frozen_of_row wr _ 3 _ _ HG.out
   have f4:=frozen_of_row wr _ 4 _ _ HG.out
   clear HP HQ HO hP hi hz0 hz1 hz2 HRF HRM
   by_cases hn:k<p.funcs.length
   ·have hn1:(k:Int)<(p.funcs.length:Int):=by omega
    have hn2:¬ ((k:Int)<5):=by omega
    clear hlen
    go_upto_region 10 with (go_at_call 19;refine (few_any _ _ _ HM.out).mono ?_;rintro e wq ⟨vq,rfl,hrq,hbq⟩;obtain ⟨am',cm',rfl,-⟩:=id hrq;have e3q:=cell_keep hbq e3;have e4q:=cell_keep hbq e4;have f3q:=free_keep hbq e3 f3;have f4q:=free_keep hbq e4 f4)
    have hgq:=(hbq.block w.heap.size (by omega)).trans HG.out
    have hbwq:Below W3.heap.size W3 wq:=bcomp HB.out hbq
    have hg1q:=(hbwq.block (w.heap.size+1) (by omega)).trans G1c.out
    have hkq:∀ b,b ≠ w.heap.size->((wq.setCell ⟨w.heap.size,3,none⟩ (.slice a k c)).setCell ⟨w.heap.size,4,none⟩ (.slice am' (fewL p.main).length cm')).heap[b]?=wq.heap[b]?:=fun b hb=>(heap_setCell_other _ _ _ _ (by simp;omega)).trans (heap_setCell_other _ _ _ _ (by simp;omega))
    have HGQ:Hid (((wq.setCell ⟨w.heap.size,3,none⟩ (.slice a k c)).setCell ⟨w.heap.size,4,none⟩ (.slice am' (fewL p.main).length cm')).heap[w.heap.size]?=some (.cells #[.int .i64 p.width,.slice a1 C.length k1,.slice a2 A.length k2,.slice a k c,.slice am' (fewL p.main).length cm'] 27 (0,0))):=heap_setCell_same _ _ 4 _ _ (.slice am' (fewL p.main).length cm') (heap_setCell_same _ _ 3 _ _ (.slice a k c) hgq)
    have HG1:Hid (((wq.setCell ⟨w.heap.size,3,none⟩ (.slice a k c)).setCell ⟨w.heap.size,4,none⟩ (.slice am' (fewL p.main).length cm')).heap[w.heap.size+1]?=some (.cells #[.int .i64 0,.slice none 0 0,.slice none 0 0,.slice none 0 0,.slice none 0 0] 27 (0,0))):=(hkq _ (by omega)).trans hg1q
    have HBQ:Hid (Below w.heap.size w ((wq.setCell ⟨w.heap.size,3,none⟩ (.slice a k c)).setCell ⟨w.heap.size,4,none⟩ (.slice am' (fewL p.main).length cm'))):=((bcomp (bcomp HB3.out HB.out) hbq).setCell (nR _) _).setCell (nR _) _
    have HRQ:=Hd (And.intro hrq (And.intro hbq (And.intro hbwq hkq)))
    clear hgq hbwq hg1q hkq hrq hbq e3 e4 f3 f4 e3q e4q f3q f4q
    have l0:=row_of HGQ.out 0 _ rfl
    have l1:=row_of HGQ.out 1 _ rfl
    have l2:=row_of HGQ.out 2 _ rfl
    have l3:=row_of HGQ.out 3 _ rfl
    have l4:=row_of HGQ.out 4 _ rfl
    go_wp2_with (first
     | (refine wpList_store_row rfl 27 (.tmp 2) (.tmp 63) rfl (w.heap.size+1) #[.int .i64 p.width,.slice a1 C.length k1,.slice a2 A.length k2,.slice a k c,.slice am' (fewL p.main).length cm'] rfl rfl 27 #[.int .i64 0,.slice none 0 0,.slice none 0 0,.slice none 0 0,.slice none 0 0] ?h2 ?s2 ?s3 ?s4 ?_;exact HG1.out;kernel_rfl;kernel_rfl;kernel_rfl))
    obtain ⟨hrq,hbq,hbwq,hkq⟩:=HRQ.out
    obtain ⟨hC,hA⟩:=HE.out
    have hfin:∀ b,w.heap.size+2<=b->(((wq.setCell ⟨w.heap.size,3,none⟩ (.slice a k c)).setCell ⟨w.heap.size,4,none⟩ (.slice am' (fewL p.main).length cm')).setRow (w.heap.size+1) #[.int .i64 p.width,.slice a1 C.length k1,.slice a2 A.length k2,.slice a k c,.slice am' (fewL p.main).length cm']).heap[b]?=wq.heap[b]?:=fun b hb=>(setRow_other _ _ _ _ (by omega)).trans (hkq b (by omega))
    have hlk:((p.funcs.take 5).map fewFn).length=k:=HL.out.symm
    try simp only [Act.put]
    refine bodyPost_ret (v:=.agg #[.int .i64 p.width,.slice a1 C.length k1,.slice a2 A.length k2,.slice a k c,.slice am' (fewL p.main).length cm']) ?_ rfl ⟨.slice a1 C.length k1,.slice a2 A.length k2,.slice a k c,.slice am' (fewL p.main).length cm',rfl,⟨?_,?_,?_,?_,HW.out⟩,below_row HBQ.out (by omega) _⟩
    ·exact results_cell_row (P:=Tryz.prog) (fn:=Tryz.f5) rfl _ _ (w.heap.size+1) 27 _ (0,0) _ rfl (setRow_heap _ _ _ _ _ _ HG1.out) Tryz.underlying27 rfl (by kernel_rfl)
    ·show RdStrs _ _ _ (p.chans.take 34)
     rw [<- hC]
     exact RdStrs.same (HS3.out.keep hbwq) (fun b hb _=>hfin b hb) (fun b _ hb=>by have:w.heap.size+2<=b:=hb;show w.heap.size<=b;omega)
    ·show RdArrs _ _ _ (p.arrays.take 34)
     rw [<- hA]
     exact RdArrs.same (HA3.out.keep hbwq) (fun b hb _=>hfin b hb) (fun b _ hb=>by have:w.heap.size+2<=b:=hb;show w.heap.size<=b;omega)
    ·exact RdFuncs.same (HF.out.keep hbq) (fun b hb _=>hfin b (by have:W3.heap.size<=b:=hb;omega)) (fun b _ hb=>by have:W3.heap.size<=b:=hb;show w.heap.size<=b;omega)
    ·exact RdInstrs.same hrq (fun b hb _=>hfin b (by have:wr.heap.size<=b:=hb;omega)) (fun b _ hb=>by have:wr.heap.size<=b:=hb;show w.heap.size<=b;omega)
   ·have hn1:¬ ((k:Int)<(p.funcs.length:Int)):=by omega
    clear hlen
    go_upto_region 10 with (go_at_call 19;refine (few_any _ _ _ HM.out).mono ?_;rintro e wq ⟨vq,rfl,hrq,hbq⟩;obtain ⟨am',cm',rfl,-⟩:=id hrq;have e3q:=cell_keep hbq e3;have e4q:=cell_keep hbq e4;have f3q:=free_keep hbq e3 f3;have f4q:=free_keep hbq e4 f4)
    have hgq:=(hbq.block w.heap.size (by omega)).trans HG.out
    have hbwq:Below W3.heap.size W3 wq:=bcomp HB.out hbq
    have hg1q:=(hbwq.block (w.heap.size+1) (by omega)).trans G1c.out
    have hkq:∀ b,b ≠ w.heap.size->((wq.setCell ⟨w.heap.size,3,none⟩ (.slice a k c)).setCell ⟨w.heap.size,4,none⟩ (.slice am' (fewL p.main).length cm')).heap[b]?=wq.heap[b]?:=fun b hb=>(heap_setCell_other _ _ _ _ (by simp;omega)).trans (heap_setCell_other _ _ _ _ (by simp;omega))
    have HGQ:Hid (((wq.setCell ⟨w.heap.size,3,none⟩ (.slice a k c)).setCell ⟨w.heap.size,4,none⟩ (.slice am' (fewL p.main).length cm')).heap[w.heap.size]?=some (.cells #[.int .i64 p.width,.slice a1 C.length k1,.slice a2 A.length k2,.slice a k c,.slice am' (fewL p.main).length cm'] 27 (0,0))):=heap_setCell_same _ _ 4 _ _ (.slice am' (fewL p.main).length cm') (heap_setCell_same _ _ 3 _ _ (.slice a k c) hgq)
    have HG1:Hid (((wq.setCell ⟨w.heap.size,3,none⟩ (.slice a k c)).setCell ⟨w.heap.size,4,none⟩ (.slice am' (fewL p.main).length cm')).heap[w.heap.size+1]?=some (.cells #[.int .i64 0,.slice none 0 0,.slice none 0 0,.slice none 0 0,.slice none 0 0] 27 (0,0))):=(hkq _ (by omega)).trans hg1q
    have HBQ:Hid (Below w.heap.size w ((wq.setCell ⟨w.heap.size,3,none⟩ (.slice a k c)).setCell ⟨w.heap.size,4,none⟩ (.slice am' (fewL p.main).length cm'))):=((bcomp (bcomp HB3.out HB.out) hbq).setCell (nR _) _).setCell (nR _) _
    have HRQ:=Hd (And.intro hrq (And.intro hbq (And.intro hbwq hkq)))
    clear hgq hbwq hg1q hkq hrq hbq e3 e4 f3 f4 e3q e4q f3q f4q
    have l0:=row_of HGQ.out 0 _ rfl
    have l1:=row_of HGQ.out 1 _ rfl
    have l2:=row_of HGQ.out 2 _ rfl
    have l3:=row_of HGQ.out 3 _ rfl
    have l4:=row_of HGQ.out 4 _ rfl
    go_wp2_with (first
     | (refine wpList_store_row rfl 27 (.tmp 2) (.tmp 63) rfl (w.heap.size+1) #[.int .i64 p.width,.slice a1 C.length k1,.slice a2 A.length k2,.slice a k c,.slice am' (fewL p.main).length cm'] rfl rfl 27 #[.int .i64 0,.slice none 0 0,.slice none 0 0,.slice none 0 0,.slice none 0 0] ?y2 ?z2 ?z3 ?z4 ?_;exact HG1.out;kernel_rfl;kernel_rfl;kernel_rfl))
    obtain ⟨hrq,hbq,hbwq,hkq⟩:=HRQ.out
    obtain ⟨hC,hA⟩:=HE.out
    have hfin:∀ b,w.heap.size+2<=b->(((wq.setCell ⟨w.heap.size,3,none⟩ (.slice a k c)).setCell ⟨w.heap.size,4,none⟩ (.slice am' (fewL p.main).length cm')).setRow (w.heap.size+1) #[.int .i64 p.width,.slice a1 C.length k1,.slice a2 A.length k2,.slice a k c,.slice am' (fewL p.main).length cm']).heap[b]?=wq.heap[b]?:=fun b hb=>(setRow_other _ _ _ _ (by omega)).trans (hkq b (by omega))
    have hlk:((p.funcs.take 5).map fewFn).length=k:=HL.out.symm
    try simp only [Act.put]
    refine bodyPost_ret (v:=.agg #[.int .i64 p.width,.slice a1 C.length k1,.slice a2 A.length k2,.slice a k c,.slice am' (fewL p.main).length cm']) ?_ rfl ⟨.slice a1 C.length k1,.slice a2 A.length k2,.slice a k c,.slice am' (fewL p.main).length cm',rfl,⟨?_,?_,?_,?_,HW.out⟩,below_row HBQ.out (by omega) _⟩
    ·exact results_cell_row (P:=Tryz.prog) (fn:=Tryz.f5) rfl _ _ (w.heap.size+1) 27 _ (0,0) _ rfl (setRow_heap _ _ _ _ _ _ HG1.out) Tryz.underlying27 rfl (by kernel_rfl)
    ·show RdStrs _ _ _ (p.chans.take 34)
     rw [<- hC]
     exact RdStrs.same (HS3.out.keep hbwq) (fun b hb _=>hfin b hb) (fun b _ hb=>by have:w.heap.size+2<=b:=hb;show w.heap.size<=b;omega)
    ·show RdArrs _ _ _ (p.arrays.take 34)
     rw [<- hA]
     exact RdArrs.same (HA3.out.keep hbwq) (fun b hb _=>hfin b hb) (fun b _ hb=>by have:w.heap.size+2<=b:=hb;show w.heap.size<=b;omega)
    ·exact RdFuncs.same (HF.out.keep hbq) (fun b hb _=>hfin b (by have:W3.heap.size<=b:=hb;omega)) (fun b _ hb=>by have:W3.heap.size<=b:=hb;show w.heap.size<=b;omega)
    ·exact RdInstrs.same hrq (fun b hb _=>hfin b (by have:wr.heap.size<=b:=hb;omega)) (fun b _ hb=>by have:wr.heap.size<=b:=hb;show w.heap.size<=b;omega)
end Go.Proofs.YtgllkgedjplpdaaGreatDoor
