/- The kit's comparison of policies, where both read as the same. Conditions: both read as the policy. -/
import Derived.Test.YtgllkgedjplpdaaGreatDoorRuP
import Derived.Test.YtgllkgedjplpdaaGreatDoorKitE
import Derived.Test.YtgllkgedjplpdaaGreatDoorMix
import Derived.Deep.CutBlock
import Derived.Deep.CutRange
import Derived.Deep.RegionWith
set_option linter.all false
set_option maxRecDepth 1000000
set_option maxHeartbeats 12800000
namespace Go.Proofs.YtgllkgedjplpdaaGreatDoor
open Go.ChangeShapes Go.WideShapes Go.ChangeAt Go.RowKit
def RdZ {α:Type} (f:α->List Value) (k:Nat) (w:World) (v:Value) (l:List α):Prop:=∃ a c,v=.slice a l.length c/\(l.length<=1000000000/\l.length<=c)/\∀ i x,l[i]?=some x->∃ b o,a=some ⟨b,o,none⟩/\∀ j u,(f x)[j]?=some u->w.cell? ⟨b,o+i * k+j,none⟩=some u
theorem RdZ.keep {α:Type} {f:α->List Value} {k:Nat} {w w':World} {v:Value} {l:List α} (h:RdZ f k w v l) (hb:Below w.heap.size w w'):RdZ f k w' v l:=by
 obtain ⟨a,c,e,hl,hr⟩:=h
 exact ⟨a,c,e,hl,fun i x hi=>by
  obtain ⟨b,o,ha,hc⟩:=hr i x hi
  exact ⟨b,o,ha,fun j u hj=>cell_keep hb (hc j u hj)⟩⟩
def pairZ (x:Int × Int):List Value:=[.int .i64 x.1,.int .i64 x.2]
def bindC (x:BindD):List Value:=[.string x.name,.int .i64 x.level]
theorem eqPairZ (a b c d:Int) (w:World):(Op.equalIn 10000 93 (.agg #[.int .i64 a,.int .i64 b]) (.agg #[.int .i64 c,.int .i64 d])).run Tryz.prog w=.ok (a == c && b == d) w:=by
 have u3:=Tryz.underlying3
 have a3:=Tryz.isAgg3
 have z3:=Tryz.sizeOf3
 rw [show (10000:Nat)=9999+1 from rfl,Op.equalIn]
 simp only [Sem.run_bind,run_underlying Tryz.underlying93,Result.andThen_ok]
 simp only [Std.Legacy.Range.forIn_eq_forIn_range',Std.Legacy.Range.size,Nat.sub_zero,Nat.add_sub_cancel,Nat.div_one,List.range'_succ,List.range'_zero,List.forIn_cons,List.forIn_nil]
 go_simp
 by_cases h1:a=c <;> by_cases h2:b=d <;> simp [h1,h2]
theorem pairsSame (v u:Value) (l:List (Int × Int)) (w:World) (h:RdZ pairZ 2 w v l) (g:RdZ pairZ 2 w u l) :
  Calls Tryz.prog 39 #[v,u] w fun e w'=>e=.returned (.bool true)/\Below w.heap.size w w':=by
 obtain ⟨a,c,rfl,⟨hl,-⟩,hr⟩:=h
 obtain ⟨b,d,rfl,-,hs⟩:=g
 have HR:=Hd hr
 have HS:=Hd hs
 obtain ⟨n,hn⟩:∃ n,l.length=n:=⟨_,rfl⟩
 rw [hn] at hl ⊢
 have HN:=Hd hn
 clear hr hs hn
 go_enter Tryz.func39,Tryz.ntmps39
 go_wp2_with fail
 go_loopw [5] (fun i wr=>∃ k:Nat,k<=n/\i=.int .i64 k/\Below w.heap.size w wr) (fun i _=>n - (intOf i).toNat)
 case atStart=>exact ⟨0,Nat.zero_le _,rfl,bR _ _⟩
 case round=>
  obtain ⟨k,hk,rfl,hb⟩:=hrel
  obtain ⟨w1,rfl⟩:∃ x:World,x=wr:=⟨_,rfl⟩
  have HB:=Hd hb
  by_cases hlt:k<n
  ·have hlt1:(k:Int)<(n:Int):=by omega
   obtain ⟨⟨x1,x2⟩,hx⟩:∃ x,l[k]?=some x:=⟨_,lG (by have:=HN.out;omega)⟩
   obtain ⟨ga,oa,rfl,hca⟩:=HR.out k _ hx
   obtain ⟨gb,ob,rfl,hcb⟩:=HS.out k _ hx
   have e0:=ext_cell (cell_keep hb (hca 0 _ rfl))
   have e1:=ext_cell (cell_keep hb (hca 1 _ rfl))
   have e2:=ext_cell (cell_keep hb (hcb 0 _ rfl))
   have e3:=ext_cell (cell_keep hb (hcb 1 _ rfl))
   simp only [Nat.add_zero] at e0 e2
   clear hb hca hcb hx
   have heq:=fun z=>eqPairZ x1 x2 x1 x2 z
   go_upto_region 6 with fail
   (refine wp_region_calm (by kernel_rfl) (by kernel_rfl) ?_;(repeat (go_big_quiet_step (fail)));refine wpQuiet_nil ?_;intro wc hwc)
   clear e0 e1 e2 e3
   go_wp2_with fail
   go_roundw
   case rel=>exact ⟨k+1,by omega,by go_num,HB.out.trans (hwc.mono HB.out.size)⟩
   case measure=>simp [intOf];omega
  ·have hlt1:¬ (k:Int)<(n:Int):=by omega
   go_wp2_with fail
   go_ret
   exact ⟨rfl,hb⟩
theorem bindsSame (v u:Value) (l:List BindD) (w:World) (h:RdZ bindC 2 w v l) (g:RdZ bindC 2 w u l) :
  Calls Tryz.prog 40 #[v,u] w fun e w'=>e=.returned (.bool true)/\Below w.heap.size w w':=by
 obtain ⟨a,c,rfl,⟨hl,-⟩,hr⟩:=h
 obtain ⟨b,d,rfl,-,hs⟩:=g
 have HR:=Hd hr
 have HS:=Hd hs
 obtain ⟨n,hn⟩:∃ n,l.length=n:=⟨_,rfl⟩
 rw [hn] at hl ⊢
 have HN:=Hd hn
 clear hr hs hn
 go_enter Tryz.func40,Tryz.ntmps40
 go_wp2_with fail
 go_loopw [5] (fun i wr=>∃ k:Nat,k<=n/\i=.int .i64 k/\Below w.heap.size w wr) (fun i _=>n - (intOf i).toNat)
 case atStart=>exact ⟨0,Nat.zero_le _,rfl,bR _ _⟩
 case round=>
  obtain ⟨k,hk,rfl,hb⟩:=hrel
  obtain ⟨w1,rfl⟩:∃ x:World,x=wr:=⟨_,rfl⟩
  have HB:=Hd hb
  by_cases hlt:k<n
  ·have hlt1:(k:Int)<(n:Int):=by omega
   obtain ⟨⟨x1,x2⟩,hx⟩:∃ x,l[k]?=some x:=⟨_,lG (by have:=HN.out;omega)⟩
   obtain ⟨ga,oa,rfl,hca⟩:=HR.out k _ hx
   obtain ⟨gb,ob,rfl,hcb⟩:=HS.out k _ hx
   have e0:=ext_cell (cell_keep hb (hca 0 _ rfl))
   have e1:=ext_cell (cell_keep hb (hca 1 _ rfl))
   have e2:=ext_cell (cell_keep hb (hcb 0 _ rfl))
   have e3:=ext_cell (cell_keep hb (hcb 1 _ rfl))
   simp only [Nat.add_zero] at e0 e2
   clear hb hca hcb hx
   go_upto_region 6 with fail
   (refine wp_region_calm (by kernel_rfl) (by kernel_rfl) ?_;(repeat (go_big_quiet_step (fail)));refine wpQuiet_nil ?_;intro wc hwc)
   clear e0 e1 e2 e3
   go_wp2_with fail
   go_roundw
   case rel=>exact ⟨k+1,by omega,by go_num,HB.out.trans (hwc.mono HB.out.size)⟩
   case measure=>simp [intOf];omega
  ·have hlt1:¬ (k:Int)<(n:Int):=by omega
   go_wp2_with fail
   go_ret
   exact ⟨rfl,hb⟩
theorem heap_alloc2_oldZ (w:World) (A B:Obj):((w.alloc A).alloc B).heap[w.heap.size]?=some A:=by
 have h:=((bR (w.alloc A).heap.size (w.alloc A)).alloc (nR _) B).block w.heap.size (by simp)
 exact h.trans (heap_alloc_new w A)
theorem heap_alloc2_newZ (w:World) (A B:Obj):((w.alloc A).alloc B).heap[w.heap.size+1]?=some B:=by
 have h:=heap_alloc_new (w.alloc A) B
 rwa [show (w.alloc A).heap.size=w.heap.size+1 by simp] at h
structure RdPolZ (w:World) (x:PolD) (lv ov cv sv:Value):Prop where
 lv:RdStrs none w lv x.levels
 ov:RdZ pairZ 2 w ov x.order
 cv:RdZ bindC 2 w cv x.chans
 sv:RdZ bindC 2 w sv x.sites
theorem RdPolZ.keep {w w':World} {x:PolD} {lv ov cv sv:Value} (h:RdPolZ w x lv ov cv sv) (hb:Below w.heap.size w w'):RdPolZ w' x lv ov cv sv:=⟨h.lv.keep hb,h.ov.keep hb,h.cv.keep hb,h.sv.keep hb⟩
abbrev polZV (x:PolD) (lv ov cv sv:Value):Value:=.agg #[lv,ov,cv,sv,.bool x.sens,.int .i64 x.steps,.int .i64 x.paths,.int .i64 x.nodes,.int .i64 x.confs]
theorem eqS_self:∀ l:List ByteArray,eqL eqS l l=true
 | []=>rfl
 | x :: r=>by rw [eqL,eqS_self r];simp [eqS]
theorem policySame (x:PolD) (lv ov cv sv lu ou cu su:Value) (w:World) (h:RdPolZ w x lv ov cv sv) (g:RdPolZ w x lu ou cu su) :
  Calls Tryz.prog 12 #[polZV x lv ov cv sv,polZV x lu ou cu su] w fun e w'=>e=.returned (.bool true)/\Below w.heap.size w w':=by
 obtain ⟨a1,c1,rfl,-,-⟩:=id h.lv
 obtain ⟨a2,c2,rfl,-,-⟩:=id h.ov
 obtain ⟨a3,c3,rfl,-,-⟩:=id h.cv
 obtain ⟨a4,c4,rfl,-,-⟩:=id h.sv
 obtain ⟨b1,d1,rfl,-,-⟩:=id g.lv
 obtain ⟨b2,d2,rfl,-,-⟩:=id g.ov
 obtain ⟨b3,d3,rfl,-,-⟩:=id g.cv
 obtain ⟨b4,d4,rfl,-,-⟩:=id g.sv
 have H:=Hd h
 have G:=Hd g
 clear h g
 obtain ⟨xl,xo,xc,xs,x4,x5,x6,x7,x8⟩:=x
 have hb0:Hid (Below w.heap.size w ((w.alloc (.cells #[.slice a1 xl.length c1,.slice a2 xo.length c2,.slice a3 xc.length c3,.slice a4 xs.length c4,.bool x4,.int .i64 x5,.int .i64 x6,.int .i64 x7,.int .i64 x8] 31)).alloc (.cells #[.slice b1 xl.length d1,.slice b2 xo.length d2,.slice b3 xc.length d3,.slice b4 xs.length d4,.bool x4,.int .i64 x5,.int .i64 x6,.int .i64 x7,.int .i64 x8] 31))):=(((bR _ _).alloc (nR _) _).alloc (by simp) _)
 have e0:=heap_alloc2_oldZ w (.cells #[.slice a1 xl.length c1,.slice a2 xo.length c2,.slice a3 xc.length c3,.slice a4 xs.length c4,.bool x4,.int .i64 x5,.int .i64 x6,.int .i64 x7,.int .i64 x8] 31) (.cells #[.slice b1 xl.length d1,.slice b2 xo.length d2,.slice b3 xc.length d3,.slice b4 xs.length d4,.bool x4,.int .i64 x5,.int .i64 x6,.int .i64 x7,.int .i64 x8] 31)
 have e1:=heap_alloc2_newZ w (.cells #[.slice a1 xl.length c1,.slice a2 xo.length c2,.slice a3 xc.length c3,.slice a4 xs.length c4,.bool x4,.int .i64 x5,.int .i64 x6,.int .i64 x7,.int .i64 x8] 31) (.cells #[.slice b1 xl.length d1,.slice b2 xo.length d2,.slice b3 xc.length d3,.slice b4 xs.length d4,.bool x4,.int .i64 x5,.int .i64 x6,.int .i64 x7,.int .i64 x8] 31)
 go_enter Tryz.func12,Tryz.ntmps12
 go_upto_region 1 with fail
 generalize (w.alloc (.cells #[.slice a1 xl.length c1,.slice a2 xo.length c2,.slice a3 xc.length c3,.slice a4 xs.length c4,.bool x4,.int .i64 x5,.int .i64 x6,.int .i64 x7,.int .i64 x8] 31)).alloc (.cells #[.slice b1 xl.length d1,.slice b2 xo.length d2,.slice b3 xc.length d3,.slice b4 xs.length d4,.bool x4,.int .i64 x5,.int .i64 x6,.int .i64 x7,.int .i64 x8] 31)=W at *
 have H0:=Hd e0
 have H1:=Hd e1
 have HS:=equalStrs (.slice a1 xl.length c1) (.slice b1 xl.length d1) xl xl W (H.out.lv.keep hb0.out) (G.out.lv.keep hb0.out)
 rw [eqS_self] at HS
 have HS:=Hd HS
 have p0:=row_of H0.out 0 _ rfl
 have q0:=row_of H1.out 0 _ rfl
 clear e0 e1
 go_wp2_with (first|(go_at_call 35;refine HS.out.mono ?_;rintro e z1 ⟨rfl,k1⟩;have K1:=Hd k1;have P2:=Hd (pairsSame (.slice a2 xo.length c2) (.slice b2 xo.length d2) xo z1 ((H.out.ov.keep hb0.out).keep k1) ((G.out.ov.keep hb0.out).keep k1));have hk0:=(K1.out.block _ (aE H0.out).1).trans H0.out;have hk1:=(K1.out.block _ (aE H1.out).1).trans H1.out;have p1:=row_of hk0 1 _ rfl;have q1:=row_of hk1 1 _ rfl;clear hk0 hk1;clear k1)|(go_at_call 39;refine P2.out.mono ?_;rintro e z2 ⟨rfl,k2⟩;have K2:=Hd (bcomp K1.out k2);have P3:=Hd (bindsSame (.slice a3 xc.length c3) (.slice b3 xc.length d3) xc z2 ((H.out.cv.keep hb0.out).keep K2.out) ((G.out.cv.keep hb0.out).keep K2.out));have hk0:=(K2.out.block _ (aE H0.out).1).trans H0.out;have hk1:=(K2.out.block _ (aE H1.out).1).trans H1.out;have p2:=row_of hk0 2 _ rfl;have q2:=row_of hk1 2 _ rfl;clear hk0 hk1;clear k2)|(go_at_call_of 40 (Value.slice a3 xc.length c3);refine P3.out.mono ?_;rintro e z3 ⟨rfl,k3⟩;have K3:=Hd (bcomp K2.out k3);have P4:=Hd (bindsSame (.slice a4 xs.length c4) (.slice b4 xs.length d4) xs z3 ((H.out.sv.keep hb0.out).keep K3.out) ((G.out.sv.keep hb0.out).keep K3.out));have hk0:=(K3.out.block _ (aE H0.out).1).trans H0.out;have hk1:=(K3.out.block _ (aE H1.out).1).trans H1.out;have p3:=row_of hk0 3 _ rfl;have q3:=row_of hk1 3 _ rfl;clear hk0 hk1;clear k3)|(go_at_call_of 40 (Value.slice a4 xs.length c4);refine P4.out.mono ?_;rintro e z4 ⟨rfl,k4⟩;have K4:=Hd (bcomp K3.out k4);have hk0:=(K4.out.block _ (aE H0.out).1).trans H0.out;have hk1:=(K4.out.block _ (aE H1.out).1).trans H1.out;have p4:=row_of hk0 4 _ rfl;have q4:=row_of hk1 4 _ rfl;have p5:=row_of hk0 5 _ rfl;have q5:=row_of hk1 5 _ rfl;have p6:=row_of hk0 6 _ rfl;have q6:=row_of hk1 6 _ rfl;have p7:=row_of hk0 7 _ rfl;have q7:=row_of hk1 7 _ rfl;have p8:=row_of hk0 8 _ rfl;have q8:=row_of hk1 8 _ rfl;clear hk0 hk1;clear k4))
 go_ret
 exact ⟨rfl,bcomp hb0.out K4.out⟩
theorem RdZ.of {α:Type} {K:Kind α} {w:World} {v:Value} {l:List α} (h:RdRow K none w v l) (hl:l.length<=1000000000):RdZ K.cells K.sz w v l:=by
 obtain ⟨a,c,rfl,hb,hr⟩:=h
 exact ⟨a,c,rfl,⟨hl,hb.2⟩,fun i x hi=>by
  obtain ⟨b,o,e,_,hc,_⟩:=hr i x hi
  exact ⟨b,o,e,hc⟩⟩
end Go.Proofs.YtgllkgedjplpdaaGreatDoor
