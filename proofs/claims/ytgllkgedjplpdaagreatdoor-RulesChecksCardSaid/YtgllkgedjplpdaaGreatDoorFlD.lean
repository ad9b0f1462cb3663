/- The contract of the maker's body. Conditions: the maker lies in memory; the calls go at most so deep. -/
import Derived.Test.YtgllkgedjplpdaaGreatDoorFlC
set_option linter.all false
set_option maxRecDepth 1000000
set_option maxHeartbeats 12800000
set_option linter.unusedVariables false
set_option linter.unusedSimpArgs false
namespace Go.Proofs.YtgllkgedjplpdaaGreatDoor
open Go.Maps (Keyed string_keyed int_keyed)
open Go.WideShapes Go.ChangeMaps Go.MapKept Go.WideMaps Go.ChangeAt Go.RowKit Go.ChangeShapes
theorem arg_ok (m:MkS) (H:m.Ok) (f:Int) (l:List ArgD) (k:Nat) (hl:∀ a ∈ l,InU64 a.num):InI64 (m.E.arg f l k).reg/\InU64 (m.E.arg f l k).num:=by
 unfold EnvF.arg argF
 cases h:l[k]? with
 | none=>exact ⟨i64_0,u64_0⟩
 | some a=>exact ref_ok m H f a (hl a (List.mem_of_getElem? h))
theorem u8n (k:Int) (h:decide (0<=k/\k<=255)=true):InU8 k:=by have h1:=of_decide_eq_true h;exact h1
theorem idx_ok (s:ByteArray) (l:List ByteArray) (h:l.length<=9000000000000000000):InI64 (idxS s l 0):=by
 have:=idxS_lo s l 0
 unfold InI64
 omega
section
variable (E:EnvF) (B:Int->Int->List CodeD->List CodeD) (f dst:Int) (s:StF) (x:InstrD) (h0:s.stop=false) (h1:s.C.length<=4096)
include h0 h1
theorem not_early:¬ (s.stop=true \/ 4096<s.C.length):=by rw [h0];simp;omega
theorem step_one (hk:x.kind ≠ 4/\x.kind ≠ 10/\x.kind ≠ 8/\x.kind ≠ 9/\x.kind ≠ 12):E.step B f dst s x={ s with C:=s.C ++ [E.one f x] }:=by
 unfold EnvF.step
 rw [if_neg (not_early s h0 h1),if_neg hk.1,if_neg hk.2.1,if_neg (by rintro (e|e);exact hk.2.2.1 e;exact hk.2.2.2.1 e),if_neg hk.2.2.2.2]
theorem step_jump (hk:x.kind=8 \/ x.kind=9):E.step B f dst s x={ s with C:=s.C ++ [E.one f x],J:=s.J ++ [(s.C.length,x.name)] }:=by
 unfold EnvF.step
 rw [if_neg (not_early s h0 h1),if_neg (by omega),if_neg (by omega),if_pos hk]
theorem step_label (hk:x.kind=10):E.step B f dst s x={ s with L:=(x.name,(s.C.length:Int)) :: s.L }:=by
 unfold EnvF.step
 rw [if_neg (not_early s h0 h1),if_neg (by omega),if_pos hk]
theorem step_ret (hk:x.kind=12):E.step B f dst s x={ s with C:=s.C ++ [EnvF.copy dst (E.arg f x.args 0),EnvF.jump0],T:=s.T ++ [s.C.length+1] }:=by
 unfold EnvF.step
 rw [if_neg (not_early s h0 h1),if_neg (by omega),if_neg (by omega),if_neg (by omega),if_pos hk]
theorem step_call (hk:x.kind=4):E.step B f dst s x={ s with C:=B (E.fnOf x.name) (E.reg f x.dst) (s.C ++ E.ahead f x) }:=by
 unfold EnvF.step
 rw [if_neg (not_early s h0 h1),if_pos hk]
end
theorem infoInt2:(Tryz.prog.info? 3).map (fun i=>(i.zero,i.size,i.bytes))=some (some (.int .i64 0),1,8):=by kernel_rfl
theorem wpList_build_is {P:Program} {w:World} {ops:Array Oper} {rest:List Oper} {o:Oper} {a:Act} {Q:Exit->Act->World->Prop} (hg:o.guard=none) (t:TypeId) (parts:Array (Nat × Operand)) (ho:o.op=.build t parts) (vs:List (Nat × Value)) (hv:(parts.map fun (i,x)=>(i,a.eval x)).toList=vs) (cells:Array Value)
  (hb:P.built t vs=some cells) (hK:wpList P ops Q rest (a.put o.dst (.agg cells)) w):wpList P ops Q (o :: rest) a w:=by
 refine wpList_plain hg fun K' hK'=>?_
 unfold Oper.wp execOp
 simp only [ho,Sem.run_bind,run_build w t _ cells (by rw [hv];exact hb),Result.andThen_ok]
 exact hK' _ _ hK
theorem quiet_build_is {P:Program} {o:Oper} {a:Act} {C:World->Prop} {K:Act->Prop} (t:TypeId) (parts:Array (Nat × Operand)) (ho:o.op=.build t parts) (vs:List (Nat × Value)) (hv:(parts.map fun (i,x)=>(i,a.eval x)).toList=vs) (cells:Array Value)
  (hb:P.built t vs=some cells) (hK:K (a.put o.dst (.agg cells))):o.quiet P a C K:=by
 refine ⟨_,fun w hw=>?_,hK⟩
 unfold Oper.quietAt
 unfold execOp
 simp only [ho,Sem.run_bind,run_build w t _ cells (by rw [hv];exact hb),Result.andThen_ok]
 exact ⟨rfl,rfl⟩
theorem built_op (op d r0 n0 r1 n1:Int):Tryz.prog.built 58 [(0,.int .u8 1),(1,.int .u8 op),(2,.int .i64 d),(4,.agg #[.int .i64 r0,.int .u64 n0]),(5,.agg #[.int .i64 r1,.int .u64 n1])]=some #[.int .u8 1,.int .u8 op,.int .i64 d,.int .i64 0,.int .i64 r0,.int .u64 n0,.int .i64 r1,.int .u64 n1]:=by kernel_rfl
theorem built_store (q r0 n0 r1 n1:Int):Tryz.prog.built 58 [(0,.int .u8 3),(3,.int .i64 q),(4,.agg #[.int .i64 r0,.int .u64 n0]),(5,.agg #[.int .i64 r1,.int .u64 n1])]=some #[.int .u8 3,.int .u8 0,.int .i64 0,.int .i64 q,.int .i64 r0,.int .u64 n0,.int .i64 r1,.int .u64 n1]:=by kernel_rfl
def InOk (P:ByteArray->Prop) (s:StF):Prop:=(∀ q ∈ s.J,P q.2)/\∀ p ∈ s.L,0<=p.2/\p.2<=(s.C.length:Int)
theorem step_in (E:EnvF) (B:Int->Int->List CodeD->List CodeD) (hB:∀ g d C,C.length<=(B g d C).length) (P:ByteArray->Prop) (f dst:Int) (s:StF) (x:InstrD) (hx:P x.name) (h:InOk P s):InOk P (E.step B f dst s x):=by
 have hl:=E.step_len B hB f dst s x
 have hL:∀ C:List CodeD,s.C.length<=C.length->∀ p ∈ s.L,0<=p.2/\p.2<=(C.length:Int):=fun C hC p hp=>by have:=h.2 p hp;omega
 unfold EnvF.step at hl ⊢
 split
 ·exact h
 rename_i h1
 rw [if_neg h1] at hl
 split
 ·rename_i h2
  rw [if_pos h2] at hl
  exact ⟨h.1,hL _ hl⟩
 split
 ·refine ⟨h.1,fun p hp=>?_⟩
  rcases List.mem_cons.1 hp with rfl|hp
  ·exact ⟨Int.natCast_nonneg _,Int.le_refl _⟩
  ·exact h.2 p hp
 split
 ·refine ⟨fun q hq=>?_,hL _ (by simp)⟩
  rcases List.mem_append.1 hq with hq|hq
  ·exact h.1 q hq
  ·rw [List.mem_singleton] at hq;subst hq;exact hx
 split
 ·exact ⟨h.1,hL _ (by simp)⟩
 ·exact ⟨h.1,hL _ (by simp)⟩
theorem stAt_in (E:EnvF) (B:Int->Int->List CodeD->List CodeD) (hB:∀ g d C,C.length<=(B g d C).length) (P:ByteArray->Prop) (f dst:Int) (C:List CodeD) (code:List InstrD) (hP:∀ x ∈ code,P x.name) (k:Nat):InOk P (E.stAt B f dst C code k):=by
 unfold EnvF.stAt
 have:∀ (l:List InstrD) (s:StF),(∀ x ∈ l,P x.name)->InOk P s->InOk P (l.foldl (E.step B f dst) s):=by
  intro l
  induction l with
  | nil=>exact fun s _ h=>h
  | cons x r ih=>exact fun s hx h=>ih _ (fun y hy=>hx y (by simp [hy])) (step_in E B hB P f dst s x (hx x (by simp)) h)
 exact this _ _ (fun x hx=>hP x (List.mem_of_mem_take hx)) ⟨fun q hq=>(by cases hq),fun p hp=>(by cases hp)⟩
theorem look_in {P:ByteArray->Prop} {s:StF} (h:InOk P s) (nm:ByteArray):0<=lookL nm s.L/\lookL nm s.L<=(s.C.length:Int):=by
 unfold lookL atL
 cases hf:s.L.find? fun p=>decide (p.1=nm) with
 | none=>simp
 | some p=>simp;exact h.2 p (List.mem_of_find?_eq_some hf)
def Kinds (p:ProgD):Prop:=∀ f x,x ∈ (bodyF p f).2->0<=x.kind/\x.kind<=12
theorem mk_slice {m:MkS} {kv:Value} {C:List CodeD} {w:World} (h:m.At kv C w):∃ a c,kv=.slice a C.length c:=by
 obtain ⟨a,c,e,_⟩:=own_read h.own;exact ⟨a,c,e⟩
theorem MkS.At.codeAt {m:MkS} {kv:Value} {C:List CodeD} {w:World} (h:m.At kv C w) {k:Nat} (hk:k<C.length):∃ g c v,kv=.slice (some ⟨g,0,none⟩) C.length c/\w.cell? ⟨g,k * 8+3,none⟩=some v/\w.frozen? ⟨g,k * 8+3,none⟩=false:=by
 have hlen:(C.flatMap cellsCode).length=C.length * 8:=flat_length cellsCode 8 (fun _=>rfl) C
 obtain ⟨g,c,e,hf,hc⟩:=own_at h.own (by rw [hlen];omega)
 refine ⟨g,c,.int .i64 (C[k]'hk).n,e,?_,hf.frozen _⟩
 have h1:=hc (k * 8+3) (.int .i64 (C[k]'hk).n) (by rw [flat_get cellsCode 8 (fun _=>rfl) C k 3 _ (lG hk) (by omega)];rfl)
 rw [Nat.zero_add] at h1
 exact h1
theorem BdS.At.patched {b:BdS} {g n c:Nat} {jv tv:Value} {S:StF} {N:List (Nat × ByteArray)} {x y:World} (h:b.At (.slice (some ⟨g,0,none⟩) n c) jv tv S N x) (k:Below x.heap.size x y) (i:Nat) (hi:i<S.C.length) (v:Int) (hv:InI64 v) :
  b.At (.slice (some ⟨g,0,none⟩) n c) jv tv { S with C:=EnvF.setN S.C i v } N (y.setCell ⟨g,i * 8+3,none⟩ (.int .i64 v)):=by
 have h1:=h.keep k
 have h2:=h1.mak.patched hi v hv
 exact h1.made h2.1 h2.2
theorem body_step (m:MkS) (H:m.Ok) (hs:EnvF.Small m.E.p) (hkd:Kinds m.E.p) (n:Nat) (hn:n<=100) (f:Int) (hfit:EnvF.Fits m.E.p (n+1) f) (hfr:f=-1 \/ ∃ g:Nat,f=g/\g<m.E.p.funcs.length) (IH:∀ g:Nat,g<m.E.p.funcs.length->EnvF.Fits m.E.p n g->BodyC m n g):BodyC m (n+1) f:=by
 intro dst kv0 C0 w hdst h0 hC0
 have hfi:InI64 f:=by
  rcases hfr with rfl|⟨g,rfl,hg⟩
  ·exact i64_m1
  ·have:=H.prog.2.2.1;obtain ⟨a,c,e,⟨q,_⟩,_⟩:=this;unfold InI64;omega
 obtain ⟨hx0,hx1,hb0⟩:=heap2_of (w:=w) (A:=.cells #[.pointer (some ⟨m.M,0,none⟩)] 128) (B:=.cells #[.int .i64 f] 3) (bR _ _)
 have HA0:=Hd (h0.keep hb0)
 have HX0:=Hd hx0
 have HX1:=Hd hx1
 have HB0:=Hd hb0
 have HH0:=Hd h0
 have HC0:=Hd hC0
 have HDST:=Hd hdst
 have HFI:=Hd hfi
 have HFIT:=Hd hfit
 have HIH:=Hd IH
 have hmf:∀ (fn:Fn) (first cap:Array Value) (w:World),(Instr.makeFunc fn first cap).run Tryz.prog w=.ok (.func fn first cap) w:=fun _ _ _ _=>rfl
 have hmm:=@run_makeMap Tryz.prog
 obtain ⟨j0,hj0,hj1,hj2,hj3⟩:=info_parts infoInt2
 clear hx0 hx1 hb0 h0 hC0 hdst hfit IH
 go_enter Tryz.func74,Tryz.ntmps74
 go_upto_region 1 with fail
 generalize (w.alloc (.cells #[.pointer (some ⟨m.M,0,none⟩)] 128)).alloc (.cells #[.int .i64 f] 3)=W at *
 obtain ⟨mb,hmb⟩:∃ mb,w.heap.size=mb:=⟨_,rfl⟩
 rw [hmb] at HX0 HX1
 rw [hmb]
 have HMB:=Hd hmb
 clear hmb
 have b0:=row_of HX0.out 0 (.pointer (some ⟨m.M,0,none⟩)) rfl
 have b1:=row_of HX1.out 0 (.int .i64 f) rfl
 have c4:=HA0.out.c4
 go_upto_if 29 with fail
 go_cut [6] from 23 to 38 (fun cc wx=>RdInstrs none m.w0 cc (bodyF m.E.p f).2/\Below W.heap.size W wx)
 case first=>
  rcases hfr with rfl|⟨g,rfl,hg⟩
  ·go_wp2_with fail
   go_meet
   exact ⟨H.prog.2.2.2.1,bR _ _⟩
  ·have c3:=HA0.out.c3
   obtain ⟨fd,hfd⟩:∃ fd,m.E.p.funcs[g]?=some fd:=⟨_,lG hg⟩
   obtain ⟨a',c',e',hl',hr'⟩:=H.prog.2.2.1
   simp only [Value.slice.injEq] at e'
   obtain ⟨q,o,pv,cv,e'',_,f0,f1,f2,f3,f4,hri⟩:=hr' g fd hfd
   rw [e'.1,e''] at c3
   have f5:=cell_keep HA0.out.below f2
   have hgl2:(g:Int)<(m.E.p.funcs.length:Int):=by omega
   have HRI:=Hd hri.2.1
   obtain ⟨ap,kp,rfl,_⟩:=id hri.2.1
   have HBF:=Hd (bodyF_fn hfd)
   clear hri hr' e' f0 f1 f2 f3 f4 hfd hl'
   go_upto_region 3 with fail
   have e0:=ext_cell b0
   have e1:=ext_cell b1
   have e2:=ext_cell c3
   have e3:=ext_cell f5
   clear b0 b1 c3 c4 f5
   (refine wp_region_calm (by kernel_rfl) (by kernel_rfl) ?_; (repeat (go_big_quiet_step (fail))); refine wpQuiet_nil ?_; intro wc hwc)
   go_wp2_with fail
   go_meet
   exact ⟨by rw [HBF.out];exact HRI.out,hwc⟩
 case rest=>
  obtain ⟨hrd,hbW⟩:=hcut
  obtain ⟨acd,kcd,rfl,⟨hcl,_⟩,hcr⟩:=id hrd
  obtain ⟨code,hcode⟩:∃ code,(bodyF m.E.p f).2=code:=⟨_,rfl⟩
  have hcl2:code.length<=1024:=by rw [<- hcode];exact (hs f).2.1
  have hxs:∀ x ∈ code,x.args.length<=32:=by rw [<- hcode];exact (hs f).2.2
  have hks:∀ x ∈ code,0<=x.kind/\x.kind<=12:=by rw [<- hcode];exact fun x hx=>hkd f x hx
  have hfs:∀ x ∈ code,x.kind=4->∃ g:Nat,idxS x.name (fNames m.E.p.funcs) 0=g/\g<m.E.p.funcs.length/\x.args.length=(bodyF m.E.p g).1.length/\EnvF.Fits m.E.p n g:=by rw [<- hcode];exact HFIT.out
  rw [hcode] at hcr
  rw [hcode]
  have HCODE:=Hd hcode
  have HXS:=Hd hxs
  have HKS:=Hd hks
  have HFS:=Hd hfs
  have HCR:=Hd hcr
  have HA1:=Hd (HA0.out.keep hbW)
  have HY0:=Hd ((hbW.block mb (aE HX0.out).1).trans HX0.out)
  have HY1:=Hd ((hbW.block (mb+1) (aE HX1.out).1).trans HX1.out)
  have HBW:=Hd (bcomp HB0.out hbW)
  clear hrd hcr hcode hxs hks hfs hbW b0 b1 c4 HA0 HX0 HX1 HFIT hfr
  obtain ⟨hm0,hm1,hbm⟩:=heap2_of (w:=wc) (A:=.map #[] 0) (B:=.map #[] 0) (bR _ _)
  have hls:wc.heap.size+1<((wc.alloc (.map #[] 0)).alloc (.map #[] 0)).heap.size:=(aE hm1).1
  have HM0:=Hd hm0
  have HM1:=Hd hm1
  have HBM:=Hd hbm
  have HLS:=Hd hls
  clear hm0 hm1 hbm hls
  go_wp2_with fail
  generalize (wc.alloc (.map #[] 0)).alloc (.map #[] 0)=W2 at *
  obtain ⟨lb,hlb⟩:∃ lb,wc.heap.size=lb:=⟨_,rfl⟩
  rw [hlb] at HM0 HM1 HLS
  rw [hlb]
  have HLB:=Hd hlb
  clear hlb
  have HB2:=Hd (bcomp HBW.out HBM.out)
  have HOK:Hid (BdS.Ok ⟨m,kv0,w,lb+1+1,mb,mb+1,lb,lb+1,f⟩):=by
   have e1:=HMB.out
   have e2:=HLB.out
   have e3:=(aE HY1.out).1
   have e4:=HBW.out.size
   have e5:=HH0.out.below.size
   have e6:=MapG.lt HH0.out.regs
   exact ⟨H,HFI.out,⟨by show w.heap.size<=mb;omega,by show mb<lb+1+1;omega⟩,⟨by show w.heap.size<=mb+1;omega,by show mb+1<lb+1+1;omega⟩,⟨by show w.heap.size<=lb;omega,by show lb<lb+1+1;omega⟩,⟨by show w.heap.size<=lb+1;omega,by show lb+1<lb+1+1;omega⟩,by show lb ≠ lb+1;omega,e6,e5⟩
  obtain ⟨b,hb⟩:∃ b:BdS,b=⟨m,kv0,w,lb+1+1,mb,mb+1,lb,lb+1,f⟩:=⟨_,rfl⟩
  have HBM':=Hd (bcomp HB0.out (bR _ _))
  have HAT0:Hid (BdS.At ⟨m,kv0,w,lb+1+1,mb,mb+1,lb,lb+1,f⟩ kv0 (.slice none 0 0) (.slice none 0 0) ⟨C0,[],[],[],false⟩ [] W2):=
   ⟨HA1.out.keep HBM.out,MkS.Grew.of_below HB2.out,(HBM.out.block _ (aE HY0.out).1).trans HY0.out,(HBM.out.block _ (aE HY1.out).1).trans HY1.out,
    LabIs.fresh HM0.out,MapG.fresh HM1.out,World.ownsRow_nil _ _ _ _,World.ownsRow_nil _ _ _ _,(fun k hk=>by simp [Value.ownBlock] at hk),by have:=HLS.out;show lb+1+1<=_;omega⟩
  clear hb HM0 HM1 HA1 HY0 HY1 HBM' HBM
  go_loopw [10,11,45] (fun jv tv i wr=>∃ (k:Nat) (kv:Value),k<=code.length/\i=.int .i64 k/\(m.E.stAt (m.E.body n) f dst C0 code k).stop=false/\BdS.At ⟨m,kv0,w,lb+1+1,mb,mb+1,lb,lb+1,f⟩ kv jv tv (m.E.stAt (m.E.body n) f dst C0 code k) (m.E.stAt (m.E.body n) f dst C0 code k).J wr) (fun _ _ i _=>code.length - (intOf i).toNat)
  case atStart=>exact ⟨0,kv0,Nat.zero_le _,rfl,by rw [EnvF.stAt_zero],by rw [EnvF.stAt_zero];exact HAT0.out⟩
  case round=>
   obtain ⟨wo,rfl⟩:∃ x:World,x=wr:=⟨_,rfl⟩
   obtain ⟨k,kv,hk,rfl,hstop,hat⟩:=hrel
   clear HAT0
   have hsok:=m.E.stAt_ok (m.E.body n) (m.E.body_len n) f dst C0 code k
   have htop:=m.E.stAt_top hs n f dst C0 code k HC0.out
   have hsin:=stAt_in m.E (m.E.body n) (m.E.body_len n) (fun s=>s.size<=maxLen) f dst C0 code (fun x hx=>by
    obtain ⟨i,hi⟩:=List.getElem?_of_mem hx
    obtain ⟨_,_,_,_,_,_,_,_,_,_,_,_,hri⟩:=HCR.out i x hi
    exact hri.2.2.2.2.2.2) k
   obtain ⟨S,hS⟩:∃ S,m.E.stAt (m.E.body n) f dst C0 code k=S:=⟨_,rfl⟩
   rw [hS] at hstop hat hsok htop hsin
   have HIN:=Hd hsin
   clear hsin
   obtain ⟨ka,kcap,rfl⟩:=mk_slice hat.mak
   have HS:=Hd hS
   have HAT:=Hd hat
   have HSTOP:=Hd hstop
   have HSOK:=Hd hsok
   have HTOP:=Hd htop
   clear hS hat hstop hsok htop
   by_cases hlt:k<code.length
   rotate_left
   ·obtain rfl:k=code.length:=by omega
    have hlt2:¬ (code.length:Int)<(code.length:Int):=by omega
    have hall:=m.E.stAt_all (m.E.body n) f dst C0 code
    rw [HS.out] at hall
    have HFIN:Hid (m.E.body (n+1) f dst C0=EnvF.patch (EnvF.patch (S.C ++ [EnvF.last f dst]) (EnvF.jumpsOf S)) (S.T.map fun k=>(k,(S.C.length:Int)+1))):=by
     show EnvF.finish f dst ((bodyF m.E.p f).2.foldl _ _)=_
     rw [HCODE.out,<- hall]
     unfold EnvF.finish
     rw [HSTOP.out]
     rfl
    clear hall
    have hfew:=m.E.stAt_few (m.E.body n) f dst C0 code code.length
    rw [HS.out] at hfew
    have hfj:S.J.length<=1024:=Nat.le_trans hfew.1 hcl2
    have hft:S.T.length<=1024:=Nat.le_trans hfew.2 hcl2
    clear hfew
    obtain ⟨ja,jc,rfl,_⟩:=own_read HAT.out.jo
    obtain ⟨ta,tc,rfl,_⟩:=own_read HAT.out.tor
    have b1:wo.cell? ⟨mb+1,0,none⟩=some (.int .i64 f):=row_of HAT.out.fbx 0 _ rfl
    have htop:S.C.length<=2000000:=by have:=HTOP.out;omega
    go_upto_if 243 with fail
    go_cut [] from 242 to 251 (fun wx=>∃ kv',BdS.At ⟨m,kv0,w,lb+1+1,mb,mb+1,lb,lb+1,f⟩ kv' (.slice ja S.J.length jc) (.slice ta S.T.length tc) { S with C:=S.C ++ [EnvF.last f dst] } S.J wx)
    case first=>
     by_cases hneg:(0:Int)<=f
     ·have hl:EnvF.last f dst=⟨0,0,dst,0,⟨-1,0⟩,⟨0,0⟩⟩:=by unfold EnvF.last;rw [if_pos hneg];rfl
      have HL:=Hd hl
      have hput9:=put_any m mb ⟨0,0,dst,0,⟨-1,0⟩,⟨0,0⟩⟩ _ S.C wo HAT.out.mak HAT.out.mbx ⟨u8n 0 rfl,u8_0,HDST.out,i64_0,i64_m1,u64_0,i64_0,u64_0⟩ htop
      simp only [codeA] at hput9
      have HPUT:=Hd hput9
      clear hput9 hl
      go_wp2_with (go_at_call 104;refine HPUT.out.mono ?_;rintro e z9 ⟨rfl,kv9,hat9,hgr9⟩;have HAT9:=Hd (HAT.out.made hat9 hgr9);clear hat9 hgr9)
      go_meet
      exact ⟨kv9,by rw [HL.out];exact HAT9.out⟩
     ·have hl:EnvF.last f dst=⟨9,0,0,0,⟨0,0⟩,⟨0,0⟩⟩:=by unfold EnvF.last;rw [if_neg hneg];rfl
      have HL:=Hd hl
      have hput9:=put_any m mb ⟨9,0,0,0,⟨0,0⟩,⟨0,0⟩⟩ _ S.C wo HAT.out.mak HAT.out.mbx ⟨u8n 9 rfl,u8_0,i64_0,i64_0,i64_0,u64_0,i64_0,u64_0⟩ htop
      simp only [codeA] at hput9
      have HPUT:=Hd hput9
      clear hput9 hl
      go_wp2_with (go_at_call 104;refine HPUT.out.mono ?_;rintro e z9 ⟨rfl,kv9,hat9,hgr9⟩;have HAT9:=Hd (HAT.out.made hat9 hgr9);clear hat9 hgr9)
      go_meet
      exact ⟨kv9,by rw [HL.out];exact HAT9.out⟩
    case rest=>
     obtain ⟨kv9,hat9⟩:=hcut
     obtain ⟨W9,rfl⟩:∃ z:World,z=wc:=⟨_,rfl⟩
     have HAT9:=Hd hat9
     clear hat9 b1 HAT
     go_wp2_with fail
     go_loopw [254] (fun i wr=>∃ (j:Nat) (kv1:Value),j<=S.J.length/\i=.int .i64 j/\BdS.At ⟨m,kv0,w,lb+1+1,mb,mb+1,lb,lb+1,f⟩ kv1 (.slice ja S.J.length jc) (.slice ta S.T.length tc) { S with C:=EnvF.patch (S.C ++ [EnvF.last f dst]) ((EnvF.jumpsOf S).take j) } S.J wr) (fun i _=>S.J.length - (intOf i).toNat)
     case atStart=>exact ⟨0,kv9,Nat.zero_le _,rfl,HAT9.out⟩
     case round=>
      obtain ⟨wp,rfl⟩:∃ x:World,x=wr:=⟨_,rfl⟩
      obtain ⟨j,kv1,hj,rfl,hat⟩:=hrel
      have HATp:=Hd hat
      clear hat
      by_cases hjl:j<S.J.length
      rotate_left
      ·obtain rfl:j=S.J.length:=by omega
       have hjn:¬ (S.J.length:Int)<(S.J.length:Int):=by omega
       have hjo:(EnvF.jumpsOf S).take S.J.length=EnvF.jumpsOf S:=List.take_of_length_le (by unfold EnvF.jumpsOf;rw [List.length_map];exact nR _)
       rw [hjo] at HATp
       clear hjo
       go_wp2_with fail
       go_loopw [274] (fun i wr=>∃ (j:Nat) (kv2:Value),j<=S.T.length/\i=.int .i64 j/\BdS.At ⟨m,kv0,w,lb+1+1,mb,mb+1,lb,lb+1,f⟩ kv2 (.slice ja S.J.length jc) (.slice ta S.T.length tc) { S with C:=EnvF.patch (EnvF.patch (S.C ++ [EnvF.last f dst]) (EnvF.jumpsOf S)) ((S.T.map fun k=>(k,(S.C.length:Int)+1)).take j) } S.J wr) (fun i _=>S.T.length - (intOf i).toNat)
       case atStart=>exact ⟨0,kv1,Nat.zero_le _,rfl,HATp.out⟩
       case round=>
        clear HATp
        obtain ⟨wq,rfl⟩:∃ x:World,x=wr:=⟨_,rfl⟩
        obtain ⟨j,kv2,hj,rfl,hat⟩:=hrel
        have HATq:=Hd hat
        clear hat
        by_cases hjl:j<S.T.length
        rotate_left
        ·obtain rfl:j=S.T.length:=by omega
         have hjn:¬ (S.T.length:Int)<(S.T.length:Int):=by omega
         have hjo:(S.T.map fun k=>(k,(S.C.length:Int)+1)).take S.T.length=S.T.map fun k=>(k,(S.C.length:Int)+1):=List.take_of_length_le (by rw [List.length_map];exact nR _)
         rw [hjo] at HATq
         clear hjo
         go_wp2_with fail
         go_end0
         exact ⟨rfl,kv2,by rw [HFIN.out];exact HATq.out.mak,HATq.out.grew⟩
        obtain ⟨pt,hq⟩:∃ q,S.T[j]?=some q:=⟨_,lG hjl⟩
        have hlen:(BdS.tCells S.T).length=S.T.length * 1:=flat_length (fun q:Nat=>[Value.int .i64 (q:Nat)]) 1 (fun _=>rfl) S.T
        obtain ⟨gt,ct,et,_,hcell⟩:=own_at (xs:=BdS.tCells S.T) HATq.out.tor (by rw [hlen];omega)
        simp only [Value.slice.injEq] at et
        obtain ⟨rfl,_,_⟩:=et
        have htc:=hcell j (.int .i64 (pt:Nat)) (by have:=flat_get (fun q:Nat=>[Value.int .i64 (q:Nat)]) 1 (fun _=>rfl) S.T j 0 pt hq (by omega);rw [Nat.mul_one,Nat.add_zero] at this;rw [this];rfl)
        rw [Nat.zero_add] at htc
        have hjlt:(j:Int)<(S.T.length:Int):=by omega
        have hpt:pt<S.C.length:=HSOK.out.tl _ (List.mem_of_getElem? hq)
        have hnx:=EnvF.patch_take (EnvF.patch (S.C ++ [EnvF.last f dst]) (EnvF.jumpsOf S)) (S.T.map fun k=>(k,(S.C.length:Int)+1)) j (pt,(S.C.length:Int)+1) (by rw [List.getElem?_map,hq];rfl)
        obtain ⟨C',hC'⟩:∃ C',EnvF.patch (EnvF.patch (S.C ++ [EnvF.last f dst]) (EnvF.jumpsOf S)) ((S.T.map fun k=>(k,(S.C.length:Int)+1)).take j)=C':=⟨_,rfl⟩
        have hC'l:C'.length=S.C.length+1:=by rw [<- hC',EnvF.patch_length,EnvF.patch_length];simp
        rw [hC'] at HATq hnx
        have hmak:m.At kv2 C' wq:=HATq.out.mak
        obtain ⟨gk,ck,vk,rfl,hcv,hfz⟩:=hmak.codeAt (k:=pt) (by omega)
        rw [hC'l] at HATq hmak
        have HNX:=Hd hnx
        have HCL:=Hd hC'l
        have hmb0:wq.cell? ⟨mb,0,none⟩=some (.pointer (some ⟨m.M,0,none⟩)):=row_of HATq.out.mbx 0 _ rfl
        have hc10:=hmak.c10
        have HCV:=Hd hcv
        have HFZ:=Hd hfz
        have hptl:(pt:Int)<((S.C.length+1:Nat):Int):=by omega
        clear hlen hcell hq hnx hC' hC'l hmak hcv hfz
        go_upto_region 64 with fail
        have e0:=ext_cell hmb0
        have e1:=ext_cell hc10
        clear hmb0 hc10 htc
        (refine wp_region_calm_tail 14 (by kernel_rfl) (by kernel_rfl) ?_; simp only [List.take_succ_cons, List.take_zero, List.drop_succ_cons, List.drop_zero]; (repeat (go_big_quiet_step (fail))); refine wpQuiet_nil ?_; intro wc hwc)
        have hcv:=cell_keep hwc HCV.out
        have hfz:wc.frozen? ⟨gk,pt * 8+3,none⟩=false:=(hwc.frozen (block_lt_of_cell HCV.out)).trans HFZ.out
        clear e0 e1
        go_wp2_with fail
        go_roundw
        case rel=>
         refine ⟨j+1,.slice (some ⟨gk,0,none⟩) (S.C.length+1) ck,by omega,by go_num,?_⟩
         rw [HNX.out]
         have hC2:=HCL.out
         have hS2:=HTOP.out
         exact BdS.At.patched HATq.out hwc pt (by show pt<C'.length;omega) _ (by unfold InI64;omega)
        case measure=>simp [intOf];omega
      obtain ⟨⟨pq,nm⟩,hq⟩:∃ q,S.J[j]?=some q:=⟨_,lG hjl⟩
      have hlen:(BdS.jCells S.J).length=S.J.length * 1:=flat_length (fun q:Nat × ByteArray=>[Value.int .i64 (q.1:Nat)]) 1 (fun _=>rfl) S.J
      obtain ⟨gj,cj,ej,_,hcell⟩:=own_at (xs:=BdS.jCells S.J) HATp.out.jo (by rw [hlen];omega)
      simp only [Value.slice.injEq] at ej
      obtain ⟨rfl,_,_⟩:=ej
      have hjc:=hcell j (.int .i64 (pq:Nat)) (by have:=flat_get (fun q:Nat × ByteArray=>[Value.int .i64 (q.1:Nat)]) 1 (fun _=>rfl) S.J j 0 (pq,nm) hq (by omega);rw [Nat.mul_one,Nat.add_zero] at this;rw [this];rfl)
      rw [Nat.zero_add] at hjc
      have hjlt:(j:Int)<(S.J.length:Int):=by omega
      have hpq:pq<S.C.length:=HSOK.out.jl _ (List.mem_of_getElem? hq)
      have hin:=HIN.out
      have hnm:nm.size<=maxLen:=hin.1 _ (List.mem_of_getElem? hq)
      have hlk:=look_in hin nm
      have hnx:=EnvF.patch_take (S.C ++ [EnvF.last f dst]) (EnvF.jumpsOf S) j (pq,lookL nm S.L) (by unfold EnvF.jumpsOf;rw [List.getElem?_map,hq];rfl)
      obtain ⟨C',hC'⟩:∃ C',EnvF.patch (S.C ++ [EnvF.last f dst]) ((EnvF.jumpsOf S).take j)=C':=⟨_,rfl⟩
      have hC'l:C'.length=S.C.length+1:=by rw [<- hC',EnvF.patch_length];simp
      rw [hC'] at HATp hnx
      have hmak:m.At kv1 C' wp:=HATp.out.mak
      obtain ⟨gk,ck,vk,rfl,hcv,hfz⟩:=hmak.codeAt (k:=pq) (by omega)
      have hlook1:∀ x,(Instr.lookup 169 (.map (some (lb+1))) (.int .i64 (pq:Nat)) false).run Tryz.prog (ext wp x)=.ok (.string nm) (ext wp x):=fun x=>NamIs.look (MapG.keep HATp.out.nam (ext_below wp x)) HSOK.out.rise hq (by omega)
      obtain ⟨ln,hln⟩:∃ n,lookL nm S.L=n:=⟨_,rfl⟩
      have hlook2:∀ x,(Instr.lookup 104 (.map (some lb)) (.string nm) false).run Tryz.prog (ext wp x)=.ok (.int .i64 ln) (ext wp x):=fun x=>by
       have h1:LabIs (ext wp x) lb S.L:=LabIs.at HATp.out.lab ((ext_below wp x).block _ (LabIs.lt HATp.out.lab))
       rw [<- hln]
       exact LabIs.look Tryz.underlying9 Tryz.underlying104 (intZero _) h1 nm hnm
      rw [hln] at hnx hlk
      rw [hC'l] at HATp hmak
      have HNX:=Hd hnx
      have HCL:=Hd hC'l
      have HLK:=Hd hlk
      have hmb0:wp.cell? ⟨mb,0,none⟩=some (.pointer (some ⟨m.M,0,none⟩)):=row_of HATp.out.mbx 0 _ rfl
      have hc10:=hmak.c10
      have HCV:=Hd hcv
      have HFZ:=Hd hfz
      have hptl:(pq:Int)<((S.C.length+1:Nat):Int):=by omega
      clear hcell hlen hq hin hnm hlk hnx hC' hC'l hmak hcv hfz hln
      go_upto_region 59 with fail
      have e0:=ext_cell hmb0
      have e1:=ext_cell hc10
      clear hmb0 hc10 hjc
      (refine wp_region_calm_tail 13 (by kernel_rfl) (by kernel_rfl) ?_; simp only [List.take_succ_cons, List.take_zero, List.drop_succ_cons, List.drop_zero]; (repeat (go_big_quiet_step (fail))); refine wpQuiet_nil ?_; intro wc hwc)
      have hcv:=cell_keep hwc HCV.out
      have hfz:wc.frozen? ⟨gk,pq * 8+3,none⟩=false:=(hwc.frozen (block_lt_of_cell HCV.out)).trans HFZ.out
      clear e0 e1 hlook1 hlook2
      go_wp2_with fail
      go_roundw
      case rel=>
       refine ⟨j+1,.slice (some ⟨gk,0,none⟩) (S.C.length+1) ck,by omega,by go_num,?_⟩
       rw [HNX.out]
       have hC2:=HCL.out
       have hS2:=HTOP.out
       have hL2:=HLK.out
       exact BdS.At.patched HATp.out hwc pq (by show pq<C'.length;omega) _ (by unfold InI64;omega)
      case measure=>simp [intOf];omega
   obtain ⟨x,hx⟩:∃ x,code[k]?=some x:=⟨_,lG hlt⟩
   obtain ⟨bx,ox,av2,rfl,_,i0,i1,i2,i3,i4,i5,i6,hri⟩:=HCR.out k x hx
   obtain ⟨aa2,ca2,rfl,hal,har⟩:=id hri.1
   have k0:=cell_keep HAT.out.mak.below i0
   have k1:=cell_keep HAT.out.mak.below i1
   have k2:=cell_keep HAT.out.mak.below i2
   have k3:=cell_keep HAT.out.mak.below i3
   have k4:=cell_keep HAT.out.mak.below i4
   have k5:=cell_keep HAT.out.mak.below i5
   have k6:=cell_keep HAT.out.mak.below i6
   have HX:=Hd hx
   have HRI:=Hd hri
   have HAR:=Hd har
   have hklt:(k:Int)<(code.length:Int):=by omega
   have hg7:=heap_alloc_new wo (.cells #[.int .u8 x.kind,.int .u8 x.op,.string x.dst,.string x.name,.slice aa2 x.args.length ca2,.int .i64 x.line,.int .i64 x.col] 50)
   have hb7:Below wo.heap.size wo (wo.alloc (.cells #[.int .u8 x.kind,.int .u8 x.op,.string x.dst,.string x.name,.slice aa2 x.args.length ca2,.int .i64 x.line,.int .i64 x.col] 50)):=(bR _ _).alloc (nR _) _
   have HG7:=Hd hg7
   have HB7:=Hd hb7
   clear i0 i1 i2 i3 i4 i5 i6 hri hx har hg7 hb7
   go_upto_region 12 with fail
   generalize wo.alloc (.cells #[.int .u8 x.kind,.int .u8 x.op,.string x.dst,.string x.name,.slice aa2 x.args.length ca2,.int .i64 x.line,.int .i64 x.col] 50)=W7 at *
   obtain ⟨ib,hib⟩:∃ ib,wo.heap.size=ib:=⟨_,rfl⟩
   rw [hib] at HG7
   rw [hib]
   have HIB:=Hd hib
   clear hib k0 k1 k2 k3 k4 k5 k6
   have HAT7:=Hd (HAT.out.keep HB7.out)
   clear HAT
   have b0:W7.cell? ⟨mb,0,none⟩=some (.pointer (some ⟨m.M,0,none⟩)):=row_of HAT7.out.mbx 0 _ rfl
   have c10:W7.cell? ⟨m.M,10,none⟩=some (.slice ka S.C.length kcap):=HAT7.out.mak.c10
   by_cases hbig:(4096:Int)<(S.C.length:Int)
   ·clear hlt
    go_wp2_with fail
    have hC:=m.E.stAt_early (m.E.body n) f dst C0 code k (by omega) (by rw [HS.out];omega)
    refine bodyPost_ret (v:=.tuple #[]) (results_none rfl _ _ _) rfl ⟨rfl,_,?_,HAT7.out.grew⟩
    show m.At _ (EnvF.finish f dst _) _
    rw [HCODE.out,hC,HS.out]
    exact HAT7.out.mak
   go_upto_region 13 with fail
   have hslen:S.C.length<=4096:=by omega
   obtain ⟨hri1,hri2,hri3,hri4,hri5,hri6,hri7⟩:=HRI.out
   obtain ⟨d,hd⟩:∃ d:Int,m.E.reg f x.dst=d:=⟨_,rfl⟩
   have hdi:InI64 d:=by rw [<- hd];exact regN_i64 m H f x.dst
   have hlook:=ext_look HAT7.out.mak.regs H.nodup f x.dst HFI.out hri6 d hd
   have HDI:=Hd hdi
   have HD:=Hd hd
   have HSL:=Hd hslen
   have e0:=ext_cell b0
   have e1:=ext_cell (show W7.cell? ⟨m.M,11,none⟩=some (.map (some m.rb)) from HAT7.out.mak.c11)
   have e2:=ext_cell (show W7.cell? ⟨mb+1,0,none⟩=some (.int .i64 f) from row_of HAT7.out.fbx 0 _ rfl)
   have e3:=ext_cell (row_of HG7.out 2 (.string x.dst) rfl)
   clear b0 c10 hri1 hri2 hri3 hri4 hri5 hri6 hri7 hd hdi hslen hbig
   (refine wp_region_calm (by kernel_rfl) (by kernel_rfl) ?_; (repeat (go_big_quiet_step (fail))); refine wpQuiet_nil ?_; intro wc hwc)
   clear e0 e1 e2 e3 hlook
   obtain ⟨Wc,rfl⟩:∃ z:World,z=wc:=⟨_,rfl⟩
   have HATc:=Hd (HAT7.out.keep hwc)
   have HGc:=Hd ((hwc.block ib (aE HG7.out).1).trans HG7.out)
   clear hwc HAT7 HG7
   obtain ⟨hra,hrb,hb8⟩:=heap2_of (w:=Wc) (A:=.cells #[.int .i64 0,.int .u64 0] 56) (B:=.cells #[.int .i64 0,.int .u64 0] 56) (bR _ _)
   have HRA:=Hd hra
   have HRB:=Hd hrb
   have HB8:=Hd hb8
   have i4:((Wc.alloc (.cells #[.int .i64 0,.int .u64 0] 56)).alloc (.cells #[.int .i64 0,.int .u64 0] 56)).cell? ⟨ib,4,none⟩=some (.slice aa2 x.args.length ca2):=cell_keep hb8 (row_of HGc.out 4 _ rfl)
   clear hra hrb hb8
   go_upto_if 68 with fail
   generalize (Wc.alloc (.cells #[.int .i64 0,.int .u64 0] 56)).alloc (.cells #[.int .i64 0,.int .u64 0] 56)=W8 at *
   obtain ⟨ra,hra⟩:∃ ra,Wc.heap.size=ra:=⟨_,rfl⟩
   rw [hra] at HRA HRB
   try rw [hra]
   have HRAe:=Hd hra
   clear hra
   have HREF:Hid (∀ (y:ArgD) (z:World),y ∈ x.args->Below Wc.heap.size Wc z->Calls Tryz.prog 102 #[.agg #[.string y.name,.int .u64 y.num],.pointer (some ⟨mb,0,none⟩),.pointer (some ⟨mb+1,0,none⟩)] z fun e w'=>e=.returned (refA (m.E.ref f y))/\Below z.heap.size z w'):=fun y z hy hz=>by
    obtain ⟨j,hj⟩:=List.getElem?_of_mem hy
    obtain ⟨_,_,_,_,_,_,g1,g2⟩:=HAR.out j y hj
    exact ref_any m H _ S.C f y mb (mb+1) z (HATc.out.keep hz).mak (HATc.out.keep hz).mbx (HATc.out.keep hz).fbx HFI.out ⟨g1,g2⟩
   obtain ⟨r0,hr0⟩:∃ r,m.E.arg f x.args 0=r:=⟨_,rfl⟩
   obtain ⟨r1,hr1⟩:∃ r,m.E.arg f x.args 1=r:=⟨_,rfl⟩
   have HR0:=Hd hr0
   have HR1:=Hd hr1
   clear hr0 hr1
   go_cut [] from 68 to 74 (fun wx=>Below Wc.heap.size Wc wx/\wx.heap[ra]?=some (.cells #[.int .i64 r0.reg,.int .u64 r0.num] 56 (0,0))/\wx.heap[ra+1]?=some (.cells #[.int .i64 0,.int .u64 0] 56 (0,0)))
   case first=>
    by_cases ha:0<x.args.length
    ·obtain ⟨y,hy⟩:∃ y,x.args[0]?=some y:=⟨_,lG ha⟩
     obtain ⟨ba,oa,rfl,_,y0,y1,_⟩:=HAR.out 0 y hy
     have hz8:Below m.w0.heap.size m.w0 W8:=(HATc.out.keep HB8.out).mak.below
     have y2:=cell_keep hz8 y0
     have y3:=cell_keep hz8 y1
     simp only [Nat.zero_mul,Nat.add_zero] at y2 y3
     have hrr:m.E.ref f y=r0:=by rw [<- HR0.out];unfold EnvF.arg argF;rw [hy];rfl
     have hC:=HREF.out y W8 (List.mem_of_getElem? hy) HB8.out
     rw [hrr] at hC
     have HC:=Hd hC
     have ha':(0:Int)<(x.args.length:Int):=by omega
     clear y0 y1 hz8 hrr hC hy ha
     go_wp2_with (first|(go_at_call 102;refine HC.out.mono ?_;rintro e z9 ⟨rfl,hz9⟩;have HZ9:=Hd hz9;have HRA9:=Hd ((hz9.block ra (aE HRA.out).1).trans HRA.out);have HRB9:=Hd ((hz9.block (ra+1) (aE HRB.out).1).trans HRB.out);clear hz9)|(refine wpList_store_row rfl 56 (.tmp 16) (.tmp 74) rfl ra #[.int .i64 r0.reg,.int .u64 r0.num] rfl rfl 56 #[.int .i64 0,.int .u64 0] ?hs0 (by as_aux_lemma=>kernel_rfl) (by as_aux_lemma=>kernel_rfl) (by as_aux_lemma=>kernel_rfl) ?_;exact HRA9.out))
     go_meet
     exact ⟨below_row (bcomp HB8.out HZ9.out) (by have:=HRAe.out;omega) _,setRow_heap _ _ _ _ _ _ HRA9.out,(setRow_other _ _ _ _ (by omega)).trans HRB9.out⟩
    ·have hr:r0=zeroRef:=by rw [<- HR0.out];unfold EnvF.arg argF;rw [List.getElem?_eq_none (by omega)]
     subst hr
     have ha':¬ (0:Int)<(x.args.length:Int):=by omega
     clear ha
     go_wp2_with fail
     go_meet
     exact ⟨HB8.out,HRA.out,HRB.out⟩
   case rest=>
    obtain ⟨hb9,hra9,hrb9⟩:=hcut
    obtain ⟨W9,rfl⟩:∃ z:World,z=wc:=⟨_,rfl⟩
    have HB9:=Hd hb9
    have HRA9:=Hd hra9
    have HRB9:=Hd hrb9
    clear i4 HRA HRB HB8
    have i4:W9.cell? ⟨ib,4,none⟩=some (.slice aa2 x.args.length ca2):=cell_keep hb9 (row_of HGc.out 4 _ rfl)
    clear hb9 hra9 hrb9
    go_upto_if 78 with fail
    go_cut [] from 78 to 84 (fun wx=>Below Wc.heap.size Wc wx/\wx.heap[ra]?=some (.cells #[.int .i64 r0.reg,.int .u64 r0.num] 56 (0,0))/\wx.heap[ra+1]?=some (.cells #[.int .i64 r1.reg,.int .u64 r1.num] 56 (0,0)))
    case first=>
     by_cases ha:1<x.args.length
     ·obtain ⟨y,hy⟩:∃ y,x.args[1]?=some y:=⟨_,lG ha⟩
      obtain ⟨ba,oa,rfl,_,y0,y1,_⟩:=HAR.out 1 y hy
      have hz8:Below m.w0.heap.size m.w0 W9:=(HATc.out.keep HB9.out).mak.below
      have y2:=cell_keep hz8 y0
      have y3:=cell_keep hz8 y1
      simp only [Nat.one_mul] at y2 y3
      have hrr:m.E.ref f y=r1:=by rw [<- HR1.out];unfold EnvF.arg argF;rw [hy];rfl
      have hC:=HREF.out y W9 (List.mem_of_getElem? hy) HB9.out
      rw [hrr] at hC
      have HC:=Hd hC
      have ha':(1:Int)<(x.args.length:Int):=by omega
      clear y0 y1 hz8 hrr hC hy ha
      go_wp2_with (first|(go_at_call 102;refine HC.out.mono ?_;rintro e z9 ⟨rfl,hz9⟩;have HZ9:=Hd hz9;have HRA8:=Hd ((hz9.block ra (aE HRA9.out).1).trans HRA9.out);have HRB8:=Hd ((hz9.block (ra+1) (aE HRB9.out).1).trans HRB9.out);clear hz9)|(refine wpList_store_row rfl 56 (.tmp 17) (.tmp 84) rfl (ra+1) #[.int .i64 r1.reg,.int .u64 r1.num] rfl rfl 56 #[.int .i64 0,.int .u64 0] ?hs1 (by as_aux_lemma=>kernel_rfl) (by as_aux_lemma=>kernel_rfl) (by as_aux_lemma=>kernel_rfl) ?_;exact HRB8.out))
      go_meet
      exact ⟨below_row (bcomp HB9.out HZ9.out) (by have:=HRAe.out;omega) _,(setRow_other _ _ _ _ (by omega)).trans HRA8.out,setRow_heap _ _ _ _ _ _ HRB8.out⟩
     ·have hr:r1=zeroRef:=by rw [<- HR1.out];unfold EnvF.arg argF;rw [List.getElem?_eq_none (by omega)]
      subst hr
      have ha':¬ (1:Int)<(x.args.length:Int):=by omega
      clear ha
      go_wp2_with fail
      go_meet
      exact ⟨HB9.out,HRA9.out,HRB9.out⟩
    case rest=>
     obtain ⟨hb9,hra9,hrb9⟩:=hcut
     obtain ⟨W10,rfl⟩:∃ z:World,z=wc:=⟨_,rfl⟩
     clear i4 HB9 HRA9 HRB9
     obtain ⟨rb,hrb⟩:∃ z,ra+1=z:=⟨_,rfl⟩
     rw [hrb] at hrb9
     rw [hrb]
     clear hrb
     have HATy:=Hd (HATc.out.keep hb9)
     have HGy:=Hd ((hb9.block ib (aE HGc.out).1).trans HGc.out)
     have HRA:=Hd hra9
     have HRB:=Hd hrb9
     have i0:=row_of HGy.out 0 (.int .u8 x.kind) rfl
     clear hb9 hra9 hrb9 HATc HGc HREF HRAe
     go_upto_region 20 with fail
     clear i0
     have HSUCC:=Hd (m.E.stAt_succ (m.E.body n) f dst C0 code k x HX.out)
     rw [HS.out] at HSUCC
     have HKX:=Hd (HKS.out x (List.mem_of_getElem? HX.out))
     have HOP:=Hd HRI.out.2.2.1
     have HNM:=Hd HRI.out.2.2.2.2.2.2
     have hra1:∀ a ∈ x.args,InU64 a.num:=fun a ha=>by
      obtain ⟨j,hj⟩:=List.getElem?_of_mem ha
      obtain ⟨_,_,_,_,_,_,g1,_⟩:=HAR.out j a hj
      exact g1
     have HR0K:Hid (InI64 r0.reg/\InU64 r0.num):=by rw [<- HR0.out];exact arg_ok m H f x.args 0 hra1
     have HR1K:Hid (InI64 r1.reg/\InU64 r1.num):=by rw [<- HR1.out];exact arg_ok m H f x.args 1 hra1
     have HJL:Hid (S.J.length<=1024/\S.T.length<=1024):=by
      have:=m.E.stAt_few (m.E.body n) f dst C0 code k
      rw [HS.out] at this
      exact ⟨by omega,by omega⟩
     clear hra1
          -- SWITCH
     rcases (show x.kind=0 \/ x.kind=1 \/ x.kind=2 \/ x.kind=3 \/ x.kind=5 \/ x.kind=6 \/ x.kind=7 \/ x.kind=10 \/ x.kind=8 \/ x.kind=9 \/ x.kind=11 \/ x.kind=12 \/ x.kind=4 by have:=HKX.out;omega) with hkj|hkj|hkj|hkj|hkj|hkj|hkj|hkj|hkj|hkj|hkj|hkj|hkj
     ·as_aux_lemma=>
              -- copy
       have t0:(x.kind == 0)=true:=by simp [hkj]
       have HONE:m.E.one f x=⟨0,0,d,0,r0,zeroRef⟩:=by
        unfold EnvF.one
        rw [HD.out,HR0.out]
        simp [hkj]
       have HST:Hid (m.E.step (m.E.body n) f dst S x={ S with C:=S.C ++ [⟨0,0,d,0,r0,zeroRef⟩] }):=by
        show _=_
        rw [step_one m.E (m.E.body n) f dst S x HSTOP.out HSL.out (by omega),HONE]
       have HCOK:Hid (okC ⟨0,0,d,0,r0,zeroRef⟩):=⟨u8n _ rfl,u8_0,HDI.out,i64_0,HR0K.out.1,HR0K.out.2,i64_0,u64_0⟩
       have a0:W10.cell? ⟨ra,0,none⟩=some (.int .i64 r0.reg):=row_of HRA.out 0 _ rfl
       have a1:W10.cell? ⟨ra,1,none⟩=some (.int .u64 r0.num):=row_of HRA.out 1 _ rfl
       clear HONE hkj
       have hput9:=put_any m mb ⟨0,0,d,0,r0,zeroRef⟩ _ S.C W10 HATy.out.mak HATy.out.mbx HCOK.out (by have:=HSL.out;omega)
       simp only [codeA,zeroRef,EnvF.copy,EnvF.jump0] at hput9
       have HPUT9:=Hd hput9
       clear hput9
       go_wp2_with (go_at_call 104;refine HPUT9.out.mono ?_;rintro e z9 ⟨rfl,kv9,hat9,hgr9⟩;have HAT9:=Hd (HATy.out.made hat9 hgr9);clear hat9 hgr9)
       go_roundw
       case rel=>
        refine ⟨k+1,kv9,by omega,by go_num,?_,?_⟩
        ·rw [HSUCC.out,HST.out];exact HSTOP.out
        ·rw [HSUCC.out,HST.out];exact HAT9.out
       case measure=>simp [intOf];omega
     ·as_aux_lemma=>
              -- op
       have t0:(x.kind == 0)=false:=by simp [hkj]
       have t1:(x.kind == 1)=true:=by simp [hkj]
       have HONE:m.E.one f x=⟨1,x.op,d,0,r0,r1⟩:=by
        unfold EnvF.one
        rw [HD.out,HR0.out,HR1.out]
        simp [hkj]
       have HST:Hid (m.E.step (m.E.body n) f dst S x={ S with C:=S.C ++ [⟨1,x.op,d,0,r0,r1⟩] }):=by
        show _=_
        rw [step_one m.E (m.E.body n) f dst S x HSTOP.out HSL.out (by omega),HONE]
       have HCOK:Hid (okC ⟨1,x.op,d,0,r0,r1⟩):=⟨u8n _ rfl,HOP.out,HDI.out,i64_0,HR0K.out.1,HR0K.out.2,HR1K.out.1,HR1K.out.2⟩
       have a0:W10.cell? ⟨ra,0,none⟩=some (.int .i64 r0.reg):=row_of HRA.out 0 _ rfl
       have a1:W10.cell? ⟨ra,1,none⟩=some (.int .u64 r0.num):=row_of HRA.out 1 _ rfl
       have a2:W10.cell? ⟨rb,0,none⟩=some (.int .i64 r1.reg):=row_of HRB.out 0 _ rfl
       have a3:W10.cell? ⟨rb,1,none⟩=some (.int .u64 r1.num):=row_of HRB.out 1 _ rfl
       have i1:W10.cell? ⟨ib,1,none⟩=some (.int .u8 x.op):=row_of HGy.out 1 _ rfl
       clear HONE hkj
       have hput9:=put_any m mb ⟨1,x.op,d,0,r0,r1⟩ _ S.C W10 HATy.out.mak HATy.out.mbx HCOK.out (by have:=HSL.out;omega)
       simp only [codeA,zeroRef,EnvF.copy,EnvF.jump0] at hput9
       have HPUT9:=Hd hput9
       clear hput9
       go_wp2_with (first|(go_at_call 104;refine HPUT9.out.mono ?_;rintro e z9 ⟨rfl,kv9,hat9,hgr9⟩;have HAT9:=Hd (HATy.out.made hat9 hgr9);clear hat9 hgr9)|(refine wpList_build_is rfl 58 #[(0,.const (.int .u8 1)),(1,.tmp 98),(2,.tmp 99),(4,.tmp 100),(5,.tmp 101)] rfl [(0,.int .u8 1),(1,.int .u8 x.op),(2,.int .i64 d),(4,.agg #[.int .i64 r0.reg,.int .u64 r0.num]),(5,.agg #[.int .i64 r1.reg,.int .u64 r1.num])] (by kernel_rfl) _ (built_op _ _ _ _ _ _) ?_))
       go_roundw
       case rel=>
        refine ⟨k+1,kv9,by omega,by go_num,?_,?_⟩
        ·rw [HSUCC.out,HST.out];exact HSTOP.out
        ·rw [HSUCC.out,HST.out];exact HAT9.out
       case measure=>simp [intOf];omega
     ·as_aux_lemma=>
              -- load
       have t0:(x.kind == 0)=false:=by simp [hkj]
       have t1:(x.kind == 1)=false:=by simp [hkj]
       have t2:(x.kind == 2)=true:=by simp [hkj]
       obtain ⟨q,hq⟩:∃ q:Int,idxS x.name (aNames m.E.p.arrays) 0=q:=⟨_,rfl⟩
       have hqi:InI64 q:=by rw [<- hq];exact idx_ok _ _ (by unfold aNames;rw [List.length_map];have:=H.prog.2.1;obtain ⟨_,_,_,⟨z,_⟩,_⟩:=this;omega)
       have HONE:m.E.one f x=⟨2,0,d,q,r0,zeroRef⟩:=by
        unfold EnvF.one
        rw [HD.out,HR0.out,hq]
        simp [hkj]
       have HST:Hid (m.E.step (m.E.body n) f dst S x={ S with C:=S.C ++ [⟨2,0,d,q,r0,zeroRef⟩] }):=by
        show _=_
        rw [step_one m.E (m.E.body n) f dst S x HSTOP.out HSL.out (by omega),HONE]
       have HCOK:Hid (okC ⟨2,0,d,q,r0,zeroRef⟩):=⟨u8n _ rfl,u8_0,HDI.out,hqi,HR0K.out.1,HR0K.out.2,i64_0,u64_0⟩
       have a0:W10.cell? ⟨ra,0,none⟩=some (.int .i64 r0.reg):=row_of HRA.out 0 _ rfl
       have a1:W10.cell? ⟨ra,1,none⟩=some (.int .u64 r0.num):=row_of HRA.out 1 _ rfl
       have i3:W10.cell? ⟨ib,3,none⟩=some (.string x.name):=row_of HGy.out 3 _ rfl
       have b0:W10.cell? ⟨mb,0,none⟩=some (.pointer (some ⟨m.M,0,none⟩)):=row_of HATy.out.mbx 0 _ rfl
       have HARR:Hid (∀ z,Below W10.heap.size W10 z->Calls Tryz.prog 105 #[.pointer (some ⟨m.M,0,none⟩),.string x.name] z fun e w'=>e=.returned (.int .i64 q)/\Below z.heap.size z w'):=fun z hz=>by
        rw [<- hq];exact array_any m H _ S.C x.name z (HATy.out.keep hz).mak
       go_upto_region 25 with fail
       have e0:=ext_cell i3
       have e1:=ext_cell b0
       have e2:=ext_cell a0
       have e3:=ext_cell a1
       clear i3 b0 a0 a1 HONE hkj hq
       (refine wp_region_calm_tail 8 (by kernel_rfl) (by kernel_rfl) ?_; simp only [List.take_succ_cons, List.take_zero, List.drop_succ_cons, List.drop_zero]; (repeat (go_big_quiet_step ((go_at_call 105;exact calls_calm (HARR.out _ (ext_below _ _)))))); refine wpQuiet_nil ?_; intro wc hwc)
       clear e0 e1 e2 e3 HARR
       have HATc:=Hd (HATy.out.keep hwc)
       have hput9:=put_any m mb ⟨2,0,d,q,r0,zeroRef⟩ _ S.C wc HATc.out.mak HATc.out.mbx HCOK.out (by have:=HSL.out;omega)
       simp only [codeA,zeroRef,EnvF.copy,EnvF.jump0] at hput9
       have HPUT9:=Hd hput9
       clear hput9
       go_wp2_with (go_at_call 104;refine HPUT9.out.mono ?_;rintro e z9 ⟨rfl,kv9,hat9,hgr9⟩;have HAT9:=Hd (HATc.out.made hat9 hgr9);clear hat9 hgr9)
       go_roundw
       case rel=>
        refine ⟨k+1,kv9,by omega,by go_num,?_,?_⟩
        ·rw [HSUCC.out,HST.out];exact HSTOP.out
        ·rw [HSUCC.out,HST.out];exact HAT9.out
       case measure=>simp [intOf];omega
     ·as_aux_lemma=>
              -- store
       have t0:(x.kind == 0)=false:=by simp [hkj]
       have t1:(x.kind == 1)=false:=by simp [hkj]
       have t2:(x.kind == 2)=false:=by simp [hkj]
       have t3:(x.kind == 3)=true:=by simp [hkj]
       obtain ⟨q,hq⟩:∃ q:Int,idxS x.name (aNames m.E.p.arrays) 0=q:=⟨_,rfl⟩
       have hqi:InI64 q:=by rw [<- hq];exact idx_ok _ _ (by unfold aNames;rw [List.length_map];have:=H.prog.2.1;obtain ⟨_,_,_,⟨z,_⟩,_⟩:=this;omega)
       have HONE:m.E.one f x=⟨3,0,0,q,r0,r1⟩:=by
        unfold EnvF.one
        rw [HR0.out,HR1.out,hq]
        simp [hkj]
       have HST:Hid (m.E.step (m.E.body n) f dst S x={ S with C:=S.C ++ [⟨3,0,0,q,r0,r1⟩] }):=by
        show _=_
        rw [step_one m.E (m.E.body n) f dst S x HSTOP.out HSL.out (by omega),HONE]
       have HCOK:Hid (okC ⟨3,0,0,q,r0,r1⟩):=⟨u8n _ rfl,u8_0,i64_0,hqi,HR0K.out.1,HR0K.out.2,HR1K.out.1,HR1K.out.2⟩
       have a0:W10.cell? ⟨ra,0,none⟩=some (.int .i64 r0.reg):=row_of HRA.out 0 _ rfl
       have a1:W10.cell? ⟨ra,1,none⟩=some (.int .u64 r0.num):=row_of HRA.out 1 _ rfl
       have a2:W10.cell? ⟨rb,0,none⟩=some (.int .i64 r1.reg):=row_of HRB.out 0 _ rfl
       have a3:W10.cell? ⟨rb,1,none⟩=some (.int .u64 r1.num):=row_of HRB.out 1 _ rfl
       have i3:W10.cell? ⟨ib,3,none⟩=some (.string x.name):=row_of HGy.out 3 _ rfl
       have b0:W10.cell? ⟨mb,0,none⟩=some (.pointer (some ⟨m.M,0,none⟩)):=row_of HATy.out.mbx 0 _ rfl
       have HARR:Hid (∀ z,Below W10.heap.size W10 z->Calls Tryz.prog 105 #[.pointer (some ⟨m.M,0,none⟩),.string x.name] z fun e w'=>e=.returned (.int .i64 q)/\Below z.heap.size z w'):=fun z hz=>by
        rw [<- hq];exact array_any m H _ S.C x.name z (HATy.out.keep hz).mak
       go_upto_region 27 with fail
       have e0:=ext_cell i3
       have e1:=ext_cell b0
       have e2:=ext_cell a0
       have e3:=ext_cell a1
       have e4:=ext_cell a2
       have e5:=ext_cell a3
       clear i3 b0 a0 a1 a2 a3 HONE hkj hq
       refine wp_region_calm_tail 8 (by kernel_rfl) (by kernel_rfl) ?_
       simp only [List.take_succ_cons,List.take_zero,List.drop_succ_cons,List.drop_zero]
       iterate 7 go_big_quiet_step ((go_at_call 105;exact calls_calm (HARR.out _ (ext_below _ _))))
       refine quiet_build_is 58 #[(0,.const (.int .u8 3)),(3,.tmp 121),(4,.tmp 122),(5,.tmp 123)] rfl [(0,.int .u8 3),(3,.int .i64 q),(4,.agg #[.int .i64 r0.reg,.int .u64 r0.num]),(5,.agg #[.int .i64 r1.reg,.int .u64 r1.num])] (by kernel_rfl) _ (built_store _ _ _ _ _) ?_
       refine wpQuiet_nil ?_
       intro wc hwc
       clear e0 e1 e2 e3 e4 e5 HARR
       have HATc:=Hd (HATy.out.keep hwc)
       have hput9:=put_any m mb ⟨3,0,0,q,r0,r1⟩ _ S.C wc HATc.out.mak HATc.out.mbx HCOK.out (by have:=HSL.out;omega)
       simp only [codeA,zeroRef,EnvF.copy,EnvF.jump0] at hput9
       have HPUT9:=Hd hput9
       clear hput9
       go_wp2_with (go_at_call 104;refine HPUT9.out.mono ?_;rintro e z9 ⟨rfl,kv9,hat9,hgr9⟩;have HAT9:=Hd (HATc.out.made hat9 hgr9);clear hat9 hgr9)
       go_roundw
       case rel=>
        refine ⟨k+1,kv9,by omega,by go_num,?_,?_⟩
        ·rw [HSUCC.out,HST.out];exact HSTOP.out
        ·rw [HSUCC.out,HST.out];exact HAT9.out
       case measure=>simp [intOf];omega
     ·as_aux_lemma=>
              -- read
       have t0:(x.kind == 0)=false:=by simp [hkj]
       have t1:(x.kind == 1)=false:=by simp [hkj]
       have t2:(x.kind == 2)=false:=by simp [hkj]
       have t3:(x.kind == 3)=false:=by simp [hkj]
       have t5:(x.kind == 5)=true:=by simp [hkj]
       obtain ⟨q,hq⟩:∃ q:Int,idxS x.name m.E.p.chans 0=q:=⟨_,rfl⟩
       have hqi:InI64 q:=by rw [<- hq];exact idx_ok _ _ (by have:=H.prog.1;obtain ⟨_,_,_,⟨z,_⟩,_⟩:=this;omega)
       have HONE:m.E.one f x=⟨4,0,d,q,zeroRef,zeroRef⟩:=by
        unfold EnvF.one
        rw [HD.out,hq]
        simp [hkj]
       have HST:Hid (m.E.step (m.E.body n) f dst S x={ S with C:=S.C ++ [⟨4,0,d,q,zeroRef,zeroRef⟩] }):=by
        show _=_
        rw [step_one m.E (m.E.body n) f dst S x HSTOP.out HSL.out (by omega),HONE]
       have HCOK:Hid (okC ⟨4,0,d,q,zeroRef,zeroRef⟩):=⟨u8n _ rfl,u8_0,HDI.out,hqi,i64_0,u64_0,i64_0,u64_0⟩
       have i3:W10.cell? ⟨ib,3,none⟩=some (.string x.name):=row_of HGy.out 3 _ rfl
       have b0:W10.cell? ⟨mb,0,none⟩=some (.pointer (some ⟨m.M,0,none⟩)):=row_of HATy.out.mbx 0 _ rfl
       have HIDX:Hid (∀ z,Below W10.heap.size W10 z->Calls Tryz.prog 87 #[.slice m.ac m.E.p.chans.length m.kc,.string x.name] z fun e w'=>e=.returned (.int .i64 q)/\z=w'):=fun z hz=>by
        rw [<- hq];exact slicesIndex _ m.E.p.chans x.name z ((HATy.out.keep hz).mak.prog H).1
       have cM:W10.cell? ⟨m.M,1,none⟩=some (.slice m.ac m.E.p.chans.length m.kc):=HATy.out.mak.c1
       go_upto_region 29 with fail
       have e0:=ext_cell i3
       have e1:=ext_cell b0
       have e2:=ext_cell cM
       clear i3 b0 cM HONE hkj hq
       (refine wp_region_calm_tail 11 (by kernel_rfl) (by kernel_rfl) ?_; simp only [List.take_succ_cons, List.take_zero, List.drop_succ_cons, List.drop_zero]; (repeat (go_big_quiet_step ((go_at_call 87;exact calls_calm_same (HIDX.out _ (ext_below _ _)))))); refine wpQuiet_nil ?_; intro wc hwc)
       clear e0 e1 e2 HIDX
       have HATc:=Hd (HATy.out.keep hwc)
       have hput9:=put_any m mb ⟨4,0,d,q,zeroRef,zeroRef⟩ _ S.C wc HATc.out.mak HATc.out.mbx HCOK.out (by have:=HSL.out;omega)
       simp only [codeA,zeroRef,EnvF.copy,EnvF.jump0] at hput9
       have HPUT9:=Hd hput9
       clear hput9
       go_wp2_with (go_at_call 104;refine HPUT9.out.mono ?_;rintro e z9 ⟨rfl,kv9,hat9,hgr9⟩;have HAT9:=Hd (HATc.out.made hat9 hgr9);clear hat9 hgr9)
       go_roundw
       case rel=>
        refine ⟨k+1,kv9,by omega,by go_num,?_,?_⟩
        ·rw [HSUCC.out,HST.out];exact HSTOP.out
        ·rw [HSUCC.out,HST.out];exact HAT9.out
       case measure=>simp [intOf];omega
     ·as_aux_lemma=>
              -- write
       have t0:(x.kind == 0)=false:=by simp [hkj]
       have t1:(x.kind == 1)=false:=by simp [hkj]
       have t2:(x.kind == 2)=false:=by simp [hkj]
       have t3:(x.kind == 3)=false:=by simp [hkj]
       have t5:(x.kind == 5)=false:=by simp [hkj]
       have t6:(x.kind == 6)=true:=by simp [hkj]
       obtain ⟨q,hq⟩:∃ q:Int,idxS x.name m.E.p.chans 0=q:=⟨_,rfl⟩
       have hqi:InI64 q:=by rw [<- hq];exact idx_ok _ _ (by have:=H.prog.1;obtain ⟨_,_,_,⟨z,_⟩,_⟩:=this;omega)
       have HONE:m.E.one f x=⟨5,0,0,q,r0,zeroRef⟩:=by
        unfold EnvF.one
        rw [HR0.out,hq]
        simp [hkj]
       have HST:Hid (m.E.step (m.E.body n) f dst S x={ S with C:=S.C ++ [⟨5,0,0,q,r0,zeroRef⟩] }):=by
        show _=_
        rw [step_one m.E (m.E.body n) f dst S x HSTOP.out HSL.out (by omega),HONE]
       have HCOK:Hid (okC ⟨5,0,0,q,r0,zeroRef⟩):=⟨u8n _ rfl,u8_0,i64_0,hqi,HR0K.out.1,HR0K.out.2,i64_0,u64_0⟩
       have a0:W10.cell? ⟨ra,0,none⟩=some (.int .i64 r0.reg):=row_of HRA.out 0 _ rfl
       have a1:W10.cell? ⟨ra,1,none⟩=some (.int .u64 r0.num):=row_of HRA.out 1 _ rfl
       have i3:W10.cell? ⟨ib,3,none⟩=some (.string x.name):=row_of HGy.out 3 _ rfl
       have b0:W10.cell? ⟨mb,0,none⟩=some (.pointer (some ⟨m.M,0,none⟩)):=row_of HATy.out.mbx 0 _ rfl
       have HIDX:Hid (∀ z,Below W10.heap.size W10 z->Calls Tryz.prog 87 #[.slice m.ac m.E.p.chans.length m.kc,.string x.name] z fun e w'=>e=.returned (.int .i64 q)/\z=w'):=fun z hz=>by
        rw [<- hq];exact slicesIndex _ m.E.p.chans x.name z ((HATy.out.keep hz).mak.prog H).1
       have cM:W10.cell? ⟨m.M,1,none⟩=some (.slice m.ac m.E.p.chans.length m.kc):=HATy.out.mak.c1
       go_upto_region 31 with fail
       have e0:=ext_cell i3
       have e1:=ext_cell b0
       have e2:=ext_cell cM
       have e3:=ext_cell a0
       have e4:=ext_cell a1
       clear i3 b0 cM a0 a1 HONE hkj hq
       (refine wp_region_calm_tail 11 (by kernel_rfl) (by kernel_rfl) ?_; simp only [List.take_succ_cons, List.take_zero, List.drop_succ_cons, List.drop_zero]; (repeat (go_big_quiet_step ((go_at_call 87;exact calls_calm_same (HIDX.out _ (ext_below _ _)))))); refine wpQuiet_nil ?_; intro wc hwc)
       clear e0 e1 e2 e3 e4 HIDX
       have HATc:=Hd (HATy.out.keep hwc)
       have hput9:=put_any m mb ⟨5,0,0,q,r0,zeroRef⟩ _ S.C wc HATc.out.mak HATc.out.mbx HCOK.out (by have:=HSL.out;omega)
       simp only [codeA,zeroRef,EnvF.copy,EnvF.jump0] at hput9
       have HPUT9:=Hd hput9
       clear hput9
       go_wp2_with (go_at_call 104;refine HPUT9.out.mono ?_;rintro e z9 ⟨rfl,kv9,hat9,hgr9⟩;have HAT9:=Hd (HATc.out.made hat9 hgr9);clear hat9 hgr9)
       go_roundw
       case rel=>
        refine ⟨k+1,kv9,by omega,by go_num,?_,?_⟩
        ·rw [HSUCC.out,HST.out];exact HSTOP.out
        ·rw [HSUCC.out,HST.out];exact HAT9.out
       case measure=>simp [intOf];omega
     ·as_aux_lemma=>
              -- release
       have t0:(x.kind == 0)=false:=by simp [hkj]
       have t1:(x.kind == 1)=false:=by simp [hkj]
       have t2:(x.kind == 2)=false:=by simp [hkj]
       have t3:(x.kind == 3)=false:=by simp [hkj]
       have t5:(x.kind == 5)=false:=by simp [hkj]
       have t6:(x.kind == 6)=false:=by simp [hkj]
       have t7:(x.kind == 7)=true:=by simp [hkj]
       obtain ⟨q,hq⟩:∃ q:Int,idxS x.name m.E.S 0=q:=⟨_,rfl⟩
       have hqi:InI64 q:=by rw [<- hq];exact idx_ok _ _ (by have h':m.E.S.length<=100000:=HATy.out.mak.slen;omega)
       have HONE:m.E.one f x=⟨6,0,d,q,r0,zeroRef⟩:=by
        unfold EnvF.one
        rw [HD.out,HR0.out,hq]
        simp [hkj]
       have HST:Hid (m.E.step (m.E.body n) f dst S x={ S with C:=S.C ++ [⟨6,0,d,q,r0,zeroRef⟩] }):=by
        show _=_
        rw [step_one m.E (m.E.body n) f dst S x HSTOP.out HSL.out (by omega),HONE]
       have HCOK:Hid (okC ⟨6,0,d,q,r0,zeroRef⟩):=⟨u8n _ rfl,u8_0,HDI.out,hqi,HR0K.out.1,HR0K.out.2,i64_0,u64_0⟩
       have a0:W10.cell? ⟨ra,0,none⟩=some (.int .i64 r0.reg):=row_of HRA.out 0 _ rfl
       have a1:W10.cell? ⟨ra,1,none⟩=some (.int .u64 r0.num):=row_of HRA.out 1 _ rfl
       have i3:W10.cell? ⟨ib,3,none⟩=some (.string x.name):=row_of HGy.out 3 _ rfl
       have b0:W10.cell? ⟨mb,0,none⟩=some (.pointer (some ⟨m.M,0,none⟩)):=row_of HATy.out.mbx 0 _ rfl
       have HIDX:Hid (∀ z,Below W10.heap.size W10 z->Calls Tryz.prog 87 #[.slice m.sa m.E.S.length m.sk,.string x.name] z fun e w'=>e=.returned (.int .i64 q)/\z=w'):=fun z hz=>by
        rw [<- hq];exact slicesIndex _ m.E.S x.name z (own_strs (HATy.out.keep hz).mak.sites (by have h':m.E.S.length<=100000:=HATy.out.mak.slen;show m.E.S.length * 16<=_;omega) (HATy.out.keep hz).mak.sok).forget
       have cM:W10.cell? ⟨m.M,8,none⟩=some (.slice m.sa m.E.S.length m.sk):=HATy.out.mak.c8
       go_upto_region 33 with fail
       have e0:=ext_cell i3
       have e1:=ext_cell b0
       have e2:=ext_cell cM
       have e3:=ext_cell a0
       have e4:=ext_cell a1
       clear i3 b0 cM a0 a1 HONE hkj hq
       (refine wp_region_calm_tail 12 (by kernel_rfl) (by kernel_rfl) ?_; simp only [List.take_succ_cons, List.take_zero, List.drop_succ_cons, List.drop_zero]; (repeat (go_big_quiet_step ((go_at_call 87;exact calls_calm_same (HIDX.out _ (ext_below _ _)))))); refine wpQuiet_nil ?_; intro wc hwc)
       clear e0 e1 e2 e3 e4 HIDX
       have HATc:=Hd (HATy.out.keep hwc)
       have hput9:=put_any m mb ⟨6,0,d,q,r0,zeroRef⟩ _ S.C wc HATc.out.mak HATc.out.mbx HCOK.out (by have:=HSL.out;omega)
       simp only [codeA,zeroRef,EnvF.copy,EnvF.jump0] at hput9
       have HPUT9:=Hd hput9
       clear hput9
       go_wp2_with (go_at_call 104;refine HPUT9.out.mono ?_;rintro e z9 ⟨rfl,kv9,hat9,hgr9⟩;have HAT9:=Hd (HATc.out.made hat9 hgr9);clear hat9 hgr9)
       go_roundw
       case rel=>
        refine ⟨k+1,kv9,by omega,by go_num,?_,?_⟩
        ·rw [HSUCC.out,HST.out];exact HSTOP.out
        ·rw [HSUCC.out,HST.out];exact HAT9.out
       case measure=>simp [intOf];omega
     ·as_aux_lemma=>
              -- label
       have t0:(x.kind == 0)=false:=by simp [hkj]
       have t1:(x.kind == 1)=false:=by simp [hkj]
       have t2:(x.kind == 2)=false:=by simp [hkj]
       have t3:(x.kind == 3)=false:=by simp [hkj]
       have t5:(x.kind == 5)=false:=by simp [hkj]
       have t6:(x.kind == 6)=false:=by simp [hkj]
       have t7:(x.kind == 7)=false:=by simp [hkj]
       have t10:(x.kind == 10)=true:=by simp [hkj]
       have HST:Hid (m.E.step (m.E.body n) f dst S x={ S with L:=(x.name,(S.C.length:Int)) :: S.L }):=step_label m.E (m.E.body n) f dst S x HSTOP.out HSL.out hkj
       have i3:W10.cell? ⟨ib,3,none⟩=some (.string x.name):=row_of HGy.out 3 _ rfl
       have b0:W10.cell? ⟨mb,0,none⟩=some (.pointer (some ⟨m.M,0,none⟩)):=row_of HATy.out.mbx 0 _ rfl
       have cM:W10.cell? ⟨m.M,10,none⟩=some (.slice ka S.C.length kcap):=HATy.out.mak.c10
       go_upto_region 35 with fail
       have e0:=ext_cell b0
       have e1:=ext_cell cM
       have e2:=ext_cell i3
       clear b0 cM i3 hkj
       (refine wp_region_calm_tail 9 (by kernel_rfl) (by kernel_rfl) ?_; simp only [List.take_succ_cons, List.take_zero, List.drop_succ_cons, List.drop_zero]; (repeat (go_big_quiet_step (fail))); refine wpQuiet_nil ?_; intro wc hwc)
       clear e0 e1 e2
       have HJ2:=Hd (HATy.out.keep hwc)
       go_wp2_with (at_mapUpdate;refine wpList_lab_store rfl _ _ _ _ rfl _ _ Tryz.underlying9 Tryz.underlying104 lb S.L rfl x.name rfl (S.C.length:Nat) rfl HNM.out HJ2.out.lab ?_;intro w13 hn13 hg13;have HJ3:=Hd (HJ2.out.labelled HOK.out hn13 hg13);clear hn13 hg13)
       go_roundw
       case rel=>
        refine ⟨k+1,.slice ka S.C.length kcap,by omega,by go_num,?_,?_⟩
        rotate_left
        ·rw [HSUCC.out,HST.out];exact HJ3.out
        ·rw [HSUCC.out,HST.out];exact HSTOP.out
       case measure=>simp [intOf];omega
     ·as_aux_lemma=>
              -- jump
       have t0:(x.kind == 0)=false:=by simp [hkj]
       have t1:(x.kind == 1)=false:=by simp [hkj]
       have t2:(x.kind == 2)=false:=by simp [hkj]
       have t3:(x.kind == 3)=false:=by simp [hkj]
       have t5:(x.kind == 5)=false:=by simp [hkj]
       have t6:(x.kind == 6)=false:=by simp [hkj]
       have t7:(x.kind == 7)=false:=by simp [hkj]
       have t10:(x.kind == 10)=false:=by simp [hkj]
       have t8:(x.kind == 8)=true:=by simp [hkj]
       have t9:(x.kind == 9)=false:=by simp [hkj]
       have HONE:m.E.one f x=⟨7,0,0,0,r0,zeroRef⟩:=by
        unfold EnvF.one
        rw [HR0.out]
        simp [hkj]
       have HST:Hid (m.E.step (m.E.body n) f dst S x={ S with C:=S.C ++ [⟨7,0,0,0,r0,zeroRef⟩],J:=S.J ++ [(S.C.length,x.name)] }):=by
        show _=_
        rw [step_jump m.E (m.E.body n) f dst S x HSTOP.out HSL.out (by omega),HONE]
       have HCOK:Hid (okC ⟨7,0,0,0,r0,zeroRef⟩):=⟨u8n _ rfl,u8_0,i64_0,i64_0,HR0K.out.1,HR0K.out.2,i64_0,u64_0⟩
       have a0:W10.cell? ⟨ra,0,none⟩=some (.int .i64 r0.reg):=row_of HRA.out 0 _ rfl
       have a1:W10.cell? ⟨ra,1,none⟩=some (.int .u64 r0.num):=row_of HRA.out 1 _ rfl
       obtain ⟨ja,jc,rfl,_⟩:=own_read HATy.out.jo
       have hjl:S.J.length<=1024:=by have:=HJL.out;omega
       have b0:W10.cell? ⟨mb,0,none⟩=some (.pointer (some ⟨m.M,0,none⟩)):=row_of HATy.out.mbx 0 _ rfl
       have cM:W10.cell? ⟨m.M,10,none⟩=some (.slice ka S.C.length kcap):=HATy.out.mak.c10
       clear HONE hkj a0 a1
       go_wp2_with (at_builtin;refine wpList_append_own_at _ rfl (.tmp 183) (.tmp 190) 60 rfl (lb+1+1) 3 j0 (.int .i64 0) 1 8 Tryz.underlying60 hj0 hj1 hj2 hj3 rfl (by decide) _ _ _ rfl (own_below HATy.out.jo ((bR _ _).alloc (nR _) _)) ⟨W10.heap.size,0,none⟩ 1 1 [.int .i64 (S.C.length:Nat)] rfl rfl (many_new _ _ _) ?c2 ?c3 ?c4 ?c5 ?_)
       case c2=>first|rfl|(intro u hu;simp at hu;subst hu;rfl)
       case c3=>unfold maxLen;omega
       case c4=>omega
       case c5=>have:=HATy.out.size;simp;have h':lb+1+1<=W10.heap.size:=this;omega
       intro v' w11 hown' hgrow _ hblk
       have HJ1:=Hd ((HATy.out.keep ((bR W10.heap.size W10).alloc (nR _) (.cells #[.int .i64 (S.C.length:Nat)] 3))).jumped HOK.out (q:=(S.C.length,x.name)) hown' hgrow (by simpa using hblk))
       have HT11:Hid (Turned (fun i=>(Value.slice ja S.J.length jc).ownBlock=some i) W10 w11):=(Turned.of_below ((bR W10.heap.size W10).alloc (nR _) _)).trans (Turned.of_grown hgrow (fun b e=>e))
       have HG11:=Hd ((HT11.out.block ib (aE HGy.out).1 (fun e=>own_ne_cells HATy.out.jo HGy.out (by decide) e)).trans HGy.out)
       have HRA11:Hid (w11.heap[ra]?=some (.cells #[.int .i64 r0.reg,.int .u64 r0.num] 56 (0,0))):=(HT11.out.block ra (aE HRA.out).1 (fun e=>own_ne_cells HATy.out.jo HRA.out (by decide) e)).trans HRA.out
       obtain ⟨xa,xc,rfl,_⟩:=own_read hown'
       clear hown' hgrow hblk b0 cM
       have b0:w11.cell? ⟨mb,0,none⟩=some (.pointer (some ⟨m.M,0,none⟩)):=row_of HJ1.out.mbx 0 _ rfl
       have cM:w11.cell? ⟨m.M,10,none⟩=some (.slice ka S.C.length kcap):=HJ1.out.mak.c10
       have i3:w11.cell? ⟨ib,3,none⟩=some (.string x.name):=row_of HG11.out 3 _ rfl
       go_wp2_with fail
       have e0:=ext_cell b0
       have e1:=ext_cell cM
       have e2:=ext_cell i3
       clear b0 cM i3
       (refine wp_region_calm_tail 9 (by kernel_rfl) (by kernel_rfl) ?_; simp only [List.take_succ_cons, List.take_zero, List.drop_succ_cons, List.drop_zero]; (repeat (go_big_quiet_step (fail))); refine wpQuiet_nil ?_; intro wc hwc)
       clear e0 e1 e2
       have HJ2:=Hd (HJ1.out.keep hwc)
       have HG12:=Hd ((hwc.block ib (aE HG11.out).1).trans HG11.out)
       have HRA12:=Hd ((hwc.block ra (aE HRA11.out).1).trans HRA11.out)
       go_upto_region 40 with (at_mapUpdate;refine wpList_nam_store rfl _ _ _ rfl (lb+1) S.J rfl S.C.length rfl x.name rfl HSOK.out.jl (by have:=HSL.out;omega) HJ2.out.nam ?_;intro w13 hn13 hg13;have HJ3:=Hd (HJ2.out.named HOK.out hn13 hg13);have HT13:Hid (Turned (fun i=>i=lb+1) wc w13):=Turned.of_grown hg13 (fun c e=>(Option.some.inj e).symm);clear hn13 hg13)
       have HG13:=Hd ((HT13.out.block ib (aE HG12.out).1 (fun e=>BdS.nam_ne HJ2.out.nam HG12.out e.symm)).trans HG12.out)
       have HRA13:=Hd ((HT13.out.block ra (aE HRA12.out).1 (fun e=>BdS.nam_ne HJ2.out.nam HRA12.out e.symm)).trans HRA12.out)
       have i0:w13.cell? ⟨ib,0,none⟩=some (.int .u8 x.kind):=row_of HG13.out 0 _ rfl
       have a0:w13.cell? ⟨ra,0,none⟩=some (.int .i64 r0.reg):=row_of HRA13.out 0 _ rfl
       have a1:w13.cell? ⟨ra,1,none⟩=some (.int .u64 r0.num):=row_of HRA13.out 1 _ rfl
       have hput9:=put_any m mb ⟨7,0,0,0,r0,zeroRef⟩ _ S.C w13 HJ3.out.mak HJ3.out.mbx HCOK.out (by have:=HSL.out;omega)
       simp only [codeA,zeroRef,EnvF.copy,EnvF.jump0] at hput9
       have HPUT9:=Hd hput9
       clear hput9
       go_wp2_with (go_at_call 104;refine HPUT9.out.mono ?_;rintro e z9 ⟨rfl,kv9,hat9,hgr9⟩;have HAT9:=Hd (HJ3.out.made hat9 hgr9);clear hat9 hgr9)
       go_roundw
       case rel=>
        refine ⟨k+1,kv9,by omega,by go_num,?_,?_⟩
        ·rw [HSUCC.out,HST.out];exact HSTOP.out
        ·rw [HSUCC.out,HST.out];exact HAT9.out
       case measure=>simp [intOf];omega
     ·as_aux_lemma=>
              -- if
       have t0:(x.kind == 0)=false:=by simp [hkj]
       have t1:(x.kind == 1)=false:=by simp [hkj]
       have t2:(x.kind == 2)=false:=by simp [hkj]
       have t3:(x.kind == 3)=false:=by simp [hkj]
       have t5:(x.kind == 5)=false:=by simp [hkj]
       have t6:(x.kind == 6)=false:=by simp [hkj]
       have t7:(x.kind == 7)=false:=by simp [hkj]
       have t10:(x.kind == 10)=false:=by simp [hkj]
       have t8:(x.kind == 8)=false:=by simp [hkj]
       have t9:(x.kind == 9)=true:=by simp [hkj]
       have HONE:m.E.one f x=⟨8,0,0,0,r0,zeroRef⟩:=by
        unfold EnvF.one
        rw [HR0.out]
        simp [hkj]
       have HST:Hid (m.E.step (m.E.body n) f dst S x={ S with C:=S.C ++ [⟨8,0,0,0,r0,zeroRef⟩],J:=S.J ++ [(S.C.length,x.name)] }):=by
        show _=_
        rw [step_jump m.E (m.E.body n) f dst S x HSTOP.out HSL.out (by omega),HONE]
       have HCOK:Hid (okC ⟨8,0,0,0,r0,zeroRef⟩):=⟨u8n _ rfl,u8_0,i64_0,i64_0,HR0K.out.1,HR0K.out.2,i64_0,u64_0⟩
       have a0:W10.cell? ⟨ra,0,none⟩=some (.int .i64 r0.reg):=row_of HRA.out 0 _ rfl
       have a1:W10.cell? ⟨ra,1,none⟩=some (.int .u64 r0.num):=row_of HRA.out 1 _ rfl
       obtain ⟨ja,jc,rfl,_⟩:=own_read HATy.out.jo
       have hjl:S.J.length<=1024:=by have:=HJL.out;omega
       have b0:W10.cell? ⟨mb,0,none⟩=some (.pointer (some ⟨m.M,0,none⟩)):=row_of HATy.out.mbx 0 _ rfl
       have cM:W10.cell? ⟨m.M,10,none⟩=some (.slice ka S.C.length kcap):=HATy.out.mak.c10
       clear HONE hkj a0 a1
       go_wp2_with (at_builtin;refine wpList_append_own_at _ rfl (.tmp 183) (.tmp 190) 60 rfl (lb+1+1) 3 j0 (.int .i64 0) 1 8 Tryz.underlying60 hj0 hj1 hj2 hj3 rfl (by decide) _ _ _ rfl (own_below HATy.out.jo ((bR _ _).alloc (nR _) _)) ⟨W10.heap.size,0,none⟩ 1 1 [.int .i64 (S.C.length:Nat)] rfl rfl (many_new _ _ _) ?c2 ?c3 ?c4 ?c5 ?_)
       case c2=>first|rfl|(intro u hu;simp at hu;subst hu;rfl)
       case c3=>unfold maxLen;omega
       case c4=>omega
       case c5=>have:=HATy.out.size;simp;have h':lb+1+1<=W10.heap.size:=this;omega
       intro v' w11 hown' hgrow _ hblk
       have HJ1:=Hd ((HATy.out.keep ((bR W10.heap.size W10).alloc (nR _) (.cells #[.int .i64 (S.C.length:Nat)] 3))).jumped HOK.out (q:=(S.C.length,x.name)) hown' hgrow (by simpa using hblk))
       have HT11:Hid (Turned (fun i=>(Value.slice ja S.J.length jc).ownBlock=some i) W10 w11):=(Turned.of_below ((bR W10.heap.size W10).alloc (nR _) _)).trans (Turned.of_grown hgrow (fun b e=>e))
       have HG11:=Hd ((HT11.out.block ib (aE HGy.out).1 (fun e=>own_ne_cells HATy.out.jo HGy.out (by decide) e)).trans HGy.out)
       have HRA11:Hid (w11.heap[ra]?=some (.cells #[.int .i64 r0.reg,.int .u64 r0.num] 56 (0,0))):=(HT11.out.block ra (aE HRA.out).1 (fun e=>own_ne_cells HATy.out.jo HRA.out (by decide) e)).trans HRA.out
       obtain ⟨xa,xc,rfl,_⟩:=own_read hown'
       clear hown' hgrow hblk b0 cM
       have b0:w11.cell? ⟨mb,0,none⟩=some (.pointer (some ⟨m.M,0,none⟩)):=row_of HJ1.out.mbx 0 _ rfl
       have cM:w11.cell? ⟨m.M,10,none⟩=some (.slice ka S.C.length kcap):=HJ1.out.mak.c10
       have i3:w11.cell? ⟨ib,3,none⟩=some (.string x.name):=row_of HG11.out 3 _ rfl
       go_wp2_with fail
       have e0:=ext_cell b0
       have e1:=ext_cell cM
       have e2:=ext_cell i3
       clear b0 cM i3
       (refine wp_region_calm_tail 9 (by kernel_rfl) (by kernel_rfl) ?_; simp only [List.take_succ_cons, List.take_zero, List.drop_succ_cons, List.drop_zero]; (repeat (go_big_quiet_step (fail))); refine wpQuiet_nil ?_; intro wc hwc)
       clear e0 e1 e2
       have HJ2:=Hd (HJ1.out.keep hwc)
       have HG12:=Hd ((hwc.block ib (aE HG11.out).1).trans HG11.out)
       have HRA12:=Hd ((hwc.block ra (aE HRA11.out).1).trans HRA11.out)
       go_upto_region 40 with (at_mapUpdate;refine wpList_nam_store rfl _ _ _ rfl (lb+1) S.J rfl S.C.length rfl x.name rfl HSOK.out.jl (by have:=HSL.out;omega) HJ2.out.nam ?_;intro w13 hn13 hg13;have HJ3:=Hd (HJ2.out.named HOK.out hn13 hg13);have HT13:Hid (Turned (fun i=>i=lb+1) wc w13):=Turned.of_grown hg13 (fun c e=>(Option.some.inj e).symm);clear hn13 hg13)
       have HG13:=Hd ((HT13.out.block ib (aE HG12.out).1 (fun e=>BdS.nam_ne HJ2.out.nam HG12.out e.symm)).trans HG12.out)
       have HRA13:=Hd ((HT13.out.block ra (aE HRA12.out).1 (fun e=>BdS.nam_ne HJ2.out.nam HRA12.out e.symm)).trans HRA12.out)
       have i0:w13.cell? ⟨ib,0,none⟩=some (.int .u8 x.kind):=row_of HG13.out 0 _ rfl
       have a0:w13.cell? ⟨ra,0,none⟩=some (.int .i64 r0.reg):=row_of HRA13.out 0 _ rfl
       have a1:w13.cell? ⟨ra,1,none⟩=some (.int .u64 r0.num):=row_of HRA13.out 1 _ rfl
       have hput9:=put_any m mb ⟨8,0,0,0,r0,zeroRef⟩ _ S.C w13 HJ3.out.mak HJ3.out.mbx HCOK.out (by have:=HSL.out;omega)
       simp only [codeA,zeroRef,EnvF.copy,EnvF.jump0] at hput9
       have HPUT9:=Hd hput9
       clear hput9
       go_wp2_with (go_at_call 104;refine HPUT9.out.mono ?_;rintro e z9 ⟨rfl,kv9,hat9,hgr9⟩;have HAT9:=Hd (HJ3.out.made hat9 hgr9);clear hat9 hgr9)
       go_roundw
       case rel=>
        refine ⟨k+1,kv9,by omega,by go_num,?_,?_⟩
        ·rw [HSUCC.out,HST.out];exact HSTOP.out
        ·rw [HSUCC.out,HST.out];exact HAT9.out
       case measure=>simp [intOf];omega
     ·as_aux_lemma=>
              -- halt
       have t0:(x.kind == 0)=false:=by simp [hkj]
       have t1:(x.kind == 1)=false:=by simp [hkj]
       have t2:(x.kind == 2)=false:=by simp [hkj]
       have t3:(x.kind == 3)=false:=by simp [hkj]
       have t5:(x.kind == 5)=false:=by simp [hkj]
       have t6:(x.kind == 6)=false:=by simp [hkj]
       have t7:(x.kind == 7)=false:=by simp [hkj]
       have t10:(x.kind == 10)=false:=by simp [hkj]
       have t8:(x.kind == 8)=false:=by simp [hkj]
       have t9:(x.kind == 9)=false:=by simp [hkj]
       have t11:(x.kind == 11)=true:=by simp [hkj]
       have HONE:m.E.one f x=⟨9,0,0,0,zeroRef,zeroRef⟩:=by
        unfold EnvF.one
        rw [show (0:Int)=0 from rfl]
        simp [hkj]
       have HST:Hid (m.E.step (m.E.body n) f dst S x={ S with C:=S.C ++ [⟨9,0,0,0,zeroRef,zeroRef⟩] }):=by
        show _=_
        rw [step_one m.E (m.E.body n) f dst S x HSTOP.out HSL.out (by omega),HONE]
       have HCOK:Hid (okC ⟨9,0,0,0,zeroRef,zeroRef⟩):=⟨u8n _ rfl,u8_0,i64_0,i64_0,i64_0,u64_0,i64_0,u64_0⟩
       clear HONE hkj
       have hput9:=put_any m mb ⟨9,0,0,0,zeroRef,zeroRef⟩ _ S.C W10 HATy.out.mak HATy.out.mbx HCOK.out (by have:=HSL.out;omega)
       simp only [codeA,zeroRef,EnvF.copy,EnvF.jump0] at hput9
       have HPUT9:=Hd hput9
       clear hput9
       go_wp2_with (go_at_call 104;refine HPUT9.out.mono ?_;rintro e z9 ⟨rfl,kv9,hat9,hgr9⟩;have HAT9:=Hd (HATy.out.made hat9 hgr9);clear hat9 hgr9)
       go_roundw
       case rel=>
        refine ⟨k+1,kv9,by omega,by go_num,?_,?_⟩
        ·rw [HSUCC.out,HST.out];exact HSTOP.out
        ·rw [HSUCC.out,HST.out];exact HAT9.out
       case measure=>simp [intOf];omega
     ·as_aux_lemma=>
              -- ret
       have t0:(x.kind == 0)=false:=by simp [hkj]
       have t1:(x.kind == 1)=false:=by simp [hkj]
       have t2:(x.kind == 2)=false:=by simp [hkj]
       have t3:(x.kind == 3)=false:=by simp [hkj]
       have t5:(x.kind == 5)=false:=by simp [hkj]
       have t6:(x.kind == 6)=false:=by simp [hkj]
       have t7:(x.kind == 7)=false:=by simp [hkj]
       have t10:(x.kind == 10)=false:=by simp [hkj]
       have t8:(x.kind == 8)=false:=by simp [hkj]
       have t9:(x.kind == 9)=false:=by simp [hkj]
       have t11:(x.kind == 11)=false:=by simp [hkj]
       have t12:(x.kind == 12)=true:=by simp [hkj]
       have HST:Hid (m.E.step (m.E.body n) f dst S x={ S with C:=S.C ++ [⟨0,0,dst,0,r0,⟨0,0⟩⟩,⟨7,0,0,0,⟨0,0⟩,⟨0,0⟩⟩],T:=S.T ++ [S.C.length+1] }):=by
        show _=_
        rw [step_ret m.E (m.E.body n) f dst S x HSTOP.out HSL.out hkj,HR0.out]
        rfl
       have a0:W10.cell? ⟨ra,0,none⟩=some (.int .i64 r0.reg):=row_of HRA.out 0 _ rfl
       have a1:W10.cell? ⟨ra,1,none⟩=some (.int .u64 r0.num):=row_of HRA.out 1 _ rfl
       obtain ⟨ta,tc,rfl,_⟩:=own_read HATy.out.tor
       have HCOK:Hid (okC ⟨0,0,dst,0,r0,⟨0,0⟩⟩):=copy_ok m H dst r0 HDST.out HR0K.out
       have HC2:Hid (okC ⟨7,0,0,0,⟨0,0⟩,⟨0,0⟩⟩):=⟨u8n 7 rfl,u8_0,i64_0,i64_0,i64_0,u64_0,i64_0,u64_0⟩
       clear hkj
       have hput9:=put_any m mb ⟨0,0,dst,0,r0,⟨0,0⟩⟩ _ S.C W10 HATy.out.mak HATy.out.mbx HCOK.out (by have:=HSL.out;omega)
       simp only [codeA,zeroRef,EnvF.copy,EnvF.jump0] at hput9
       have HPUT9:=Hd hput9
       clear hput9
       go_upto_region 48 with (go_at_call 104;refine HPUT9.out.mono ?_;rintro e z9 ⟨rfl,kv9,hat9,hgr9⟩;have HAT9:=Hd (HATy.out.made hat9 hgr9);clear hat9 hgr9)
       obtain ⟨kb,kbc,hkb⟩:=mk_slice HAT9.out.mak
       obtain ⟨L1,hL1⟩:∃ L1,S.C.length+1=L1:=⟨_,rfl⟩
       have hsl':(S.C ++ [(⟨0,0,dst,0,r0,⟨0,0⟩⟩:CodeD)]).length=L1:=by rw [<- hL1];simp
       have HL1:=Hd hL1
       have hl1b:L1<=5000:=by have:=HSL.out;omega
       have HSL':=Hd hsl'
       have hjl:S.T.length<=1024:=by have:=HJL.out.2;omega
       have b0:z9.cell? ⟨mb,0,none⟩=some (.pointer (some ⟨m.M,0,none⟩)):=row_of HAT9.out.mbx 0 _ rfl
       have cM:z9.cell? ⟨m.M,10,none⟩=some kv9:=HAT9.out.mak.c10
       rw [hkb] at cM
       rw [hsl'] at cM
       clear hsl' hL1 hkb
       go_wp2_with (at_builtin;refine wpList_append_own_at _ rfl (.tmp 221) (.tmp 228) 60 rfl (lb+1+1) 3 j0 (.int .i64 0) 1 8 Tryz.underlying60 hj0 hj1 hj2 hj3 rfl (by decide) _ _ _ rfl (own_below HAT9.out.tor ((bR _ _).alloc (nR _) _)) ⟨z9.heap.size,0,none⟩ 1 1 [.int .i64 (L1:Nat)] rfl rfl (many_new _ _ _) ?d2 ?d3 ?d4 ?d5 ?_)
       case d2=>first|rfl|(intro u hu;simp at hu;subst hu;rfl)
       case d3=>unfold maxLen;show S.T.length+1<=_;omega
       case d4=>show (S.T.length+1) * 8<=_;omega
       case d5=>have h':lb+1+1<=z9.heap.size:=HAT9.out.size;simp;omega
       intro v' w11 hown' hgrow _ hblk
       have HJ1:=Hd ((HAT9.out.keep ((bR z9.heap.size z9).alloc (nR _) (.cells #[.int .i64 (L1:Nat)] 3))).returned HOK.out (q:=L1) hown' hgrow (by simpa using hblk))
       obtain ⟨xa,xc,rfl,_⟩:=own_read hown'
       clear hown' hgrow hblk b0 cM
       go_wp2_with (go_at_call 104;refine (put_any m mb ⟨7,0,0,0,⟨0,0⟩,⟨0,0⟩⟩ _ _ w11 HJ1.out.mak HJ1.out.mbx HC2.out (by have:=HSL'.out;show (S.C ++ [(⟨0,0,dst,0,r0,⟨0,0⟩⟩:CodeD)]).length<=_;omega)).mono ?_;rintro e z8 ⟨rfl,kv8,hat8,hgr8⟩;have HAT8:=Hd (HJ1.out.made hat8 hgr8);clear hat8 hgr8)
       go_roundw
       case rel=>
        refine ⟨k+1,kv8,by omega,by go_num,?_,?_⟩
        ·rw [HSUCC.out,HST.out];exact HSTOP.out
        ·rw [HSUCC.out,HST.out]
         have:=HAT8.out
         simp only [List.append_assoc,List.cons_append,List.nil_append] at this
         rw [HL1.out]
         exact this
       case measure=>simp [intOf];omega
     ·as_aux_lemma=>
              -- call
       have t0:(x.kind == 0)=false:=by simp [hkj]
       have t1:(x.kind == 1)=false:=by simp [hkj]
       have t2:(x.kind == 2)=false:=by simp [hkj]
       have t3:(x.kind == 3)=false:=by simp [hkj]
       have t5:(x.kind == 5)=false:=by simp [hkj]
       have t6:(x.kind == 6)=false:=by simp [hkj]
       have t7:(x.kind == 7)=false:=by simp [hkj]
       have t10:(x.kind == 10)=false:=by simp [hkj]
       have t8:(x.kind == 8)=false:=by simp [hkj]
       have t9:(x.kind == 9)=false:=by simp [hkj]
       have t11:(x.kind == 11)=false:=by simp [hkj]
       have t12:(x.kind == 12)=false:=by simp [hkj]
       have t4:(x.kind == 4)=true:=by simp [hkj]
       obtain ⟨g,hg1,hg2,hg3,hg4⟩:=HFS.out x (List.mem_of_getElem? HX.out) hkj
       have HST:Hid (m.E.step (m.E.body n) f dst S x={ S with C:=m.E.body n g d (S.C ++ m.E.ahead f x) }):=by
        show _=_
        rw [step_call m.E (m.E.body n) f dst S x HSTOP.out HSL.out hkj,HD.out]
        unfold EnvF.fnOf
        rw [hg1]
       have HCALL:=Hd (call_any m H hs n g f d x aa2 ca2 mb (mb+1) _ S.C W10 HATy.out.mak HATy.out.mbx HATy.out.fbx HFI.out HDI.out HRI.out.1 hg1 hg2 hg3 (HIH.out g hg2 hg4) HSL.out)
       have b0:W10.cell? ⟨mb,0,none⟩=some (.pointer (some ⟨m.M,0,none⟩)):=row_of HATy.out.mbx 0 _ rfl
       have i0:W10.cell? ⟨ib,0,none⟩=some (.int .u8 x.kind):=row_of HGy.out 0 _ rfl
       have i1:W10.cell? ⟨ib,1,none⟩=some (.int .u8 x.op):=row_of HGy.out 1 _ rfl
       have i2:W10.cell? ⟨ib,2,none⟩=some (.string x.dst):=row_of HGy.out 2 _ rfl
       have i3:W10.cell? ⟨ib,3,none⟩=some (.string x.name):=row_of HGy.out 3 _ rfl
       have i4:W10.cell? ⟨ib,4,none⟩=some (.slice aa2 x.args.length ca2):=row_of HGy.out 4 _ rfl
       have i5:W10.cell? ⟨ib,5,none⟩=some (.int .i64 x.line):=row_of HGy.out 5 _ rfl
       have i6:W10.cell? ⟨ib,6,none⟩=some (.int .i64 x.col):=row_of HGy.out 6 _ rfl
       clear hkj hg1 hg2 hg3 hg4
       go_wp2_with (go_at_call 106;refine HCALL.out.mono ?_;rintro e z9 ⟨rfl,kv9,hat9,hgr9⟩;have HAT9:=Hd (HATy.out.made hat9 hgr9);clear hat9 hgr9)
       go_roundw
       case rel=>
        refine ⟨k+1,kv9,by omega,by go_num,?_,?_⟩
        ·rw [HSUCC.out,HST.out];exact HSTOP.out
        ·rw [HSUCC.out,HST.out];exact HAT9.out
       case measure=>simp [intOf];omega
          -- END SWITCH
end Go.Proofs.YtgllkgedjplpdaaGreatDoor
