/- The flat program of a well-formed program is valid, if it is not too long; and its sites are those that instructions release at. Condition: the program has no fault, and its numbers are words. -/
import Derived.Test.YtgcfdbhpophnjaaDoorFlI
import Derived.Test.YtgcfdbhpophnjaaDoorMLd
import Derived.Test.YtgcfdbhpophnjaaDoorFlS
set_option linter.all false
set_option maxRecDepth 1000000
set_option maxHeartbeats 12800000
namespace Go.Proofs.YtgcfdbhpophnjaaDoor
open Go.ChangeShapes Go.WideShapes Go.ChangeAt Go.RowKit
open Go.Lib (hid)
theorem gsFlQ {α:Type} {a:Array α} {i:Nat} {v:α} (h:a[i]?=some v):i<a.size:=(Array.getElem?_eq_some_iff.1 h).1
theorem lgFlQ {α:Type} {l:List α} {i:Nat} (h:i<l.length):l[i]?=some l[i]:=List.getElem?_eq_getElem h
/-! ### the variables are among the registers -/
def IsBody (p:ProgD) (f:Int):Prop:=f=-1 ∨ ∃ (g:Nat) (fd:FuncD),f=g∧p.funcs[g]?=some fd
/-! ### sites -/
theorem sites_keep {s:ByteArray}:∀ (l:List InstrD) (S:List ByteArray),s∈S→s∈sitesOf S l
 | [],_,h=>h
 | x :: r,S,h=>by
  show s∈sitesOf (if x.kind==7 then putL x.name S else S) r
  refine sites_keep r _ ?_
  split
  ·unfold putL
   split
   ·exact h
   ·exact List.mem_append_left _ h
  ·exact h
theorem sites_has {x:InstrD} (hk:x.kind=7):∀ (l:List InstrD) (S:List ByteArray),x∈l→x.name∈sitesOf S l
 | [],_,h=>by cases h
 | y :: r,S,h=>by
  show x.name∈sitesOf (if y.kind==7 then putL y.name S else S) r
  rcases List.mem_cons.1 h with rfl|h
  ·rw[if_pos (by simp[hk])]
   refine sites_keep r _ ?_
   unfold putL
   split
   ·rename_i hi;exact inL_iff.1 hi
   ·simp
  ·exact sites_has hk r _ h
theorem body_codes {p:ProgD} {f:Int} (hf:IsBody p f) {x:InstrD} (hx:x∈(bodyF p f).2):x∈codesOf p.funcs++p.main:=by
 rcases hf with rfl|⟨g,fd,rfl,hg⟩
 ·rw[bodyF_main] at hx;exact List.mem_append_right _ hx
 ·rw[bodyF_at hg] at hx
  exact List.mem_append_left _ (List.mem_flatMap.2 ⟨fd,List.mem_of_getElem? hg,hx⟩)
/-! ### what a form asks -/
/-! ### the head -/
/-! ### the instructions -/
def okN (f:FlatD) (n:Nat) (c:CodeD):Prop:=codeOk { f with code:=List.replicate n EnvF.jump0 } c=true
def WordsP (p:ProgD):Prop:=∀ f,∀ x∈(bodyF p f).2,0≤x.kind∧∀ a∈x.args,0≤a.num∧a.num<18446744073709551616
section
variable {p:ProgD} (H:WfP p) (hw:WordsP p) {f:Int} (hf:IsBody p f)
include hf in
end
/-! ### the bodies -/
structure BodyG (F:FlatD) (s:StF):Prop where
 ok:∀ c∈s.C,okN F (s.C.length+1) c
 jl:∀ q∈s.J,∃ d,s.C[q.1]?=some d∧(d.kind=7 ∨ d.kind=8)
 tl:∀ k∈s.T,∃ d,s.C[k]?=some d∧d.kind=7
 ll:∀ q∈s.L,0≤q.2∧q.2≤(s.C.length:Int)
section
variable {p:ProgD} (H:WfP p) (hw:WordsP p) {f:Int} (hf:IsBody p f)
include H hw hf
end
open Go.ChangeMaps Go.MapKept Go.WideMaps
def resR (E:EnvF) (n f:Nat) (dst:Int) (D:List CodeD):List CodeD:=
 if f<E.p.funcs.length then E.bodyI n f dst D else
  match n with
  | 0=>D
  | n+1=>EnvF.patch (E.foldI (E.bodyI n) (-1) dst (bodyF E.p (-1)).2 D).C (EnvF.jumpsOf (E.foldI (E.bodyI n) (-1) dst (bodyF E.p (-1)).2 D))
def RBodyC (m:RMk) (n f:Nat):Prop:=∀ (dst:Int) (kv:Value) (long:Bool) (C D:List CodeD) (w:World),InI64 dst→InvR D C long→m.At kv long C w →
 Calls Tryd.prog 39 #[.pointer (some ⟨m.M,0,none⟩),.int .i64 f,.int .i64 dst] w fun e w'=>e=.returned (.tuple #[])∧∃ kv' long' C',InvR (resR m.E n f dst D) C' long'∧m.At kv' long' C' w'∧m.Grew kv kv' w w'
theorem parms_getR (E:EnvF) (f g:Int) (args:List ArgD):∀ (l:List ByteArray) (k i:Nat) (s:ByteArray),l[i]?=some s→(E.parms f g args k l)[i]?=some (EnvF.copy (E.reg g s) (E.arg f args (k+i)))
 | [],_,_,_,h=>by simp at h
 | t :: r,k,0,s,h=>by simp at h;subst h;rfl
 | t :: r,k,i+1,s,h=>by
  rw[EnvF.parms,List.getElem?_cons_succ]
  rw[parms_getR E f g args r (k+1) i s (by simpa using h),show k+1+i=k+(i+1) from by omega]
theorem ahead_atR (E:EnvF) (f:Int) (x:InstrD) {g:Nat} {fd:FuncD} (hg:E.p.funcs[g]?=some fd) (hfn:E.fnOf x.name=(g:Int)) {i:Nat} {s:ByteArray} (hs:(varsR E.p g)[i]?=some s) :
  (E.ahead f x)[i]?=some (EnvF.copy (E.reg g s) (if i<fd.params.length then E.arg f x.args i else ⟨-1,0⟩)):=by
 unfold EnvF.ahead
 rw[hfn,bodyF_at hg]
 rw[varsR_fn hg] at hs
 simp only
 by_cases hi:i<fd.params.length
 ·rw[if_pos hi]
  rw[List.getElem?_append_left hi] at hs
  rw[List.getElem?_append_left (by rw[EnvF.parms_length];exact hi),parms_getR E f g x.args _ 0 i s hs,Nat.zero_add]
 ·rw[if_neg hi]
  rw[List.getElem?_append_right (by omega)] at hs
  rw[List.getElem?_append_right (by rw[EnvF.parms_length];omega),EnvF.parms_length]
  unfold EnvF.zeros
  rw[List.getElem?_map,hs];rfl
theorem ahead_lenR (E:EnvF) (f:Int) (x:InstrD) {g:Nat} {fd:FuncD} (hg:E.p.funcs[g]?=some fd) (hfn:E.fnOf x.name=(g:Int)):(E.ahead f x).length=(varsR E.p g).length:=by
 unfold EnvF.ahead EnvF.zeros
 rw[hfn,bodyF_at hg,varsR_fn hg]
 simp only
 rw[List.length_append,EnvF.parms_length,List.length_map,List.length_append]
theorem find_fnR {p:ProgD} (hn:(fNames p.funcs).Nodup) {g:Nat} {fd:FuncD} (h:p.funcs[g]?=some fd):findZ fd.name p.funcs=(g:Int):=by
 unfold findZ
 have hg:=List.getElem?_eq_some_iff.1 h
 have:p.funcs.findIdx? (fun f=>decide (f.name=fd.name))=some g:=by
  rw[List.findIdx?_eq_some_iff_getElem]
  refine⟨hg.1,by rw[hg.2];simp,fun i hi=>?_⟩
  simp only[decide_eq_true_eq,Bool.not_eq_true,decide_eq_false_iff_not]
  intro e
  have hg1:=hg.1
  have h1:=nodup_get hn (i:=i) (j:=g) (x:=fd.name) (by unfold fNames;rw[List.getElem?_map,List.getElem?_eq_getElem (by omega),Option.map_some,e]) (by unfold fNames;rw[List.getElem?_map,h];rfl)
  omega
 rw[this]
theorem copy_okR {d:Int} {r:RefD} (hd:InI64 d) (hr:InI64 r.reg∧InU64 r.num):okC (EnvF.copy d r):=⟨u8_0,u8_0,hd,i64_0,hr.1,hr.2,i64_0,u64_0⟩
theorem refV_okR (m:RMk) (H:m.Ok) (f:Int) (a:ArgD) (ha:InU64 a.num):InI64 (m.E.ref f a).reg∧InU64 (m.E.ref f a).num:=by
 have hwd:=(wfP_of H.chk).wd
 have hpl:=placesP_len H.chk
 have hE:=H.env
 unfold EnvF.ref refF
 split
 ·refine⟨i64_m1,?_⟩
  show InU64 (trimW m.E.p.width a.num)
  unfold trimW
  split
  ·exact ha
  ·obtain⟨a1,a2,a3⟩:=mod_in m.E.p.width.toNat (by omega) a.num
   exact⟨a1,by omega⟩
 ·refine⟨?_,u64_0⟩
  have:=regN_lt m.E.R f a.name
  have hR:m.E.R=placesP m.E.p:=by rw[hE];rfl
  rw[hR] at this
  show InI64 ((regN m.E.R f a.name:Nat):Int)
  rw[hR]
  unfold InI64;omega
theorem trim_zero (W:Int):trimW W 0=0:=by unfold trimW;split <;> simp
theorem rcall_any (m:RMk) (H:m.Ok) (n g f:Nat) (dst:Int) (x:InstrD) (aa:Option Addr) (ca:Nat) (kv:Value) (long:Bool) (C D:List CodeD) (w:World) (h:m.At kv long C w) (hi:InvR D C long) (hf:f≤m.E.p.funcs.length) (hd:InI64 dst)
  (hx:RdArgs none m.w0 (.slice aa x.args.length ca) x.args) {fd:FuncD} (hg:m.E.p.funcs[g]?=some fd) (hn:fd.name=x.name) (har:x.args.length=fd.params.length) (hB:RBodyC m n g) :
  Calls Tryd.prog 77 #[.pointer (some ⟨m.M,0,none⟩),.int .i64 f,instrV x (.slice aa x.args.length ca),.int .i64 dst] w
   fun e w'=>e=.returned (.tuple #[])∧∃ kv' long' C',InvR (m.E.bodyI n g dst (D++m.E.ahead (fiR m.E.p f) x)) C' long'∧m.At kv' long' C' w'∧m.Grew kv kv' w w':=by
 have hW:=wfP_of H.chk
 have hgl:=(List.getElem?_eq_some_iff.1 hg).1
 have hfn:m.E.fnOf x.name=(g:Int):=by unfold EnvF.fnOf;rw[← hn];exact idxS_fn hW.fn hg
 have hfz:findZ x.name m.E.p.funcs=(g:Int):=by rw[← hn];exact find_fnR hW.fn hg
 have hal:=ahead_lenR m.E (fiR m.E.p f) x hg hfn
 have hat:Hid (∀ i s,(varsR m.E.p g)[i]?=some s→(m.E.ahead (fiR m.E.p f) x)[i]?=some (EnvF.copy ((firstR m.E.p g+i:Nat):Int) (if i<fd.params.length then m.E.arg (fiR m.E.p f) x.args i else ⟨-1,0⟩))):=fun i s hs=>by
  have h1:=ahead_atR m.E (fiR m.E.p f) x hg hfn hs
  have h2:m.E.reg (g:Int) s=((firstR m.E.p g+i:Nat):Int):=by
   have:=reg_hitR hW (Nat.le_of_lt hgl) hs
   rw[fiR_fn hg] at this
   rw[H.env];exact this
  rw[h2] at h1
  exact h1
 have hfr:firstR m.E.p g+(varsR m.E.p g).length≤2000000:=by
  have h1:=placesP_len H.chk
  have h2:=firstR_succ hg
  obtain⟨rest,e⟩:=placesF_split m.E.p.funcs 0 g fd hg
  have h4:(localsL [] m.E.p.main []).length+(placesF 0 (m.E.p.funcs.take (g+1))).length≤(placesP m.E.p).length:=by
   have h5:m.E.p.funcs=m.E.p.funcs.take (g+1)++m.E.p.funcs.drop (g+1):=(List.take_append_drop _ _).symm
   have h6:∀ (a b:List FuncD) (i:Nat),(placesF i a).length≤(placesF i (a++b)).length:=by
    intro a
    induction a with
    | nil=>intro b i;simp[placesF]
    | cons y r ih=>intro b i;rw[List.cons_append,placesF,placesF,List.length_append,List.length_append];have:=ih b (i+1);omega
   unfold placesP
   have h7:=h6 (m.E.p.funcs.take (g+1)) (m.E.p.funcs.drop (g+1)) 0
   rw[List.take_append_drop] at h7
   unfold placesOf
   rw[List.length_append,List.length_map]
   omega
  omega
 have hpl:fd.params.length≤(varsR m.E.p g).length:=by rw[varsR_fn hg,List.length_append];omega
 have hb0:=(Below.refl w.heap.size w).alloc (Nat.le_refl _) (.cells #[.int .u8 x.kind,.int .u8 x.op,.string x.dst,.string x.name,.slice aa x.args.length ca,.int .i64 x.line,.int .i64 x.col] 60)
 have hg0:=heap_alloc_new w (.cells #[.int .u8 x.kind,.int .u8 x.op,.string x.dst,.string x.name,.slice aa x.args.length ca,.int .i64 x.line,.int .i64 x.col] 60)
 have HA:=hid (h.keep hb0)
 have HB0:=hid hb0
 have HX0:=hid hg0
 have HI:=hid hi
 have HD:=hid hd
 have HBC:=hid hB
 have HAR:=hid har
 have HFI:Hid (∀ z,m.At kv long C z→Calls Tryd.prog 101 #[.agg #[.int .i64 m.E.p.width,.slice m.ac m.E.p.chans.length m.kc,.slice m.aa m.E.p.arrays.length m.ka,.slice m.af m.E.p.funcs.length m.kf,.slice m.am m.E.p.main.length m.km],.string x.name] z fun e w'=>e=.returned (.int .i64 g)∧Below z.heap.size z w'):=fun z hz=>by
  have h1:=refFind m.E.p (.slice m.ac m.E.p.chans.length m.kc) (.slice m.aa m.E.p.arrays.length m.ka) _ (.slice m.am m.E.p.main.length m.km) x.name z (hz.prog H).2.2.1
  rw[hfz] at h1
  exact h1
 obtain⟨a',c',e',hl',hr'⟩:=H.prog.2.2.1
 simp only[Value.slice.injEq,true_and] at e'
 obtain⟨rfl,rfl⟩:=e'
 obtain⟨q,o,pv,cv,eaf,_,f0,f1,f2,f3,f4,hri⟩:=hr' g fd hg
 obtain⟨ap,kp,rfl,⟨hpz,_⟩,hpr⟩:=id hri.1
 have HF1:=hid f1
 have HEAF:=hid eaf
 obtain⟨xa',xc',xe',_,hxr⟩:=id hx
 simp only[Value.slice.injEq,true_and] at xe'
 obtain⟨rfl,rfl⟩:=xe'
 have HXR:=hid hxr
 have HVA:=hid (varsL_at (p:=m.E.p) (Nat.le_of_lt hgl))
 have HFA:=hid (firstL_at (p:=m.E.p) (Nat.le_of_lt hgl))
 have HFF:=hid hf
 obtain⟨V,hV⟩:∃ V,varsR m.E.p g=V:=⟨_,rfl⟩
 obtain⟨fr,hfr'⟩:∃ r:Nat,firstR m.E.p g=r:=⟨_,rfl⟩
 obtain⟨A,hA⟩:∃ A,m.E.ahead (fiR m.E.p f) x=A:=⟨_,rfl⟩
 rw[hV] at hal hat HVA hfr hpl
 rw[hfr'] at hat HFA hfr
 rw[hA] at hal hat
 rw[hA]
 have HAL:=hid hal
 clear h hi hd hx hg hn har hB hb0 hg0 hfn hfz hr' hri hpr f0 f1 f2 f3 f4 eaf hxr hV hfr' hA hal hf hW
 go_enter Tryd.func77,Tryd.ntmps77
 go_upto_region 1 with fail
 generalize w.alloc (.cells #[.int .u8 x.kind,.int .u8 x.op,.string x.dst,.string x.name,.slice aa x.args.length ca,.int .i64 x.line,.int .i64 x.col] 60)=W at *
 obtain⟨ib,hib⟩:∃ ib,w.heap.size=ib:=⟨_,rfl⟩
 rw[hib] at HX0
 rw[hib]
 have HIB:=hid hib
 clear hib
 have e0:=ext_cell (row_of HA.out.hm 0 (.int .i64 m.E.p.width) rfl)
 have e1:=ext_cell (row_of HA.out.hm 1 (.slice m.ac m.E.p.chans.length m.kc) rfl)
 have e2:=ext_cell (row_of HA.out.hm 2 (.slice m.aa m.E.p.arrays.length m.ka) rfl)
 have e3:=ext_cell (row_of HA.out.hm 3 (.slice m.af m.E.p.funcs.length m.kf) rfl)
 have e4:=ext_cell (row_of HA.out.hm 4 (.slice m.am m.E.p.main.length m.km) rfl)
 have e5:=ext_cell (row_of HX0.out 3 (.string x.name) rfl)
 (refine wp_region_calm (by kernel_rfl) (by kernel_rfl) ?_; (repeat (go_big_quiet_step ((go_at_call 101;exact calls_calm (HFI.out _ (HA.out.keep (ext_below _ _))))))); refine wpQuiet_nil ?_; intro wc hwc)
 clear e0 e1 e2 e3 e4 e5 HFI
 have HA1:=hid (HA.out.keep hwc)
 have HX1:=hid ((hwc.block ib (gsFlQ HX0.out)).trans HX0.out)
 have HG1:=hid ((RMk.Grew.of_below (m:=m) (a:=kv) HB0.out).trans (RMk.Grew.of_below hwc))
 clear HA HX0 hwc
 have c3:=row_of HA1.out.hm 3 (.slice m.af m.E.p.funcs.length m.kf) rfl
 rw[HEAF.out] at c3
 have f5:=cell_keep HA1.out.below HF1.out
 have hgl2:(g:Int)<(m.E.p.funcs.length:Int):=by omega
 go_wp2_with fail
 clear c3 f5
 go_loopw [10] (fun i wr=>∃ (j:Nat) (kv1:Value) (long1:Bool) (C1:List CodeD),j≤V.length∧i=.int .i64 j∧InvR (D++A.take j) C1 long1∧m.At kv1 long1 C1 wr∧m.Grew kv kv1 w wr∧wr.heap[ib]?=some (.cells #[.int .u8 x.kind,.int .u8 x.op,.string x.dst,.string x.name,.slice aa x.args.length ca,.int .i64 x.line,.int .i64 x.col] 60 (0,0))) (fun i _=>V.length-(intOf i).toNat)
 case atStart=>exact⟨0,kv,long,C,Nat.zero_le _,rfl,by simpa using HI.out,HA1.out,HG1.out,HX1.out⟩
 case round=>
  clear HA1 HX1 HG1 HI
  obtain⟨wo,rfl⟩:∃ x:World,x=wr:=⟨_,rfl⟩
  obtain⟨j,kv1,long1,C1,hj,rfl,hin,hat1,hgr,hx1⟩:=hrel
  have HAT:=hid hat1
  have HIN:=hid hin
  have HGR:=hid hgr
  have HX1:=hid hx1
  obtain⟨b1,o1,a1,c1,ev,n0,hr1⟩:=hat1.vars.at HVA.out
  have c5:=row_of hat1.hm 5 (.slice m.va (m.E.p.funcs.length+1) m.vk) rfl
  rw[ev] at c5
  have hgl3:(g:Int)<((m.E.p.funcs.length+1:Nat):Int):=by omega
  clear hat1 hin hgr hx1 hr1 ev
  by_cases hlt:j<V.length
  rotate_left
  ·obtain rfl:j=V.length:=by omega
   have hlt2:¬ (V.length:Int)<(V.length:Int):=by omega
   have h9:=HIN.out
   rw[List.take_of_length_le (by rw[HAL.out];exact Nat.le_refl _)] at h9
   have HBD:=hid (HBC.out dst kv1 long1 C1 _ wo HD.out h9 HAT.out)
   have hres:resR m.E n g dst (D++A)=m.E.bodyI n g dst (D++A):=by unfold resR;rw[if_pos (by omega)]
   have HRES:=hid hres
   clear h9 hres
   go_wp2_with (go_at_call 39;refine HBD.out.mono ?_;rintro e w9 ⟨rfl,kv9,long9,C9,hin9,hat9,hgr9⟩)
   go_end0
   exact⟨rfl,kv9,long9,C9,by rw[← HRES.out];exact hin9,hat9,HGR.out.trans hgr9⟩
  obtain⟨s,hsj⟩:∃ s,V[j]?=some s:=⟨_,lgFlQ hlt⟩
  have haj:=hat.out j s hsj
  have hjlt:(j:Int)<(V.length:Int):=by omega
  have hnum:=number_any m H kv1 long1 C1 0 wo HAT.out u64_0
  rw[trim_zero] at hnum
  have HNUM:=hid hnum
  clear hnum
  go_upto_region 7 with (first|(go_at_call 78;refine HNUM.out.mono ?_;rintro e z ⟨rfl,hz⟩;have BZ:=hid hz;have HN:=hid (heap_alloc_new z (.cells #[.int .i64 0,.int .u64 0] 45));clear hz)|(refine wpList_store_row rfl 45 (.tmp 11) (.tmp 41) rfl z.heap.size #[.int .i64 (-1),.int .u64 0] rfl rfl 45 #[.int .i64 0,.int .u64 0] ?hs0 (by as_aux_lemma=>kernel_rfl) (by as_aux_lemma=>kernel_rfl) (by as_aux_lemma=>kernel_rfl) ?_;exact HN.out))
  try simp only[Act.put]
  have hal6:Below z.heap.size z ((z.alloc (.cells #[.int .i64 0,.int .u64 0] 45)).setRow z.heap.size #[.int .i64 (-1),.int .u64 0]):=below_row ((Below.refl _ _).alloc (Nat.le_refl _) _) (Nat.le_refl _) _
  have HV6:Hid (_=_):=setRow_heap (z.alloc (.cells #[.int .i64 0,.int .u64 0] 45)) z.heap.size _ #[.int .i64 (-1),.int .u64 0] _ _ HN.out
  have hb6:=bcomp BZ.out hal6
  have HAT6:=hid (HAT.out.keep hb6)
  have HX6:=hid ((hb6.block ib (gsFlQ HX1.out)).trans HX1.out)
  have HBW6:=hid hb6
  have HVG:Hid (wo.heap.size≤z.heap.size):=BZ.out.size
  clear HNUM BZ HN hal6 hb6 c5 n0
  generalize (z.alloc (.cells #[.int .i64 0,.int .u64 0] 45)).setRow z.heap.size #[.int .i64 (-1),.int .u64 0]=W6 at *
  obtain⟨vb,hvb⟩:∃ vb,z.heap.size=vb:=⟨_,rfl⟩
  rw[hvb] at HV6 HVG
  rw[hvb]
  clear hvb
  have hnxt:A.take (j+1)=A.take j++[EnvF.copy ((fr:Int)+(j:Int)) (if j<fd.params.length then m.E.arg (fiR m.E.p f) x.args j else ⟨-1,0⟩)]:=by
   rw[List.take_add_one,haj]
   simp
  have HNXT:=hid hnxt
  have hdi:InI64 ((fr:Int)+(j:Int)):=by unfold InI64;omega
  have HDI:=hid hdi
  clear hnxt haj hsj
  by_cases hp:j<fd.params.length
  ·have hpi:(j:Int)<(fd.params.length:Int):=by omega
   obtain⟨a,ha⟩:∃ a,x.args[j]?=some a:=⟨_,lgFlQ (by have:=HAR.out;omega)⟩
   obtain⟨ba,oa,eaa,_,m0,m1,hu,_⟩:=HXR.out j a ha
   have harg:m.E.arg (fiR m.E.p f) x.args j=m.E.ref (fiR m.E.p f) a:=by unfold EnvF.arg argF;rw[ha];rfl
   have HNX2:Hid (A.take (j+1)=A.take j++[EnvF.copy ((fr:Int)+(j:Int)) (m.E.ref (fiR m.E.p f) a)]):=by show _=_;rw[HNXT.out,if_pos hp,harg]
   have HROK:=hid (refV_okR m H (fiR m.E.p f) a hu)
   have HREF:=hid (rref_any m H kv1 long1 C1 f a W6 HAT6.out HFF.out hu)
   obtain⟨r,hr⟩:∃ r,m.E.ref (fiR m.E.p f) a=r:=⟨_,rfl⟩
   rw[hr] at HNX2 HROK HREF
   have i4:=row_of HX6.out 4 (.slice aa x.args.length ca) rfl
   rw[eaa] at i4
   have p0:=cell_keep HAT6.out.below m0
   have p1:=cell_keep HAT6.out.below m1
   have hja:(j:Int)<(x.args.length:Int):=by have:=HAR.out;omega
   clear ha eaa m0 m1 hu harg hr hp HNXT
   go_upto_region 9 with (first|(go_at_call 75;refine HREF.out.mono ?_;rintro e z2 ⟨rfl,hz⟩;have BZ:=hid hz;have HVz:=hid ((hz.block vb (gsFlQ HV6.out)).trans HV6.out);clear hz)|(refine wpList_store_row rfl 45 (.tmp 11) (.tmp 53) rfl vb #[.int .i64 r.reg,.int .u64 r.num] rfl rfl 45 #[.int .i64 (-1),.int .u64 0] ?hs1 (by as_aux_lemma=>kernel_rfl) (by as_aux_lemma=>kernel_rfl) (by as_aux_lemma=>kernel_rfl) ?_;exact HVz.out))
   try simp only[Act.put]
   have hv8:=setRow_heap z2 vb _ #[.int .i64 r.reg,.int .u64 r.num] _ _ HVz.out
   have hb8:Below wo.heap.size wo (z2.setRow vb #[.int .i64 r.reg,.int .u64 r.num]):=below_row (bcomp HBW6.out BZ.out) HVG.out _
   have HBW8:=hid hb8
   have HV8:=hid hv8
   have HX8:=hid ((hb8.block ib (gsFlQ HX1.out)).trans HX1.out)
   clear hv8 hb8 HVz BZ HREF i4 p0 p1
   generalize z2.setRow vb #[.int .i64 r.reg,.int .u64 r.num]=W8 at *
   have hat8:=HAT.out.keep HBW8.out
   have HAT8:=hid hat8
   obtain⟨b2,o2,ef,_,n1,_⟩:=atInt hat8.first HFA.out
   have c6:=row_of hat8.hm 6 (.slice m.fa (m.E.p.funcs.length+1) m.fk) rfl
   rw[ef] at c6
   have HCK:Hid (okC (EnvF.copy ((fr:Int)+(j:Int)) r)):=copy_okR HDI.out HROK.out
   have hput:=fun (y:World) (hy:Below W8.heap.size W8 y)=>rput_any m (EnvF.copy ((fr:Int)+(j:Int)) r) kv1 long1 C1 y (hat8.keep hy) HCK.out HIN.out.len
   simp only[codeA,EnvF.copy,zeroRef] at hput
   have HPUT:=hid hput
   have HNI:=hid (HIN.out.put (EnvF.copy ((fr:Int)+(j:Int)) r))
   clear hat8 hput ef
   have e0:=ext_cell c6
   have e1:=ext_cell n1
   have e2:=ext_cell (row_of HV8.out 0 (.int .i64 r.reg) rfl)
   have e3:=ext_cell (row_of HV8.out 1 (.int .u64 r.num) rfl)
   clear c6 n1
   (refine wp_region_calm_tail 12 (by kernel_rfl) (by kernel_rfl) ?_; simp only[List.take_succ_cons, List.take_zero, List.drop_succ_cons, List.drop_zero]; (repeat (go_big_quiet_step (fail))); refine wpQuiet_nil ?_; intro wc hwc)
   clear e0 e1 e2 e3
   go_wp2_with (go_at_call 40;refine (HPUT.out _ hwc).mono ?_;rintro e z9 ⟨rfl,kv9,hat9,hgr9⟩)
   go_roundw
   case rel=>
    refine⟨j+1,kv9,_,_,by omega,by go_num,?_,hat9,(HGR.out.trans (RMk.Grew.of_below (bcomp HBW8.out hwc))).trans hgr9,?_⟩
    ·rw[HNX2.out,← List.append_assoc]
     exact HNI.out
    ·exact (HAT8.out.keep hwc).cell hgr9 ((hwc.block ib (gsFlQ HX8.out)).trans HX8.out) (by decide) (by decide)
   case measure=>simp[intOf];omega
  ·have hpi:¬ (j:Int)<(fd.params.length:Int):=by omega
   have HNX2:Hid (A.take (j+1)=A.take j++[EnvF.copy ((fr:Int)+(j:Int)) ⟨-1,0⟩]):=by show _=_;rw[HNXT.out,if_neg hp]
   clear hp HNXT
   go_upto_region 9 with fail
   obtain⟨W8,rfl⟩:∃ x:World,x=W6:=⟨_,rfl⟩
   have HBW8:=HBW6
   have HV8:=HV6
   have HX8:=HX6
   have hat8:=HAT.out.keep HBW8.out
   have HAT8:=hid hat8
   obtain⟨b2,o2,ef,_,n1,_⟩:=atInt hat8.first HFA.out
   have c6:=row_of hat8.hm 6 (.slice m.fa (m.E.p.funcs.length+1) m.fk) rfl
   rw[ef] at c6
   have HCK:Hid (okC (EnvF.copy ((fr:Int)+(j:Int)) ⟨-1,0⟩)):=copy_okR HDI.out ⟨i64_m1,u64_0⟩
   have hput:=fun (y:World) (hy:Below W8.heap.size W8 y)=>rput_any m (EnvF.copy ((fr:Int)+(j:Int)) ⟨-1,0⟩) kv1 long1 C1 y (hat8.keep hy) HCK.out HIN.out.len
   simp only[codeA,EnvF.copy,zeroRef] at hput
   have HPUT:=hid hput
   have HNI:=hid (HIN.out.put (EnvF.copy ((fr:Int)+(j:Int)) ⟨-1,0⟩))
   clear hat8 hput ef
   have e0:=ext_cell c6
   have e1:=ext_cell n1
   have e2:=ext_cell (row_of HV8.out 0 (.int .i64 (-1)) rfl)
   have e3:=ext_cell (row_of HV8.out 1 (.int .u64 0) rfl)
   clear c6 n1
   (refine wp_region_calm_tail 12 (by kernel_rfl) (by kernel_rfl) ?_; simp only[List.take_succ_cons, List.take_zero, List.drop_succ_cons, List.drop_zero]; (repeat (go_big_quiet_step (fail))); refine wpQuiet_nil ?_; intro wc hwc)
   clear e0 e1 e2 e3
   go_wp2_with (go_at_call 40;refine (HPUT.out _ hwc).mono ?_;rintro e z9 ⟨rfl,kv9,hat9,hgr9⟩)
   go_roundw
   case rel=>
    refine⟨j+1,kv9,_,_,by omega,by go_num,?_,hat9,(HGR.out.trans (RMk.Grew.of_below (bcomp HBW8.out hwc))).trans hgr9,?_⟩
    ·rw[HNX2.out,← List.append_assoc]
     exact HNI.out
    ·exact (HAT8.out.keep hwc).cell hgr9 ((hwc.block ib (gsFlQ HX8.out)).trans HX8.out) (by decide) (by decide)
   case measure=>simp[intOf];omega
theorem made_repR {α:Type} (z:Value) (g:α→Value) (x:α) (hz:g x=z) (n:Nat):madeCells #[z] (n*1)=((List.replicate n x).map g).toArray:=by
 rw[Nat.mul_one,List.map_replicate,hz]
 apply Array.ext_getElem?
 intro i
 simp only[madeCells,Array.getElem?_map,Array.getElem?_range,List.getElem?_toArray,List.getElem?_replicate]
 split
 ·simp[Nat.mod_one]
 ·rfl
def i64sR (l:List Int):Array Value:=(l.map fun n=>Value.int .i64 n).toArray
theorem makeIntsR (n:Nat) (h:n≤2097152) (w:World):(Instr.makeSlice 29 (.int .i64 n) (.int .i64 n)).run Tryd.prog w=.ok (.slice (some ⟨w.heap.size,0,none⟩) n n) (w.alloc (.cells (i64sR (List.replicate n 0)) 3)):=by
 obtain⟨i0,hi,hz0,hz1,hz2⟩:=info_parts (show (Tryd.prog.info? 3).map (fun i=>(i.zero,i.size,i.bytes))=some (some (.int .i64 0),1,8) by kernel_rfl)
 have:=run_make (P:=Tryd.prog) w 29 3 i0 (.int .i64 0) Tryd.underlying29 hi hz0 .i64 .i64 n n (by omega) (Int.le_refl _) (by rw[hz2];omega) (by omega)
 rw[hz1,Int.toNat_natCast,show (Value.int .i64 0).cells=#[Value.int .i64 0] from rfl,made_repR (Value.int .i64 0) (fun x:Int=>Value.int .i64 x) 0 rfl] at this
 exact this
abbrev pCells (q:Nat × ByteArray):List Value:=[.int .i64 (q.1:Nat),.string q.2]
structure BdR where
 m:RMk
 kv0:Value
 w:World
 B0:Nat
 lb:Nat
namespace BdR
structure Ok (b:BdR):Prop where
 l1:b.w.heap.size≤b.lb∧b.lb<b.B0
 wl:b.m.w0.heap.size≤b.w.heap.size
 cw:b.m.c1≤b.w.heap.size
structure At (b:BdR) (kv:Value) (long:Bool) (C:List CodeD) (LB:List Int) (pv:Value) (M:List (Nat × ByteArray)) (x:World):Prop where
 mak:b.m.At kv long C x
 grew:b.m.Grew b.kv0 kv b.w x
 lab:x.heap[b.lb]?=some (.cells (i64sR LB) 3 (0,0))
 pat:x.ownsRow b.B0 133 2 pv M.length (M.flatMap pCells)
 size:b.B0≤x.heap.size
theorem At.keep {b:BdR} {kv:Value} {long:Bool} {C:List CodeD} {LB:List Int} {pv:Value} {M:List (Nat × ByteArray)} {x y:World} (h:b.At kv long C LB pv M x) (k:Below x.heap.size x y):b.At kv long C LB pv M y:=
 ⟨h.mak.keep k,h.grew.trans (RMk.Grew.of_below k),(k.block _ (gsFlQ h.lab)).trans h.lab,own_below h.pat k,Nat.le_trans h.size k.size⟩
theorem At.made {b:BdR} {kv kv':Value} {long long':Bool} {C C':List CodeD} {LB:List Int} {pv:Value} {M:List (Nat × ByteArray)} {x y:World} (h:b.At kv long C LB pv M x) (mk:b.m.At kv' long' C' y) (gr:b.m.Grew kv kv' x y):b.At kv' long' C' LB pv M y:=
 ⟨mk,h.grew.trans gr,h.mak.cell gr h.lab (by decide) (by decide),own_turn h.pat gr.1 (fun k hk e=>by
  rcases e with e|e
  ·exact own_ne_cells h.pat h.mak.hm (by decide) (by rw[hk,e])
  ·exact MkS.own_ne_own h.pat h.mak.own (by decide) hk e),Nat.le_trans h.size gr.1.size⟩
theorem i64sR_set (l:List Int) (k:Nat) (v:Int):(i64sR l).setIfInBounds k (.int .i64 v)=i64sR (l.set k v):=by
 unfold i64sR
 rw[List.setIfInBounds_toArray,List.map_set]
theorem At.labelled {b:BdR} (H:b.Ok) {kv:Value} {long:Bool} {C:List CodeD} {LB:List Int} {pv:Value} {M:List (Nat × ByteArray)} {x:World} (h:b.At kv long C LB pv M x) (k:Nat) (n:Int) :
  b.At kv long C (LB.set k n) pv M (x.setCell ⟨b.lb,k,none⟩ (.int .i64 n)):=by
 have hsc:=setCell_turned x ⟨b.lb,k,none⟩ (.int .i64 n)
 have hne:b.m.M≠b.lb:=fun e=>by have h1:=h.lab;rw[← e,h.mak.hm] at h1;simp at h1
 have hlo:∀ i,b.m.lo i→(x.setCell ⟨b.lb,k,none⟩ (.int .i64 n)).heap[i]?=x.heap[i]?:=fun i hi=>heap_setCell_other _ _ _ _ (fun e=>by have e':i=b.lb:=e;have:=hi.2;have:=H.l1.1;have:=H.cw;omega)
 have hsz:(x.setCell ⟨b.lb,k,none⟩ (.int .i64 n)).heap.size=x.heap.size:=by simp
 have hlo2:∀ i,b.m.lo i→i<x.heap.size→(x.setCell ⟨b.lb,k,none⟩ (.int .i64 n)).heap[i]?=x.heap[i]?:=fun i hi _=>hlo i hi
 have hmak:b.m.At kv long C (x.setCell ⟨b.lb,k,none⟩ (.int .i64 n)):=
  ⟨below_then h.mak.below hsc h.mak.below.size (fun i e=>by have e':i=b.lb:=e;have:=H.wl;have:=H.l1.1;omega),(hsc.block _ h.mak.mlt hne).trans h.mak.hm,own_turn h.mak.own hsc (fun i hi e=>own_ne_cells h.mak.own h.lab (by decide) (by rw[hi];exact congrArg some e)),h.mak.ok,
   h.mak.vars.sameR hlo,h.mak.first.same hlo2 (fun _ _ q=>q),RdStrs.same h.mak.chs hlo2 (fun _ _ q=>q),RdStrs.same h.mak.sit hlo2 (fun _ _ q=>q),h.mak.arr.same hlo2 (fun _ _ q=>q),h.mak.lm,by rw[hsz];exact h.mak.hc1⟩
 refine⟨hmak,⟨h.grew.1.step hsc (fun i hi e=>by have e':i=b.lb:=e;have:=H.l1.1;omega),h.grew.2⟩,?_,own_turn h.pat hsc (fun i hi e=>own_ne_cells h.pat h.lab (by decide) (by rw[hi];exact congrArg some e)),by rw[hsz];exact h.size⟩
 ·rw[heap_setCell_same _ _ _ _ _ _ h.lab,i64sR_set]
theorem At.patched {b:BdR} (H:b.Ok) {kv:Value} {long:Bool} {C:List CodeD} {LB:List Int} {pv pv':Value} {M:List (Nat × ByteArray)} {q:Nat × ByteArray} {x y:World} (h:b.At kv long C LB pv M x) (hg:x.grownBy y pv.ownBlock)
  (ho:y.ownsRow b.B0 133 2 pv' (M.length+1) (M.flatMap pCells++pCells q)):b.At kv long C LB pv' (M++[q]) y:=by
 have hT:Turned (fun k=>pv.ownBlock=some k) x y:=Turned.of_grown hg (fun b e=>e)
 have hB:∀ i,pv.ownBlock=some i→b.B0≤i:=fun i hi=>(own_is h.pat hi).1
 have hb:=H.l1
 have hlo:∀ i,b.m.lo i→¬ pv.ownBlock=some i:=fun i hi e=>by have:=hB i e;have:=hi.2;have:=H.cw;omega
 have hlo1:∀ i,b.m.lo i→i<x.heap.size→y.heap[i]?=x.heap[i]?:=fun i hi hl=>hT.block i hl (hlo i hi)
 have hlo2:∀ i,b.m.lo i→y.heap[i]?=x.heap[i]?:=fun i hi=>hT.block i (by have:=hi.2;have:=h.mak.hc1;omega) (hlo i hi)
 have hmak:b.m.At kv long C y:=
  ⟨below_then h.mak.below hT h.mak.below.size (fun i e=>by have:=hB i e;have:=H.wl;omega),(hT.block _ h.mak.mlt (fun e=>own_ne_cells h.pat h.mak.hm (by decide) e)).trans h.mak.hm,own_turn h.mak.own hT (fun i hi e=>MkS.own_ne_own h.mak.own h.pat (by decide) hi e),h.mak.ok,
   h.mak.vars.sameR hlo2,h.mak.first.same hlo1 (fun _ _ q=>q),RdStrs.same h.mak.chs hlo1 (fun _ _ q=>q),RdStrs.same h.mak.sit hlo1 (fun _ _ q=>q),h.mak.arr.same hlo1 (fun _ _ q=>q),h.mak.lm,Nat.le_trans h.mak.hc1 hT.size⟩
 refine⟨hmak,⟨h.grew.1.step hT (fun i hi e=>by have:=hB i e;omega),h.grew.2⟩,(hT.block _ (gsFlQ h.lab) (fun e=>own_ne_cells h.pat h.lab (by decide) e)).trans h.lab,?_,Nat.le_trans h.size hT.size⟩
 rw[List.length_append,List.length_singleton,List.flatMap_append]
 simpa using ho
theorem At.setN {b:BdR} {g n c:Nat} {long:Bool} {C:List CodeD} {LB:List Int} {pv:Value} {M:List (Nat × ByteArray)} {x y:World} (h:b.At (.slice (some ⟨g,0,none⟩) n c) long C LB pv M x) (k:Below x.heap.size x y) (i:Nat) (hi:i<C.length) (v:Int) (hv:InI64 v) :
  b.At (.slice (some ⟨g,0,none⟩) n c) long (EnvF.setN C i v) LB pv M (y.setCell ⟨g,i*8+3,none⟩ (.int .i64 v)):=by
 have h1:=h.keep k
 have hn:n=C.length:=by
  obtain⟨_,⟨e,_⟩|⟨g',cap,cur,e,_⟩⟩:=h1.mak.own
  ·simp at e
  ·simp only[Value.slice.injEq] at e;exact e.2.1
 subst hn
 have hst:=World.ownsRow.stored h1.mak.own (i*8+3) (.int .i64 v)
 have hT:Turned (fun j=>j=g) y (y.setCell ⟨g,i*8+3,none⟩ (.int .i64 v)):=setCell_turned y ⟨g,i*8+3,none⟩ _
 have hgr:b.m.Grew (.slice (some ⟨g,0,none⟩) C.length c) (.slice (some ⟨g,0,none⟩) C.length c) y (y.setCell ⟨g,i*8+3,none⟩ (.int .i64 v)):=⟨hT.mono fun j e=>.inr (by simp[Value.ownBlock,e]),fun j hj=>.inl hj⟩
 have hgM:b.m.M≠g:=fun e=>own_ne_cells h1.mak.own h1.mak.hm (by decide) (by simp[Value.ownBlock,e])
 refine h1.made ⟨below_then h1.mak.below hT h1.mak.below.size (fun j e=>by rw[e];exact (own_is h1.mak.own (k:=g) (by simp[Value.ownBlock])).1),(hT.block _ h1.mak.mlt hgM).trans h1.mak.hm,?_,?_,RMk.names_grewR h1.mak hgr h1.mak.vars,RMk.ints_grewR h1.mak hgr h1.mak.first,RMk.strs_grewR h1.mak hgr h1.mak.chs,RMk.strs_grewR h1.mak hgr h1.mak.sit,RMk.ints_grewR h1.mak hgr h1.mak.arr,h1.mak.lm,Nat.le_trans h1.mak.hc1 hT.size⟩ hgr
 ·rw[← code_set hi v,EnvF.setN_length];exact hst.1
 ·intro d hd
  unfold EnvF.setN at hd
  rw[List.modify_eq_take_cons_drop hi] at hd
  rcases List.mem_append.1 hd with hd|hd
  ·exact h1.mak.ok d (List.mem_of_mem_take hd)
  ·rcases List.mem_cons.1 hd with rfl|hd
   ·obtain⟨a1,a2,a3,a4,a5⟩:=h1.mak.ok C[i] (List.getElem_mem hi)
    exact⟨a1,a2,a3,hv,a5⟩
   ·exact h1.mak.ok d (List.mem_of_mem_drop hd)
end BdR
theorem code_fiR {p:ProgD} {f:Nat} (hf:f≤p.funcs.length):(bodyF p (fiR p f)).2=codeAt p f:=by
 unfold codeAt
 rcases Nat.lt_or_ge f p.funcs.length with h|h
 ·obtain⟨x,hx⟩:∃ x,p.funcs[f]?=some x:=⟨_,lgFlQ h⟩
  rw[fiR_fn hx,bodyF_at hx,hx]
 ·obtain rfl:f=p.funcs.length:=by omega
  rw[fiR_main,bodyF_main,List.getElem?_eq_none (Nat.le_refl _)]
theorem wfC_fiR {p:ProgD} (H:WfP p) {f:Nat} (hf:f≤p.funcs.length):∃ main,WfC p main (codeAt p f)∧(main=false→f<p.funcs.length):=by
 unfold codeAt
 rcases Nat.lt_or_ge f p.funcs.length with h|h
 ·obtain⟨x,hx⟩:∃ x,p.funcs[f]?=some x:=⟨_,lgFlQ h⟩
  rw[hx]
  exact⟨false,(H.fs x (List.mem_of_getElem? hx)).2.2.2,fun _=>h⟩
 ·rw[List.getElem?_eq_none h]
  exact⟨true,H.main,fun h=>by cases h⟩
theorem form_atR {x:InstrD} (h:formB x=true) {k:Nat} (hk:x.kind=k) {d nm:Bool} {n:Int} (hf:formL[k]?=some (d,nm,n)):opB x=true∧fieldB d x.dst=true∧fieldB nm x.name=true∧countB x n=true:=by
 unfold formB at h
 rw[hk] at h
 simp only[Int.toNat_natCast,hf,Bool.and_eq_true] at h
 exact⟨h.1.1.1.1,h.1.1.1.2,h.1.1.2,h.1.2⟩
theorem count_isR {x:InstrD} {n:Int} (h:countB x n=true) (hw:0≤wantZ x n):(x.args.length:Int)=wantZ x n:=by
 unfold countB at h
 rw[Bool.and_eq_true,Bool.or_eq_true,decide_eq_true_eq,decide_eq_true_eq,decide_eq_true_eq] at h
 omega
theorem count_plainR {x:InstrD} {k:Nat} (h:formB x=true) (hk:x.kind=k) (hk1:k≠1) {d nm:Bool} {n:Nat} (hf:formL[k]?=some (d,nm,(n:Int))):x.args.length=n:=by
 obtain⟨_,_,_,g4⟩:=form_atR h hk hf
 have e:wantZ x n=n:=by unfold wantZ;rw[if_neg (by omega)]
 have:=count_isR g4 (by omega)
 omega
theorem isBody_fiR {p:ProgD} {f:Nat} (hf:f≤p.funcs.length):IsBody p (fiR p f):=by
 rcases Nat.lt_or_ge f p.funcs.length with h|h
 ·obtain⟨x,hx⟩:∃ x,p.funcs[f]?=some x:=⟨_,lgFlQ h⟩
  exact .inr ⟨f,x,fiR_fn hx,hx⟩
 ·obtain rfl:f=p.funcs.length:=by omega
  exact .inl (fiR_main p)
theorem stI_mono (E:EnvF) (n:Nat) (f dst:Int) (C:List CodeD) (code:List InstrD) (k:Nat):(E.stI (E.bodyI n) f dst C code k).C.length≤(E.foldI (E.bodyI n) f dst code C).C.length:=by
 unfold EnvF.stI EnvF.foldI
 conv=>rhs;rw[← List.take_append_drop k code]
 rw[List.foldl_append]
 exact E.foldlI_len (E.bodyI n) (E.bodyI_len n) f dst _ _
theorem named_emptyR:named ⟨#[]⟩=false:=by kernel_rfl
theorem named_neR {s:ByteArray} (h:named s=true):s≠⟨#[]⟩:=fun e=>by rw[e,named_emptyR] at h;cases h
theorem form_nmR {x:InstrD} (h:formB x=true) {k:Nat} (hk:x.kind=k) {d:Bool} {n:Int} (hf:formL[k]?=some (d,true,n)):x.name≠⟨#[]⟩:=by
 obtain⟨_,_,g,_⟩:=form_atR h hk hf
 unfold fieldB at g
 rw[if_pos rfl] at g
 exact named_neR g
namespace EnvF
variable (E:EnvF)
def tgI (n:Nat) (f dst:Int) (C:List CodeD) (code:List InstrD) (e:Int) (nm:ByteArray) (k:Nat):Int:=(atL nm (E.stI (E.bodyI n) f dst C code k).L).getD e
theorem atL_consR (nm s:ByteArray) (v:Int) (l:List (ByteArray × Int)):atL nm ((s,v) :: l)=if s=nm then some v else atL nm l:=by
 unfold atL
 rw[List.find?_cons]
 by_cases h:s=nm
 ·simp[h]
 ·simp[h]
variable (n:Nat) (f dst:Int) (C:List CodeD) (code:List InstrD) (e:Int) (nm:ByteArray)
theorem tgI_zero:E.tgI n f dst C code e nm 0=e:=by
 unfold tgI
 rw[stI_zero]
 rfl
theorem tgI_hit {k:Nat} {x:InstrD} (hx:code[k]?=some x) (h10:x.kind=10) (hn:x.name=nm):E.tgI n f dst C code e nm (k+1)=((E.stI (E.bodyI n) f dst C code k).C.length:Int):=by
 unfold tgI
 rw[E.stI_succ _ f dst C code k x hx,stepI_L,if_pos h10,atL_consR,if_pos hn]
 rfl
theorem tgI_miss {k:Nat} {x:InstrD} (hx:code[k]?=some x) (h:¬ (x.kind=10∧x.name=nm)):E.tgI n f dst C code e nm (k+1)=E.tgI n f dst C code e nm k:=by
 unfold tgI
 rw[E.stI_succ _ f dst C code k x hx,stepI_L]
 by_cases h10:x.kind=10
 ·rw[if_pos h10,atL_consR,if_neg (fun hn=>h ⟨h10,hn⟩)]
 ·rw[if_neg h10]
theorem tgI_none (h:∀ x∈code,x.kind=10→x.name≠nm):∀ k,k≤code.length→E.tgI n f dst C code e nm k=e:=by
 intro k
 induction k with
 | zero=>intro _;exact E.tgI_zero n f dst C code e nm
 | succ k ih=>
  intro hk
  obtain⟨x,hx⟩:∃ x,code[k]?=some x:=⟨_,lgFlQ (by omega)⟩
  rw[E.tgI_miss n f dst C code e nm hx (fun h'=>h x (List.mem_of_getElem? hx) h'.1 h'.2)]
  exact ih (by omega)
theorem atL_has {j:Nat} {x:InstrD} (hx:code[j]?=some x) (h10:x.kind=10) (hn:x.name=nm):∀ k,j<k→k≤code.length→(atL nm (E.stI (E.bodyI n) f dst C code k).L).isSome=true:=by
 intro k
 induction k with
 | zero=>intro h;omega
 | succ k ih=>
  intro hj hk
  obtain⟨y,hy⟩:∃ y,code[k]?=some y:=⟨_,lgFlQ (by omega)⟩
  rw[E.stI_succ _ f dst C code k y hy,stepI_L]
  by_cases hjk:j=k
  ·subst hjk
   rw[hx] at hy;cases hy
   rw[if_pos h10,atL_consR,if_pos hn]
   rfl
  ·have:=ih (by omega) (by omega)
   by_cases hy10:y.kind=10
   ·rw[if_pos hy10,atL_consR]
    split
    ·rfl
    ·exact this
   ·rw[if_neg hy10];exact this
theorem tgI_label (h:nm∈labelsOf code):E.tgI n f dst C code e nm code.length=lookL nm (E.stI (E.bodyI n) f dst C code code.length).L:=by
 unfold labelsOf at h
 obtain⟨x,hx,hn⟩:=List.mem_map.1 h
 obtain⟨hx,h10⟩:=List.mem_filter.1 hx
 obtain⟨j,hj⟩:=List.getElem?_of_mem hx
 have h1:=E.atL_has n f dst C code nm hj (by simpa using h10) hn code.length (List.getElem?_eq_some_iff.1 hj).1 (Nat.le_refl _)
 obtain⟨v,hv⟩:=Option.isSome_iff_exists.1 h1
 unfold tgI lookL
 rw[hv]
 rfl
theorem mI_in (k:Nat):∀ q∈E.mI (E.bodyI n) f dst C code k,q.1<(E.stI (E.bodyI n) f dst C code k).C.length∧(q.2=⟨#[]⟩ ∨ ∃ x∈code,(x.kind=8 ∨ x.kind=9)∧q.2=x.name):=by
 induction k with
 | zero=>intro q hq;cases hq
 | succ k ih=>
  cases h:code[k]? with
  | none=>
   have e:E.stI (E.bodyI n) f dst C code (k+1)=E.stI (E.bodyI n) f dst C code k:=by unfold stI;rw[List.take_add_one,h];simp
   have e2:E.mI (E.bodyI n) f dst C code (k+1)=E.mI (E.bodyI n) f dst C code k:=by rw[mI,h]
   rw[e,e2];exact ih
  | some x=>
   have hup:(E.stI (E.bodyI n) f dst C code k).C.length≤(E.stI (E.bodyI n) f dst C code (k+1)).C.length:=by
    rw[E.stI_succ _ f dst C code k x h]
    exact E.foldlI_len (E.bodyI n) (E.bodyI_len n) f dst [x] _
   intro q hq
   rw[E.mI_succ _ f dst C code k x h] at hq
   unfold mStep at hq
   by_cases h8:x.kind=8 ∨ x.kind=9
   ·rw[if_pos h8] at hq
    rcases List.mem_append.1 hq with hq|hq
    ·exact⟨Nat.lt_of_lt_of_le (ih q hq).1 hup,(ih q hq).2⟩
    ·rw[List.mem_singleton] at hq;subst hq
     refine⟨?_,.inr ⟨x,List.mem_of_getElem? h,h8,rfl⟩⟩
     rw[E.stI_succ _ f dst C code k x h]
     unfold stepI
     rw[if_neg (by omega),if_neg (by omega),if_pos h8]
     simp
   ·rw[if_neg h8] at hq
    by_cases h12:x.kind=12
    ·rw[if_pos h12] at hq
     rcases List.mem_append.1 hq with hq|hq
     ·exact⟨Nat.lt_of_lt_of_le (ih q hq).1 hup,(ih q hq).2⟩
     ·rw[List.mem_singleton] at hq;subst hq
      refine⟨?_,.inl rfl⟩
      rw[E.stI_succ _ f dst C code k x h]
      unfold stepI
      rw[if_neg (by omega),if_neg (by omega),if_neg h8,if_pos h12]
      simp
    ·rw[if_neg h12] at hq
     exact⟨Nat.lt_of_lt_of_le (ih q hq).1 hup,(ih q hq).2⟩
theorem stI_T_nil (h:∀ x∈code,x.kind≠12) (k:Nat):(E.stI (E.bodyI n) f dst C code k).T=[]:=by
 induction k with
 | zero=>rw[stI_zero]
 | succ k ih=>
  cases hk:code[k]? with
  | none=>
   have e:E.stI (E.bodyI n) f dst C code (k+1)=E.stI (E.bodyI n) f dst C code k:=by unfold stI;rw[List.take_add_one,hk];simp
   rw[e];exact ih
  | some x=>
   rw[E.stI_succ _ f dst C code k x hk,stepI_T,if_neg (h x (List.mem_of_getElem? hk))]
   exact ih
end EnvF
def preR (E:EnvF) (f:Nat) (dst:Int) (C:List CodeD):List CodeD:=if f<E.p.funcs.length then C++[⟨0,0,dst,0,⟨-1,0⟩,zeroRef⟩] else C
theorem resR_merged (E:EnvF) (hW:WfP E.p) (n f:Nat) (hf:f≤E.p.funcs.length) (dst:Int) (C:List CodeD) (code:List InstrD) (hc:codeAt E.p f=code) :
  resR E (n+1) f dst C=EnvF.patch (preR E f dst (E.stI (E.bodyI n) (fiR E.p f) dst C code code.length).C) ((E.mI (E.bodyI n) (fiR E.p f) dst C code code.length).map fun q=>(q.1,E.tgI n (fiR E.p f) dst C code ((preR E f dst (E.stI (E.bodyI n) (fiR E.p f) dst C code code.length).C).length:Int) q.2 code.length)):=by
 obtain⟨mn,hwc,hmn⟩:=wfC_fiR hW hf
 have hcf:=code_fiR hf
 rw[hc] at hwc hcf
 have hall:=E.stI_all (E.bodyI n) (fiR E.p f) dst C code
 obtain⟨S,hS⟩:∃ S,E.stI (E.bodyI n) (fiR E.p f) dst C code code.length=S:=⟨_,rfl⟩
 have hn:∀ x∈code,x.kind=8 ∨ x.kind=9→x.name≠⟨#[]⟩:=fun x hx hk=>by
  rcases hk with hk|hk
  ·exact form_nmR (hwc.ins x hx).form hk (k:=8) (d:=false) (n:=0) rfl
  ·exact form_nmR (hwc.ins x hx).form hk (k:=9) (d:=false) (n:=1) rfl
 have hl:∀ x∈code,x.kind=10→x.name≠⟨#[]⟩:=fun x hx hk=>form_nmR (hwc.ins x hx).form hk (k:=10) (d:=false) (n:=0) rfl
 have key:∀ e:Int,(E.mI (E.bodyI n) (fiR E.p f) dst C code code.length).map (fun q=>(q.1,E.tgI n (fiR E.p f) dst C code e q.2 code.length))=(E.mI (E.bodyI n) (fiR E.p f) dst C code code.length).map (fun q=>(q.1,if q.2=⟨#[]⟩ then e else lookL q.2 S.L)):=fun e=>by
  refine List.map_congr_left fun q hq=>?_
  rcases (E.mI_in n (fiR E.p f) dst C code code.length q hq).2 with h|⟨x,hx,hk,h⟩
  ·rw[if_pos h,h,E.tgI_none n (fiR E.p f) dst C code e ⟨#[]⟩ hl code.length (Nat.le_refl _)]
  ·rw[if_neg (by rw[h];exact hn x hx hk),E.tgI_label n (fiR E.p f) dst C code e q.2 (by rw[h];exact (hwc.ins x hx).jump hk),hS]
 rw[key,EnvF.patch_mI E n (fiR E.p f) dst C code hn (fun s=>lookL s S.L)]
 rw[hS] at hall ⊢
 unfold resR preR
 rcases Nat.lt_or_ge f E.p.funcs.length with h|h
 ·rw[if_pos h,if_pos h]
  obtain⟨x,hx⟩:∃ x,E.p.funcs[f]?=some x:=⟨_,lgFlQ h⟩
  rw[fiR_fn hx] at hall hcf
  show EnvF.finishI _ _ (E.foldI (E.bodyI n) (f:Int) dst (bodyF E.p (f:Int)).2 C)=_
  rw[hcf,← hall]
  unfold EnvF.finishI EnvF.last EnvF.jumpsOf
  rw[if_pos (by omega),List.length_append,List.length_singleton]
  rfl
 ·obtain rfl:f=E.p.funcs.length:=by omega
  rw[if_neg (Nat.lt_irrefl _),if_neg (Nat.lt_irrefl _)]
  rw[fiR_main] at hall hcf
  simp only
  rw[hcf,← hall]
  have hT:S.T=[]:=by
   rw[← hS,fiR_main]
   refine E.stI_T_nil n (-1) dst C code (fun x hx=>(hwc.ins x hx).ret ?_) code.length
   cases hb:mn with
   | true=>rfl
   | false=>exact absurd (hmn hb) (Nat.lt_irrefl _)
  rw[hT]
  rfl
theorem resR_lenM (E:EnvF) (hW:WfP E.p) (n f:Nat) (hf:f≤E.p.funcs.length) (dst:Int) (C:List CodeD) (code:List InstrD) (hc:codeAt E.p f=code) :
  (resR E (n+1) f dst C).length=(preR E f dst (E.stI (E.bodyI n) (fiR E.p f) dst C code code.length).C).length:=by
 rw[resR_merged E hW n f hf dst C code hc,EnvF.patch_length]
theorem trimW_zeroR (w:Int):trimW w 0=0:=by
 unfold trimW
 simp
end Go.Proofs.YtgcfdbhpophnjaaDoor
