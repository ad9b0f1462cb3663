/- Contract of agree.Holds. Condition: what comes in reads as the plain data; the tables hold what they are laid with. -/
import Derived.Test.YtkjkpddajjmloaaGreatDoorAgT
import Derived.Test.YtkjkpddajjmloaaGreatDoorMixK
import Derived.Test.YtkjkpddajjmloaaGreatDoorQLd
import Derived.Deep.MidRow
set_option linter.all false
set_option maxRecDepth 1000000
set_option maxHeartbeats 6400000
namespace Go.Proofs.YtkjkpddajjmloaaGreatDoor
open Go.ChangeShapes Go.WideShapes Go.ChangeAt Go.RowKit
theorem infoTrcH:(Tryz.prog.info? 52).map (fun i=>(i.zero,i.size,i.bytes))=some (some (.agg #[.int .u8 0,.int .i64 0,.slice none 0 0,.slice none 0 0,.slice none 0 0,.slice none 0 0]),6,112):=by kernel_rfl
theorem makeTraces (n:Nat) (h:n≤1000000) (w:World):(Instr.makeSlice 78 (.int .i64 n) (.int .i64 n)).run Tryz.prog w=.ok (.slice (some ⟨w.heap.size,0,none⟩) n n) (w.alloc (.cells (Builtin.zeroCells #[.int .u8 0,.int .i64 0,.slice none 0 0,.slice none 0 0,.slice none 0 0,.slice none 0 0] n) 52)):=by
 obtain ⟨i0,hi,hz0,hz1,hz2⟩:=info_parts infoTrcH
 have:=run_make (P:=Tryz.prog) w 78 52 i0 (.agg #[.int .u8 0,.int .i64 0,.slice none 0 0,.slice none 0 0,.slice none 0 0,.slice none 0 0]) Tryz.underlying78 hi hz0 .i64 .i64 n n (by omega) (Int.le_refl _) (by rw [hz2];omega) (by omega)
 rw [hz1,Int.toNat_natCast] at this
 exact this
theorem ext_row {W:World} {b:Nat} {v:Obj} (h:W.heap[b]?=some v):∀ w,(∃ x,w=ext W x)→w.heap[b]?=some v:=by
 rintro w ⟨x,rfl⟩
 exact ((ext_below W x).block b (Array.getElem?_eq_some_iff.1 h).1).trans h
theorem mix_endH {P:Program} {ops:Array Oper} {Q:Exit→Act→World→Prop} {C:World→Prop} {E:Nat→Bool} {a:Act} {w:World} (h:Q .normal a w):mixRun P ops Q C E (.fin []) a w:=h
theorem belowSC {B b:Nat} {a:World} (hb:B≤b):∀ (vs:List Value) (o:Nat) {w:World},Below B a w→Below B a (w.setCells b o vs)
 | [],_,_,h=>h
 | v :: r,o,_,h=>belowSC hb r (o+1) (h.setCell hb v)
theorem otherSC {b c:Nat} (hc:c ≠ b):∀ (vs:List Value) (o:Nat) (w:World),(w.setCells b o vs).heap[c]?=w.heap[c]?
 | [],_,_=>rfl
 | v :: r,o,w=>(otherSC hc r (o+1) _).trans (heap_setCell_other _ _ _ _ hc)
def TrcF (n:Nat) (w:World) (t:TraceD) (c:Array Value):Prop:=∃ ov rv bv dv,c=#[.int .u8 t.status,.int .i64 t.steps,ov,rv,bv,dv]∧RdTrace (some (upFrom n)) w t ov rv bv dv
theorem TrcF.trc {n:Nat} {w:World} {t:TraceD} {c:Array Value} (h:TrcF n w t c):TrcC w t c:=by obtain ⟨a,b,d,e,r,g⟩:=h;exact ⟨a,b,d,e,r,g.forget⟩
theorem TrcF.up {n m:Nat} {w:World} {t:TraceD} {c:Array Value} (h:TrcF n w t c) (k:m≤n):TrcF m w t c:=by obtain ⟨a,b,d,e,r,g⟩:=h;exact ⟨a,b,d,e,r,g.same (fun _ _ _=>rfl) (fun _ _ x=>Nat.le_trans k x)⟩
theorem TrcF.keep {n:Nat} {w w':World} {t:TraceD} {c:Array Value} (h:TrcF n w t c) (k:Below w.heap.size w w'):TrcF n w' t c:=by obtain ⟨a,b,d,e,r,g⟩:=h;exact ⟨a,b,d,e,r,g.keep k⟩
theorem TrcF.sc {n b:Nat} {w:World} {t:TraceD} {c:Array Value} (h:TrcF n w t c) (hb:b<n) (vs:List Value) (o:Nat):TrcF n (w.setCells b o vs) t c:=by
 obtain ⟨a,d,e,g,r,x⟩:=h
 exact ⟨a,d,e,g,r,x.same (fun y hy _=>otherSC (by have:n≤y:=hy;omega) vs o w) (fun _ _ z=>z)⟩
theorem rangeAt_below {w w':World} {b o:Nat} {cs:List Value} (h:w.rangeAt b o cs) (k:Below w.heap.size w w'):w'.rangeAt b o cs:=fun j v hv=>cell_keep k (h j v hv)
theorem there_below {w w':World} {b o n:Nat} (h:w.there b o n) (hb:b<w.heap.size) (k:Below w.heap.size w w'):w'.there b o n:=fun j hj=>by
 obtain ⟨h1,h2⟩:=h j hj
 rw [World.cell?_of_block (w:=w) (k.block b hb),World.frozen?_of_block (w:=w) (k.block b hb)]
 exact ⟨h1,h2⟩
theorem quiet_load_mid {P:Program} {op:Oper} {a:Act} {C:World→Prop} {K:Act→Prop} (ty:TypeId) (x:Operand) (ho:op.op=.load ty x)
  (b o:Nat) (hx:a.eval x=.pointer (some ⟨b,o,none⟩)) (c:Array Value) (d:TypeDesc) (hc:∀ w,C w→w.rangeAt b o c.toList)
  (hu:P.underlying ty=some d) (hd:d.isRow=true) (hi:(P.info? ty).map (·.size)=some c.toList.length)
  (h:K (a.put op.dst (.agg c))):op.quiet P a C K:=by
 refine ⟨_,fun w hw=>?_,h⟩
 have e:=run_loadVar_mid (P:=P) w b o ty c.toList d (hc w hw) hu hd hi
 rw [Array.toArray_toList] at e
 unfold Oper.quietAt
 unfold execOp
 simp only [ho,hx,Instr.loadAt,Instr.sureAddr,Sem.run_bind,Sem.run_pure,Result.andThen_ok,e]
 exact ⟨rfl,rfl⟩
structure Trs (w:World) (b n k:Nat) (T:Nat→TraceD):Prop where
 lt:b<w.heap.size
 row:w.there b 0 (n * 6)
 rd:∀ i,i<k→∃ c,w.rangeAt b (i * 6) c.toList∧TrcF (b+1) w (T i) c
theorem Trs.keep {w w':World} {b n k:Nat} {T:Nat→TraceD} (h:Trs w b n k T) (x:Below w.heap.size w w'):Trs w' b n k T:=by
 refine ⟨Nat.lt_of_lt_of_le h.lt x.size,there_below h.row h.lt x,fun i hi=>?_⟩
 obtain ⟨c,h1,h2⟩:=h.rd i hi
 exact ⟨c,rangeAt_below h1 x,h2.keep x⟩
theorem Trs.at {w:World} {b n k:Nat} {T:Nat→TraceD} (h:Trs w b n k T) {i:Nat} (hi:i<n) {m:Nat} (hm:m=6):w.there b (i * 6) m:=fun j hj=>by
 have:=h.row (i * 6+j) (by omega)
 simpa using this
theorem Trs.put {w:World} {b n k:Nat} {T:Nat→TraceD} (h:Trs w b n k T) (hk:k<n) {c:Array Value} (hc:c.size=6) (hr:TrcF (b+1) w (T k) c):Trs (w.setCells b (k * 6) c.toList) b n (k+1) T:=by
 have hb0:=belowSC (B:=b) (a:=w) (Nat.le_refl _) c.toList (k * 6) ((Below.refl w.heap.size w).mono (Nat.le_of_lt h.lt))
 refine ⟨Nat.lt_of_lt_of_le h.lt hb0.size,World.there_setCells h.row b (k * 6) c.toList,fun i hi=>?_⟩
 by_cases he:i=k
 ·subst he
  exact ⟨c,World.rangeAt_setCells_same w b (i * 6) c.toList (h.at hk (by simpa using hc)),hr.sc (by omega) _ _⟩
 ·obtain ⟨c',h1,h2⟩:=h.rd i (by omega)
  have hc':c'.toList.length=6:=by obtain ⟨_,_,_,_,rfl,_⟩:=h2;rfl
  exact ⟨c',World.rangeAt_setCells_apart h1 b (k * 6) c.toList (by right;left;omega),h2.sc (by omega) _ _⟩
theorem run_own (f:FlatD) (q:PolD) (cS:Array Value) (av:Value) (A:List (List Int)) (w:World) (hS:SideC w f q cS) (hSP:SideP f q) (hI:RdLists none w av A) (hL:Laid w) (hn:A.length≤f.chans.length) :
  Calls Tryz.prog 29 #[.agg cS,av] w fun e w'=>∃ c,e=.returned (.tuple #[.agg c,.int .i64 0])∧TrcF w.heap.size w' (runT f A q.steps) c∧Below w.heap.size w w':=by
 obtain ⟨p,cla,clc,sla,slc,fcv,fsv,fav,fkv,lv,ov,cv,sv,rfl,g1,g2,g3,g4,g5⟩:=hS
 have hh:=(headP hSP.ok).chans
 obtain ⟨fca,fcc,rfl⟩:=g4.1.is
 obtain ⟨fsa,fsc,rfl⟩:=g4.2.1.is
 obtain ⟨faa,fac,rfl⟩:=g4.2.2.1.is
 obtain ⟨fka,fkc,rfl⟩:=g4.2.2.2.1.is
 obtain ⟨la,lc,rfl⟩:=g5.1.is
 obtain ⟨oa,oc,rfl⟩:=g5.2.1.is
 obtain ⟨ca,cc,rfl⟩:=g5.2.2.1.is
 obtain ⟨sa,sc,rfl⟩:=g5.2.2.2.1.is
 refine (side_run p f fca fcc fsa fsc faa fac fka fkc q la lc oa oc ca cc sa sc cla f.chans.length clc sla f.sites.length slc av A w g4 ⟨by have:=hSP.s1;omega,by have:=hSP.s2;omega⟩ hI hL (by omega)).mono ?_
 rintro e w' ⟨a1,a2,a3,a4,a5,a6,a7,a8,rfl,hr,hb⟩
 rw [side_err hSP hn]
 exact ⟨_,rfl,⟨_,_,_,_,rfl,hr⟩,hb⟩
theorem PolC.sens {w:World} {q:PolD} {c:Array Value} (h:PolC w q c):c[4]?=some (.bool q.sens):=by obtain ⟨a,b,d,e,rfl,_⟩:=h;rfl
def okAt (f:FlatD) (q:PolD) (Ls:List (List (List Int))) (i:Nat):Bool:=!(q.sens && (runT f (Ls.getD i []) q.steps).status == 2) && allN i fun k=>allN q.levels.length fun level=>!leaks1 f q level (Ls.getD k []) (Ls.getD i []) (runT f (Ls.getD k []) q.steps) (runT f (Ls.getD i []) q.steps)
theorem holds_any (f:FlatD) (q:PolD) (cF cP:Array Value) (rv:Value) (Ls:List (List (List Int))) (w:World) (hF:FlatC w f cF) (hP:PolC w q cP) (hL:Laid w) (hT:BitsAt w) (hR:RdRuns w rv Ls) (hn:Ls.length≤1000000) (hz:∀ A ∈ Ls,∀ l ∈ A,l.length≤1000000) :
  Calls Tryz.prog 11 #[.agg cF,.agg cP,rv] w fun e w'=>e=.returned (.tuple #[.bool (holdsB f q Ls),.int .i64 (holdsErr f q Ls)])∧Below w.heap.size w w':=by
 obtain ⟨rb,ro,rc,rfl,hri⟩:=hR
 obtain ⟨V,hV⟩:∃ V,holdsB f q Ls=V:=⟨_,rfl⟩
 obtain ⟨R,hR⟩:∃ R,holdsErr f q Ls=R:=⟨_,rfl⟩
 rw [hV,hR]
 have HV:=Lib.hid hV
 have HR:=Lib.hid hR
 have HF:=Lib.hid hF
 have HP:=Lib.hid hP
 have HLd:=Lib.hid hL
 have HT:=Lib.hid hT
 have HRI:=Lib.hid hri
 have HZ:=Lib.hid hz
 have HFI:=Lib.hid hF.info
 have HPI:=Lib.hid hP.info
 clear hV hR hF hP hL hT hri hz
 have hal:=((Below.refl w.heap.size w).alloc (Nat.le_refl _) (.cells cF 26)).alloc (by simp) (.cells cP 30)
 have hx:=heap2_of (w:=w) (A:=(.cells cF 26)) (B:=(.cells cP 30)) (Below.refl _ _)
 have HB0:=Lib.hid hal
 have HG0:=Lib.hid hx.1
 have HG1:=Lib.hid hx.2.1
 clear hal hx
 go_enter Tryz.func11,Tryz.ntmps11
 go_upto_region 1 with fail
 generalize (w.alloc (.cells cF 26)).alloc (.cells cP 30)=W at *
 have hsz:w.heap.size+1<W.heap.size:=(Array.getElem?_eq_some_iff.1 HG1.out).1
 have HFW:=Lib.hid (HF.out.keep HB0.out)
 have HPW:=Lib.hid (HP.out.keep HB0.out)
 have HLW:=Lib.hid (HLd.out.keep HB0.out)
 have HTW:=Lib.hid (HT.out.keep HB0.out)
 clear HF HP HLd HT
 obtain ⟨E,hE⟩:∃ E,sideErr f q=E:=⟨_,rfl⟩
 by_cases n1:E=0
 case neg=>
  have HM:=Lib.hid (made_bad f q cF cP W HFW.out HPW.out HLW.out HTW.out hE n1)
  obtain rfl:R=E:=by rw [← HR.out,holdsErr,hE,if_pos n1]
  have HVV:Hid (V=false):=by show V=_;rw [← HV.out,holdsB,HR.out,if_pos n1]
  clear hE
  go_upto_region 2 with (first|(refine wpList_load_row rfl 26 (.tmp 3) rfl w.heap.size rfl 26 cF (0,0) _ ?l1 Tryz.underlying26 rfl ?i1 ?_;exact HG0.out;exact HFI.out)|(refine wpList_load_row rfl 30 (.tmp 4) rfl (w.heap.size+1) rfl 30 cP (0,0) _ ?l2 Tryz.underlying30 rfl ?i2 ?_;exact HG1.out;exact HPI.out)|(go_at_call 27;refine HM.out.mono ?_;rintro e z1 ⟨rfl,hz⟩;have B1:=Lib.hid hz;have HZN:=Lib.hid (heap_alloc_new z1 (.cells #[.pointer none,.int .i64 0,.int .i64 0,.slice none 0 0,.slice none 0 0,.slice none 0 0,.slice none 0 0,.slice none 0 0,.slice none 0 0,.slice none 0 0,.slice none 0 0,.bool false,.int .i64 0,.int .i64 0,.int .i64 0,.int .i64 0,.slice none 0 0,.slice none 0 0] 64));clear hz)|(refine wpList_store_row rfl 64 (.tmp 8) (.tmp 20) rfl z1.heap.size #[.pointer none,.int .i64 0,.int .i64 0,.slice none 0 0,.slice none 0 0,.slice none 0 0,.slice none 0 0,.slice none 0 0,.slice none 0 0,.slice none 0 0,.slice none 0 0,.bool false,.int .i64 0,.int .i64 0,.int .i64 0,.int .i64 0,.slice none 0 0,.slice none 0 0] rfl rfl 64 #[.pointer none,.int .i64 0,.int .i64 0,.slice none 0 0,.slice none 0 0,.slice none 0 0,.slice none 0 0,.slice none 0 0,.slice none 0 0,.slice none 0 0,.slice none 0 0,.bool false,.int .i64 0,.int .i64 0,.int .i64 0,.int .i64 0,.slice none 0 0,.slice none 0 0] ?h901 (by as_aux_lemma=>kernel_rfl) (by as_aux_lemma=>kernel_rfl) (by as_aux_lemma=>kernel_rfl) ?_;exact HZN.out))
  have HB1:=Lib.hid (bcomp HB0.out (bcomp B1.out (below_row ((Below.refl z1.heap.size z1).alloc (Nat.le_refl _) (.cells #[.pointer none,.int .i64 0,.int .i64 0,.slice none 0 0,.slice none 0 0,.slice none 0 0,.slice none 0 0,.slice none 0 0,.slice none 0 0,.slice none 0 0,.slice none 0 0,.bool false,.int .i64 0,.int .i64 0,.int .i64 0,.int .i64 0,.slice none 0 0,.slice none 0 0] 64)) (Nat.le_refl _) #[.pointer none,.int .i64 0,.int .i64 0,.slice none 0 0,.slice none 0 0,.slice none 0 0,.slice none 0 0,.slice none 0 0,.slice none 0 0,.slice none 0 0,.slice none 0 0,.bool false,.int .i64 0,.int .i64 0,.int .i64 0,.int .i64 0,.slice none 0 0,.slice none 0 0])))
  try simp only [Act.put]
  generalize (z1.alloc (.cells #[.pointer none,.int .i64 0,.int .i64 0,.slice none 0 0,.slice none 0 0,.slice none 0 0,.slice none 0 0,.slice none 0 0,.slice none 0 0,.slice none 0 0,.slice none 0 0,.bool false,.int .i64 0,.int .i64 0,.int .i64 0,.int .i64 0,.slice none 0 0,.slice none 0 0] 64)).setRow z1.heap.size #[.pointer none,.int .i64 0,.int .i64 0,.slice none 0 0,.slice none 0 0,.slice none 0 0,.slice none 0 0,.slice none 0 0,.slice none 0 0,.slice none 0 0,.slice none 0 0,.bool false,.int .i64 0,.int .i64 0,.int .i64 0,.int .i64 0,.slice none 0 0,.slice none 0 0]=W2 at *
  have n1':(R != 0)=true:=by simp [n1]
  go_wp2_with fail
  go_ret2
  exact ⟨by rw [HVV.out];rfl,HB1.out⟩
 subst n1
 have HM:=Lib.hid (made_open f q cF cP W HFW.out HPW.out HLW.out HTW.out hE)
 have hSP:=sideP hE
 have HSP:=Lib.hid hSP
 have HE:=Lib.hid hE
 clear hE hSP
 go_upto_region 2 with (first|(refine wpList_load_row rfl 26 (.tmp 3) rfl w.heap.size rfl 26 cF (0,0) _ ?l3 Tryz.underlying26 rfl ?i3 ?_;exact HG0.out;exact HFI.out)|(refine wpList_load_row rfl 30 (.tmp 4) rfl (w.heap.size+1) rfl 30 cP (0,0) _ ?l4 Tryz.underlying30 rfl ?i4 ?_;exact HG1.out;exact HPI.out)|(go_at_call 27;refine HM.out.mono ?_;rintro e z1 ⟨cS,rfl,hs,hz⟩;have HS:=Lib.hid hs;have HSI:=Lib.hid hs.info;have HSZ:=Lib.hid hs.size;have HSO:=Lib.hid hs.one;have B1:=Lib.hid hz;have HZN:=Lib.hid (heap_alloc_new z1 (.cells #[.pointer none,.int .i64 0,.int .i64 0,.slice none 0 0,.slice none 0 0,.slice none 0 0,.slice none 0 0,.slice none 0 0,.slice none 0 0,.slice none 0 0,.slice none 0 0,.bool false,.int .i64 0,.int .i64 0,.int .i64 0,.int .i64 0,.slice none 0 0,.slice none 0 0] 64));clear hz hs)|(refine wpList_store_row rfl 64 (.tmp 8) (.tmp 20) rfl z1.heap.size cS rfl rfl 64 #[.pointer none,.int .i64 0,.int .i64 0,.slice none 0 0,.slice none 0 0,.slice none 0 0,.slice none 0 0,.slice none 0 0,.slice none 0 0,.slice none 0 0,.slice none 0 0,.bool false,.int .i64 0,.int .i64 0,.int .i64 0,.int .i64 0,.slice none 0 0,.slice none 0 0] ?h902 (HSI.out) (by rw [HSZ.out];rfl) (HSO.out) ?_;exact HZN.out))
 have hbn:Below z1.heap.size z1 ((z1.alloc (.cells #[.pointer none,.int .i64 0,.int .i64 0,.slice none 0 0,.slice none 0 0,.slice none 0 0,.slice none 0 0,.slice none 0 0,.slice none 0 0,.slice none 0 0,.slice none 0 0,.bool false,.int .i64 0,.int .i64 0,.int .i64 0,.int .i64 0,.slice none 0 0,.slice none 0 0] 64)).setRow z1.heap.size cS):=below_row ((Below.refl z1.heap.size z1).alloc (Nat.le_refl _) (.cells #[.pointer none,.int .i64 0,.int .i64 0,.slice none 0 0,.slice none 0 0,.slice none 0 0,.slice none 0 0,.slice none 0 0,.slice none 0 0,.slice none 0 0,.slice none 0 0,.bool false,.int .i64 0,.int .i64 0,.int .i64 0,.int .i64 0,.slice none 0 0,.slice none 0 0] 64)) (Nat.le_refl _) cS
 have HB1:=Lib.hid (bcomp B1.out hbn)
 have HS1:=Lib.hid (HS.out.keep hbn)
 have HG2:Hid (((z1.alloc (.cells #[.pointer none,.int .i64 0,.int .i64 0,.slice none 0 0,.slice none 0 0,.slice none 0 0,.slice none 0 0,.slice none 0 0,.slice none 0 0,.slice none 0 0,.slice none 0 0,.bool false,.int .i64 0,.int .i64 0,.int .i64 0,.int .i64 0,.slice none 0 0,.slice none 0 0] 64)).setRow z1.heap.size cS).heap[z1.heap.size]?=some (.cells cS 64 (0,0))):=setRow_heap _ _ _ _ _ _ HZN.out
 have hzs:W.heap.size≤z1.heap.size:=B1.out.size
 try simp only [Act.put]
 clear hbn HZN HS HM
 generalize (z1.alloc (.cells #[.pointer none,.int .i64 0,.int .i64 0,.slice none 0 0,.slice none 0 0,.slice none 0 0,.slice none 0 0,.slice none 0 0,.slice none 0 0,.slice none 0 0,.slice none 0 0,.bool false,.int .i64 0,.int .i64 0,.int .i64 0,.int .i64 0,.slice none 0 0,.slice none 0 0] 64)).setRow z1.heap.size cS=W2 at *
 have HG3:Hid (W2.heap[w.heap.size]?=some (.cells cF 26 (0,0))):=(HB1.out.block _ (by omega)).trans HG0.out
 have HG4:Hid (W2.heap[w.heap.size+1]?=some (.cells cP 30 (0,0))):=(HB1.out.block _ (by omega)).trans HG1.out
 have HBW2:=Lib.hid (bcomp HB0.out HB1.out)
 have HL2:=Lib.hid (HLW.out.keep HB1.out)
 have HRI2:Hid (∀ i A,Ls[i]?=some A→∃ iv,W2.cell? ⟨rb,ro+i,none⟩=some iv∧RdLists none W2 iv A):=fun i A h=>by obtain ⟨iv,h1,h2⟩:=HRI.out i A h;exact ⟨iv,cell_keep HBW2.out h1,h2.keep HBW2.out⟩
 have h5s:=HPW.out.sens
 have hq63:q.levels.length * 16≤140737488351232:=by obtain ⟨_,_,_,_,_,g⟩:=HPW.out;exact g.1.size
 have HP5:=Lib.hid h5s
 obtain ⟨fca,fcc,hy2⟩:=HFW.out.chans
 have HY2:=Lib.hid hy2
 have HR0:Hid (holdsErr f q Ls=if longI f Ls then 3 else 0):=by show _=_;rw [holdsErr,if_neg (by rw [HE.out];simp)]
 clear HG0 HG1 HFW HPW HLW HTW HRI HB0 HB1 B1 hy2 h5s HE
 have hmk:=makeTraces Ls.length hn
 have hb0:((0:Int) != 0)=false:=rfl
 go_upto_region 5 with fail
 have hal3:=(Below.refl W2.heap.size W2).alloc (Nat.le_refl _) (.cells (Builtin.zeroCells #[.int .u8 0,.int .i64 0,.slice none 0 0,.slice none 0 0,.slice none 0 0,.slice none 0 0] Ls.length) 52)
 have HTR0:Hid (Trs (W2.alloc (.cells (Builtin.zeroCells #[.int .u8 0,.int .i64 0,.slice none 0 0,.slice none 0 0,.slice none 0 0,.slice none 0 0] Ls.length) 52)) W2.heap.size Ls.length 0 (fun i=>runT f (Ls.getD i []) q.steps)):=⟨by simp,fun j hj=>by
  have hg:=heap_alloc_new W2 (.cells (Builtin.zeroCells #[.int .u8 0,.int .i64 0,.slice none 0 0,.slice none 0 0,.slice none 0 0,.slice none 0 0] Ls.length) 52)
  refine ⟨?_,frozen_of_row _ _ _ _ _ hg⟩
  rw [cell_of_row _ _ _ _ _ _ hg,Array.getElem?_eq_getElem (by rw [size_zeroCells];simpa using hj)];rfl,fun i hi=>absurd hi (Nat.not_lt_zero _)⟩
 have HB3:=Lib.hid hal3
 obtain ⟨b,hb⟩:∃ b,W2.heap.size=b:=⟨_,rfl⟩
 generalize W2.alloc (.cells (Builtin.zeroCells #[.int .u8 0,.int .i64 0,.slice none 0 0,.slice none 0 0,.slice none 0 0,.slice none 0 0] Ls.length) 52)=W3 at *
 rw [hb] at HTR0
 try rw [hb]
 have HBB:=Lib.hid hb
 clear hal3 hmk hb
 go_wp2_with fail
 go_loopw [11,12,30] (fun _ _ v wr=>∃ k:Nat,k≤Ls.length∧v=.int .i64 k∧Hid (∀ A ∈ Ls.take k,A.length≤f.chans.length)∧Trs wr b Ls.length k (fun i=>runT f (Ls.getD i []) q.steps)∧Below W2.heap.size W2 wr) (fun _ _ v _=>Ls.length - (intOf v).toNat)
 case atStart=>exact ⟨0,Nat.zero_le _,rfl,(by intro A hA;simp at hA),HTR0.out,HB3.out⟩
 case round=>
  obtain ⟨k,hk,rfl,HFIT,htr,hbw⟩:=hrel
  obtain ⟨w4,rfl⟩:∃ x:World,x=wr:=⟨_,rfl⟩
  have HTR:=Lib.hid htr
  have HBW:=Lib.hid hbw
  clear htr hbw
  by_cases hlt:k<Ls.length
  ·have hlt1:(k:Int)<(Ls.length:Int):=by omega
   obtain ⟨A,hA⟩:∃ A,Ls[k]?=some A:=⟨_,List.getElem?_eq_getElem hlt⟩
   obtain ⟨iv,c0,hrd⟩:=HRI2.out k A hA
   obtain ⟨ia,ic,rfl⟩:=hrd.is
   have HAD:Hid (Ls.getD k []=A):=by show _=_;rw [List.getD_eq_getElem?_getD,hA];rfl
   have HTK:Hid (Ls.take (k+1)=Ls.take k ++ [A]):=by show _=_;rw [List.take_add_one,hA];rfl
   have HAM:=Lib.hid (List.mem_of_getElem? hA)
   have c1:=cell_keep HBW.out c0
   have HRD:=Lib.hid (hrd.keep HBW.out)
   have HGF:=Lib.hid ((HBW.out.block _ (Array.getElem?_eq_some_iff.1 HG3.out).1).trans HG3.out)
   have HGS:=Lib.hid ((HBW.out.block _ (Array.getElem?_eq_some_iff.1 HG2.out).1).trans HG2.out)
   have y2:=row_of HGF.out 2 _ HY2.out
   clear hA c0 hrd
   by_cases hln:f.chans.length<A.length
   ·have hln1:(f.chans.length:Int)<(A.length:Int):=by omega
    have HRV:Hid (R=3∧V=false):=by
     have hl:longI f Ls=true:=by unfold longI;exact List.any_eq_true.2 ⟨A,HAM.out,by simpa using hln⟩
     have hr3:R=3:=by rw [← HR.out,HR0.out,hl];rfl
     exact ⟨hr3,by rw [← HV.out,holdsB,HR.out,hr3];rfl⟩
    obtain ⟨rfl,rfl⟩:=HRV.out
    go_wp2_with fail
    go_ret2
    exact ⟨rfl,bcomp HBW2.out HBW.out⟩
   ·have hln1:¬ (f.chans.length:Int)<(A.length:Int):=by omega
    have hrun:=run_own f q cS _ A w4 (HS1.out.keep HBW.out) HSP.out HRD.out (HL2.out.keep HBW.out) (by omega)
    obtain ⟨t,ht⟩:∃ t,runT f A q.steps=t:=⟨_,rfl⟩
    rw [ht] at hrun
    have HRUN:=Lib.hid hrun
    have HTT:Hid (runT f (Ls.getD k []) q.steps=t):=by show _=_;rw [HAD.out];exact ht
    clear hrun ht
    go_upto_region 10 with fail
    go_upto_region 11 with (first|(refine wpList_load_row rfl 64 (.tmp 8) rfl z1.heap.size rfl 64 cS (0,0) _ ?l5 Tryz.underlying64 rfl ?i5 ?_;exact HGS.out;exact HSI.out)|(go_at_call 29;refine HRUN.out.mono ?_;rintro e z ⟨cT,rfl,hr,hz⟩;have HT4:=Lib.hid hr;have BZ:=Lib.hid hz;have HTI:=Lib.hid hr.trc.info;have HTS:=Lib.hid hr.trc.size;have HTO:=Lib.hid hr.trc.one;have HTH:=Lib.hid ((HTR.out.keep hz).at hlt HTS.out);clear hr hz)|(refine wpList_store_mid rfl 52 (.tmp 49) (.tmp 47) rfl b (k * 6) cT rfl rfl ?h903 ?h904 ?h905 ?_;exact HTH.out;exact HTI.out;exact HTO.out))
    try simp only [Act.put]
    have HNT:Hid (Trs (z.setCells b (k * 6) cT.toList) b Ls.length (k+1) (fun i=>runT f (Ls.getD i []) q.steps)):=
     (HTR.out.keep BZ.out).put hlt HTS.out (by rw [HTT.out];exact HT4.out.up (Nat.lt_of_lt_of_le HTR.out.lt (Nat.le_refl _)))
    have HNB:Hid (Below W2.heap.size W2 (z.setCells b (k * 6) cT.toList)):=belowSC (by have:=HBB.out;omega) _ _ (HBW.out.trans (BZ.out.mono (by have:=HBW.out.size;omega)))
    have HNF:Hid (∀ A ∈ Ls.take (k+1),A.length≤f.chans.length):=by
     intro A' h
     rw [HTK.out] at h
     rcases List.mem_append.1 h with h|h
     ·exact HFIT.out A' h
     ·simp at h;subst h;omega
    clear y2 c1
    go_wp2_with fail
    go_roundw
    case rel=>exact ⟨k+1,by omega,by go_num,HNF.out,HNT.out,HNB.out⟩
    case measure=>simp [intOf];omega
  ·obtain rfl:k=Ls.length:=by omega
   have hlt1:¬ ((Ls.length:Nat):Int)<(Ls.length:Int):=by omega
   have HFA:Hid (∀ A ∈ Ls,A.length≤f.chans.length):=by show ∀ A ∈ Ls,_;have h:=HFIT.out;rw [List.take_length] at h;exact h
   have HLONG:Hid (longI f Ls=false):=by
    show _=_
    unfold longI
    rw [List.any_eq_false]
    intro A hA
    have:=HFA.out A hA
    simp;omega
   obtain rfl:R=0:=by rw [← HR.out,HR0.out,HLONG.out];rfl
   have HVA:Hid (V=allN Ls.length (okAt f q Ls)):=by show V=_;rw [← HV.out,holdsB,HR.out];rfl
   have HGF:=Lib.hid ((HBW.out.block _ (Array.getElem?_eq_some_iff.1 HG3.out).1).trans HG3.out)
   have HGP:=Lib.hid ((HBW.out.block _ (Array.getElem?_eq_some_iff.1 HG4.out).1).trans HG4.out)
   have HGS:=Lib.hid ((HBW.out.block _ (Array.getElem?_eq_some_iff.1 HG2.out).1).trans HG2.out)
   have HS4:=Lib.hid (HS1.out.keep HBW.out)
   have HR4:Hid (∀ i A,Ls[i]?=some A→∃ iv,w4.cell? ⟨rb,ro+i,none⟩=some iv∧RdLists none w4 iv A):=fun i A h=>by obtain ⟨iv,h1,h2⟩:=HRI2.out i A h;exact ⟨iv,cell_keep HBW.out h1,h2.keep HBW.out⟩
   have HB4:=Lib.hid (bcomp HBW2.out HBW.out)
   clear HV HR HR0 HLONG HFIT HG3 HG4 HG2 HS1 HRI2 HB3 HTR0 HL2 HBW HBW2 HBB hlt hk
   go_wp2_with fail
   go_loopw [13,14,15,56] (fun _ _ _ v wr=>∃ j:Nat,j≤Ls.length∧v=.int .i64 j∧Hid (∀ i,i<j→okAt f q Ls i=true)∧Below w4.heap.size w4 wr) (fun _ _ _ v _=>Ls.length - (intOf v).toNat)
   case atStart=>exact ⟨0,Nat.zero_le _,rfl,(fun i hi=>absurd hi (Nat.not_lt_zero _)),Below.refl _ _⟩
   case round=>
    obtain ⟨j,hj,rfl,HOJ,hbw⟩:=hrel
    obtain ⟨w5,rfl⟩:∃ x:World,x=wr:=⟨_,rfl⟩
    have HB5:=Lib.hid hbw
    clear hbw
    by_cases hlt:j<Ls.length
    ·have hj1:(j:Int)<(Ls.length:Int):=by omega
     obtain ⟨A,hA⟩:∃ A,Ls[j]?=some A:=⟨_,List.getElem?_eq_getElem hlt⟩
     have HAD:Hid (Ls.getD j []=A):=by show _=_;rw [List.getD_eq_getElem?_getD,hA];rfl
     have HAM:=Lib.hid (List.mem_of_getElem? hA)
     obtain ⟨t,ht⟩:∃ t,runT f A q.steps=t:=⟨_,rfl⟩
     have HTT:Hid (runT f (Ls.getD j []) q.steps=t):=by show _=_;rw [HAD.out];exact ht
     obtain ⟨jv,hjc,hjr⟩:=HR4.out j A hA
     obtain ⟨ja,jc,rfl⟩:=hjr.is
     obtain ⟨cY,hyr,hyf⟩:=HTR.out.rd j hlt
     simp only [HTT.out] at hyf
     have HJC:=Lib.hid hjc
     have HJR:=Lib.hid hjr
     have HYR:=Lib.hid hyr
     have HYF:=Lib.hid hyf
     have st0:w5.cell? ⟨b,j * 6,none⟩=some (.int .u8 t.status):=by
      have h:=(rangeAt_below hyr HB5.out) 0 (.int .u8 t.status) (by obtain ⟨_,_,_,_,rfl,_⟩:=hyf;rfl)
      simpa using h
     obtain ⟨sn,hsn⟩:∃ sn,q.sens=sn:=⟨_,rfl⟩
     have p4:w5.cell? ⟨w.heap.size+1,4,none⟩=some (.bool sn):=by have h:=row_of ((HB5.out.block _ (Array.getElem?_eq_some_iff.1 HGP.out).1).trans HGP.out) 4 _ HP5.out;rw [hsn] at h;exact h
     have HF1:Hid ((sn && t.status == 2)=true→V=false):=by
      intro h
      rw [HVA.out]
      refine allN_false.2 ⟨j,hlt,?_⟩
      unfold okAt
      rw [HTT.out,hsn,h];rfl
     have HF2:Hid (∀ i l:Nat,i<j→l<q.levels.length→leaks1 f q l (Ls.getD i []) A (runT f (Ls.getD i []) q.steps) t=true→V=false):=by
      intro i l hi hl h
      rw [HVA.out]
      refine allN_false.2 ⟨j,hlt,?_⟩
      unfold okAt
      rw [Bool.and_eq_false_iff]
      right
      refine allN_false.2 ⟨i,hi,allN_false.2 ⟨l,hl,?_⟩⟩
      rw [HTT.out,HAD.out,h];rfl
     have HF3:Hid ((sn && t.status == 2)=false→(∀ i,i<j→∀ l,l<q.levels.length→leaks1 f q (l:Nat) (Ls.getD i []) A (runT f (Ls.getD i []) q.steps) t=false)→okAt f q Ls j=true):=by
      intro h0 h
      unfold okAt
      rw [HTT.out,HAD.out,hsn,h0,Bool.and_eq_true]
      refine ⟨rfl,allN_iff.2 fun i hi=>allN_iff.2 fun l hl=>?_⟩
      rw [h i hi l hl];rfl
     clear hA ht hjc hjr hyr hyf hsn
     by_cases hfu:(sn && t.status == 2)=true
     ·obtain rfl:V=false:=HF1.out hfu
      obtain ⟨hs1,hs2⟩:=Bool.and_eq_true _ _ ▸ hfu
      subst hs1
      go_wp2_with fail
      go_ret2
      exact ⟨rfl,bcomp HB4.out HB5.out⟩
     ·have hfu2:(sn && t.status == 2)=false:=by simpa using hfu
      have HFU:=Lib.hid hfu2
      clear hfu
      go_upto_region 17 with fail
      go_cut [68] from 59 to 69 (fun c wx=>c=.bool false∧wx=w5)
      case first=>
       cases sn
       ·go_wp2_with fail
        go_meet
        exact ⟨rfl,rfl⟩
       ·have hst:(t.status == 2)=false:=by simpa using HFU.out
        go_wp2_with fail
        go_meet
        exact ⟨rfl,rfl⟩
      case rest=>
       obtain ⟨rfl,rfl⟩:=hcut
       clear st0 p4 hfu2
       go_wp2_with fail
       go_loopw [14,15,70] (fun _ _ v wr=>∃ i:Nat,i≤j∧v=.int .i64 i∧Hid (∀ i',i'<i→∀ l,l<q.levels.length→leaks1 f q (l:Nat) (Ls.getD i' []) A (runT f (Ls.getD i' []) q.steps) t=false)∧Below w4.heap.size w4 wr) (fun _ _ v _=>j - (intOf v).toNat)
       case atStart=>exact ⟨0,Nat.zero_le _,rfl,(fun i hi=>absurd hi (Nat.not_lt_zero _)),HB5.out⟩
       case round=>
        obtain ⟨i,hi,rfl,HI,hbw⟩:=hrel
        obtain ⟨w6,rfl⟩:∃ x:World,x=wr:=⟨_,rfl⟩
        have HB6:=Lib.hid hbw
        clear hbw
        by_cases hij:i<j
        ·have hi1:(i:Int)<(j:Int):=by omega
         have hi2:(i:Int)<(Ls.length:Int):=by omega
         obtain ⟨D,hD⟩:∃ D,Ls[i]?=some D:=⟨_,List.getElem?_eq_getElem (by omega)⟩
         have HDD:Hid (Ls.getD i []=D):=by show _=_;rw [List.getD_eq_getElem?_getD,hD];rfl
         have HDM:=Lib.hid (List.mem_of_getElem? hD)
         obtain ⟨u,hu⟩:∃ u,runT f D q.steps=u:=⟨_,rfl⟩
         have HUU:Hid (runT f (Ls.getD i []) q.steps=u):=by show _=_;rw [HDD.out];exact hu
         obtain ⟨iv,hic,hir⟩:=HR4.out i D hD
         obtain ⟨ia,ic,rfl⟩:=hir.is
         obtain ⟨cX,hxr,hxf⟩:=HTR.out.rd i (by omega)
         simp only [HUU.out] at hxf
         have HIC:=Lib.hid hic
         have HIR:=Lib.hid hir
         have HXR:=Lib.hid hxr
         have HXF:=Lib.hid hxf
         have hgs6:=(HB6.out.block _ (Array.getElem?_eq_some_iff.1 HGS.out).1).trans HGS.out
         obtain ⟨p,hp0,hLat⟩:=(HS4.out.keep HB6.out).lat
         have s0:=row_of hgs6 0 _ hp0
         have HLEN:=Lib.hid ((len_any (sideLat q) _ w6 hLat).mono fun e w' h=>(⟨h.1.trans (by rw [sideLat_n]),h.2.symm⟩:e=.returned (.int .i64 q.levels.length)∧w6=w'))
         clear hD hu hic hir hxr hxf hgs6 hp0 hLat
         go_wp2_with (go_at_call 28;refine HLEN.out.mono ?_;rintro e z ⟨rfl,rfl⟩)
         go_loopw [15,76] (fun _ v wr=>∃ l:Nat,l≤q.levels.length∧v=.int .i64 l∧Hid (∀ l',l'<l→leaks1 f q (l':Nat) D A u t=false)∧Below w4.heap.size w4 wr) (fun _ v _=>q.levels.length - (intOf v).toNat)
         case atStart=>exact ⟨0,Nat.zero_le _,rfl,(fun i hi=>absurd hi (Nat.not_lt_zero _)),HB6.out⟩
         case round=>
          clear s0
          obtain ⟨l,hl,rfl,HLL,hbw⟩:=hrel
          obtain ⟨w7,rfl⟩:∃ x:World,x=wr:=⟨_,rfl⟩
          have HB7:=Lib.hid hbw
          clear hbw
          by_cases hll:l<q.levels.length
          ·have hl1:(l:Int)<(q.levels.length:Int):=by omega
           obtain ⟨LV,hLV⟩:∃ LV,leaks1 f q (l:Nat) D A u t=LV:=⟨_,rfl⟩
           have HLV:=Lib.hid hLV
           clear hLV
           go_upto_region 25 with fail
           have e1:=ext_cell (cell_keep HB7.out HIC.out)
           have e2:=ext_cell (cell_keep HB7.out HJC.out)
           have e3:∀ w,(∃ x,w=ext w7 x)→w.rangeAt b (i * 6) cX.toList:=by rintro w ⟨x,rfl⟩;exact rangeAt_below (rangeAt_below HXR.out HB7.out) (ext_below w7 x)
           have e4:∀ w,(∃ x,w=ext w7 x)→w.rangeAt b (j * 6) cY.toList:=by rintro w ⟨x,rfl⟩;exact rangeAt_below (rangeAt_below HYR.out HB7.out) (ext_below w7 x)
           have HE3:=Lib.hid e3
           have HE4:=Lib.hid e4
           have HXI:Hid ((Tryz.prog.info? 52).map (·.size)=some cX.toList.length):=by have h:=HXF.out.trc.info;rw [Array.length_toList];exact h
           have HYI:Hid ((Tryz.prog.info? 52).map (·.size)=some cY.toList.length):=by have h:=HYF.out.trc.info;rw [Array.length_toList];exact h
           have hgs7:=Lib.hid ((HB7.out.block _ (Array.getElem?_eq_some_iff.1 HGS.out).1).trans HGS.out)
           clear e3 e4
           refine wp_region_mix (.one [0,1,2,3,4,5,6,7,8,9,10,11,12,13,14,15,16,17] 18 (.fin [])) (fun _=>false) (by kernel_rfl) (by kernel_rfl) rfl (by kernel_rfl) (fun _ d _ _ _ h=>by cases d <;> exact h) ?_
           have HBd:Hid (Below w7.heap.size w7 w7.drew):=(Below.refl _ _).drew
           generalize w7.drew=w8 at *
           have HBX:=Lib.hid (HB7.out.trans (HBd.out.mono (by have:=HB7.out.size;omega)))
           refine mix_one (by simp only [opsOf,List.filterMap_cons,List.filterMap_nil,List.getElem?_toArray,List.getElem?_cons_succ,List.getElem?_cons_zero];rfl) ⟨_,ext_of HBd.out⟩ ?_
           change wpQuiet _ _ _ _ [_,_,_,_,_,_,_,_,_,_,_,_,_,_,_,_,_,_] _
           go_big_quiet_want
           refine quiet_load_row 64 (.tmp 8) rfl z1.heap.size rfl 64 cS (0,0) _ (ext_row hgs7.out) Tryz.underlying64 rfl HSI.out ?_
           simp only [Act.put,List.setIfInBounds_toArray,List.set_cons_succ,List.set_cons_zero,List.getElem_toArray,List.getElem_cons_succ,List.getElem_cons_zero]
           go_big_quiet_on
           go_big_quiet_step (fail)
           go_big_quiet_step (fail)
           go_big_quiet_step (fail)
           go_big_quiet_step (fail)
           go_big_quiet_step (fail)
           go_big_quiet_step (fail)
           go_big_quiet_step (fail)
           go_big_quiet_step (fail)
           go_big_quiet_step (fail)
           go_big_quiet_step (fail)
           go_big_quiet_step (fail)
           go_big_quiet_step (fail)
           go_big_quiet_want
           refine quiet_load_mid 52 (.tmp 91) rfl b (i * 6) rfl cX _ HE3.out Tryz.underlying52 rfl HXI.out ?_
           simp only [Act.put,List.setIfInBounds_toArray,List.set_cons_succ,List.set_cons_zero,List.getElem_toArray,List.getElem_cons_succ,List.getElem_cons_zero]
           go_big_quiet_on
           go_big_quiet_step (fail)
           go_big_quiet_step (fail)
           go_big_quiet_step (fail)
           go_big_quiet_want
           refine quiet_load_mid 52 (.tmp 95) rfl b (j * 6) rfl cY _ HE4.out Tryz.underlying52 rfl HYI.out ?_
           simp only [Act.put,List.setIfInBounds_toArray,List.set_cons_succ,List.set_cons_zero,List.getElem_toArray,List.getElem_cons_succ,List.getElem_cons_zero]
           go_big_quiet_on
           refine wpQuiet_nil ?_
           clear e1 e2
           have hlk:=leaks_open f q cS cX cY l _ _ D A u t w8 (HS4.out.keep HBX.out) HSP.out (by omega) (by omega) (HFA.out D HDM.out) (HFA.out A HAM.out) (HZ.out D HDM.out) (HZ.out A HAM.out) (HIR.out.keep HBX.out) (HJR.out.keep HBX.out) (HXF.out.keep HBX.out).trc (HYF.out.keep HBX.out).trc
           rw [HLV.out] at hlk
           have HLK:=Lib.hid hlk
           clear hlk
           refine mix_step rfl ?_
           go_wp2_with (go_at_call 30;refine HLK.out.mono ?_;rintro e w9 ⟨rfl,hz⟩;have BZ:=Lib.hid hz;clear hz)
           refine ⟨by first|exact ⟨_,ext_of (HBd.out.trans (BZ.out.mono HBd.out.size))⟩|exact fun _=>⟨_,ext_of (HBd.out.trans (BZ.out.mono HBd.out.size))⟩,?_⟩
           refine mix_endH ?_
           have HB9:=Lib.hid (HBX.out.trans (BZ.out.mono (by have:=HBX.out.size;omega)))
           cases LV
           ·have HLN:Hid (∀ l',l'<l+1→leaks1 f q (l':Nat) D A u t=false):=by
             intro l' h
             rcases Nat.lt_or_ge l' l with h2|h2
             ·exact HLL.out l' h2
             ·obtain rfl:l'=l:=by omega
              exact HLV.out
            go_wp2_with fail
            go_roundw
            case rel=>exact ⟨l+1,by omega,by go_num,HLN.out,HB9.out⟩
            case measure=>simp [intOf];omega
           ·obtain rfl:V=false:=HF2.out i l hij hll (by rw [HUU.out,HDD.out];exact HLV.out)
            go_wp2_with fail
            go_ret2
            exact ⟨rfl,bcomp HB4.out HB9.out⟩
          ·have hl1:¬ (l:Int)<(q.levels.length:Int):=by omega
           have HIN:Hid (∀ i',i'<i+1→∀ l,l<q.levels.length→leaks1 f q (l:Nat) (Ls.getD i' []) A (runT f (Ls.getD i' []) q.steps) t=false):=by
            intro i' h l' h2
            rcases Nat.lt_or_ge i' i with h3|h3
            ·exact HI.out i' h3 l' h2
            ·obtain rfl:i'=i:=by omega
             rw [HUU.out,HDD.out]
             exact HLL.out l' (by omega)
           go_wp2_with fail
           go_roundw
           case rel=>exact ⟨i+1,by omega,by go_num,HIN.out,HB7.out⟩
           case measure=>simp [intOf];omega
        ·have hi1:¬ (i:Int)<(j:Int):=by omega
         have hok:=HF3.out HFU.out (fun i' h l h2=>HI.out i' (by omega) l h2)
         have HOJ2:Hid (∀ i,i<j+1→okAt f q Ls i=true):=by
          intro i' h
          rcases Nat.lt_or_ge i' j with h3|h3
          ·exact HOJ.out i' h3
          ·obtain rfl:i'=j:=by omega
           exact hok
         clear hok
         go_wp2_with fail
         go_roundw
         case rel=>exact ⟨j+1,by omega,by go_num,HOJ2.out,HB6.out⟩
         case measure=>simp [intOf];omega
    ·obtain rfl:j=Ls.length:=by omega
     have hj1:¬ ((Ls.length:Nat):Int)<(Ls.length:Int):=by omega
     obtain rfl:V=true:=by rw [HVA.out];exact allN_iff.2 HOJ.out
     go_wp2_with fail
     go_ret2
     exact ⟨rfl,bcomp HB4.out HB5.out⟩
end Go.Proofs.YtkjkpddajjmloaaGreatDoor
