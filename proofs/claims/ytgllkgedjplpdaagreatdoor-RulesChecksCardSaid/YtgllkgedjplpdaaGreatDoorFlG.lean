/- Package flat's maker while registers, sites and arrays are laid: its block in memory, and the contracts of register and site. Conditions: the maker's block, the registers and the rows lie in memory as is said. -/
import Derived.Test.YtgllkgedjplpdaaGreatDoorFlC
import Derived.Test.YtgllkgedjplpdaaGreatDoorFlD
import Derived.Test.YtgllkgedjplpdaaGreatDoorFlI
import Derived.Test.YtgllkgedjplpdaaGreatDoorRowL
set_option linter.all false
set_option maxRecDepth 1000000
set_option maxHeartbeats 12800000
set_option linter.unusedVariables false
set_option linter.unusedSimpArgs false
namespace Go.Proofs.YtgllkgedjplpdaaGreatDoor
open Go.Maps (Keyed string_keyed int_keyed)
open Go.WideShapes Go.ChangeMaps Go.MapKept Go.WideMaps Go.ChangeAt Go.RowKit Go.ChangeShapes
structure Pre where
 w0:World
 c1:Nat
 M:Nat
 rb:Nat
 p:ProgD
 ac:Option Addr
 kc:Nat
 aa:Option Addr
 ka:Nat
 af:Option Addr
 kf:Nat
 am:Option Addr
 km:Nat
 fc:Option Addr
 fk:Nat
namespace Pre
abbrev cells (q:Pre) (rg:Int) (sv av:Value):Array Value:=#[.int .i64 q.p.width,.slice q.ac q.p.chans.length q.kc,.slice q.aa q.p.arrays.length q.ka,.slice q.af q.p.funcs.length q.kf,.slice q.am q.p.main.length q.km,.int .i64 q.p.width,.int .i64 rg,.slice q.fc q.p.chans.length q.fk,sv,av,.slice none 0 0,.map (some q.rb)]
def lo (q:Pre):Nat->Prop:=fun k=>q.w0.heap.size<=k/\k<q.c1
structure At (q:Pre) (rg:Int) (sv av:Value) (R:List (Int × ByteArray)) (S:List ByteArray) (A:List Int) (w:World):Prop where
 below:Below q.w0.heap.size q.w0 w
 hm:w.heap[q.M]?=some (.cells (q.cells rg sv av) 131 (0,0))
 regs:RegsIs w q.rb R
 chs:RdStrs (some q.lo) w (.slice q.fc q.p.chans.length q.fk) q.p.chans
 sites:w.ownsRow q.c1 9 1 sv S.length (S.flatMap strCells)
 arrs:w.ownsRow q.c1 3 1 av A.length (A.flatMap cellsInt)
 c1:q.w0.heap.size<=q.c1/\q.c1<=w.heap.size
 lm:q.w0.heap.size<=q.M
 lr:q.w0.heap.size<=q.rb
 sok:∀ s ∈ S,s.size<=maxLen
theorem strs_turn {g:Nat->Prop} {T:Nat->Prop} {w w':World} {v:Value} {l:List ByteArray} (h:RdStrs (some g) w v l) (k:Turned T w w') (hd:∀ b cs,g b->w.heap[b]?=some (.cells cs 9 (0,0))->¬ T b):RdStrs (some g) w' v l:=by
 refine RdStrs.map (S:=fun T=>T=9) (fun T b hT hb hf=>?_) (fun T b o u hT hf hc=>?_) rfl h
 ·obtain ⟨h1,cs,h2⟩:=hf g rfl
  subst hT
  exact Free.of h1 ((k.block b hb (hd b cs h1 h2)).trans h2)
 ·obtain ⟨h1,cs,h2⟩:=hf g rfl
  subst hT
  exact k.cell hc (hd b cs h1 h2)
theorem At.turn {q:Pre} {rg:Int} {sv av:Value} {R:List (Int × ByteArray)} {S:List ByteArray} {A:List Int} {x y:World} {T:Nat->Prop} (h:q.At rg sv av R S A x) (k:Turned T x y) (h0:∀ i,T i->q.w0.heap.size<=i) (h1:¬ T q.M) (h2:¬ T q.rb)
  (h3:∀ b cs,q.lo b->x.heap[b]?=some (.cells cs 9 (0,0))->¬ T b) (h4:∀ i,sv.ownBlock=some i->¬ T i) (h5:∀ i,av.ownBlock=some i->¬ T i):q.At rg sv av R S A y:=
 ⟨below_then h.below k h.below.size h0,(k.block _ (aE h.hm).1 h1).trans h.hm,h.regs.at (k.block _ (MapG.lt h.regs) h2),strs_turn h.chs k h3,own_turn h.sites k h4,own_turn h.arrs k h5,⟨h.c1.1,Nat.le_trans h.c1.2 k.size⟩,h.lm,h.lr,h.sok⟩
theorem At.keep {q:Pre} {rg:Int} {sv av:Value} {R:List (Int × ByteArray)} {S:List ByteArray} {A:List Int} {x y:World} (h:q.At rg sv av R S A x) (k:Below x.heap.size x y):q.At rg sv av R S A y:=
 h.turn (T:=fun _=>False) (Turned.of_below k) (fun _ h=>h.elim) id id (fun _ _ _ _=>id) (fun _ _=>id) (fun _ _=>id)
theorem At.mlt {q:Pre} {rg:Int} {sv av:Value} {R:List (Int × ByteArray)} {S:List ByteArray} {A:List Int} {w:World} (h:q.At rg sv av R S A w):q.M<w.heap.size:=(aE h.hm).1
theorem kept_regs {w w':World} {b:Nat} {R:List (Int × ByteArray)} (h:RegsIs w b R) (g:w.grownBy w' (some b)):Kept w w':=by
 intro x o v hc
 have hx:x ≠ b:=fun e=>by
  subst e
  obtain ⟨es,clock,hb,_⟩:=h
  simp [World.cell?,hb] at hc
 rw [World.cell?_of_block (w:=w) (g.block x (block_lt_of_cell hc) (by simpa using hx))];exact hc
theorem At.registered {q:Pre} {rg:Int} {sv av:Value} {R R':List (Int × ByteArray)} {S:List ByteArray} {A:List Int} {x y:World} (h:q.At rg sv av R S A x) (hr:RegsIs y q.rb R') (g:x.grownBy y (some q.rb)):q.At rg sv av R' S A y:=by
 have k:Turned (fun i=>i=q.rb) x y:=Turned.of_grown g (fun b e=>by simpa using e.symm)
 have hne:∀ {cs T},x.heap[q.rb]? ≠ some (.cells cs T (0,0)):=fun {cs T} e=>by
  obtain ⟨es,cl,h',_⟩:=h.regs
  rw [e] at h';cases h'
 exact ⟨below_then h.below k h.below.size (fun i e=>by rw [e];exact h.lr),(k.block _ h.mlt (fun e=>hne (e ▸ h.hm))).trans h.hm,hr,strs_turn h.chs k (fun b cs _ hb e=>hne (e ▸ hb)),
  own_turn h.sites k (fun i hi e=>MkS.own_ne_regs h.sites h.regs (by rw [hi,e])),own_turn h.arrs k (fun i hi e=>MkS.own_ne_regs h.arrs h.regs (by rw [hi,e])),⟨h.c1.1,Nat.le_trans h.c1.2 k.size⟩,h.lm,h.lr,h.sok⟩
theorem ext_len {W:World} {b:Nat} {R:List (Int × ByteArray)} (h:RegsIs W b R) (n:Int) (hn:((R.length:Nat):Int)=n) (x:World) :
  (Builtin.len_ #[129] 3 #[.map (some b)]).run Tryz.prog (ext W x)=.ok (.int .i64 n) (ext W x):=by
 have h1:=MapG.len (MapG.keep h (ext_below W x)) Tryz.underlying129 3
 rw [regFrom_length,hn] at h1
 exact h1
theorem register_any (q:Pre) (rg:Int) (sv av:Value) (R:List (Int × ByteArray)) (S:List ByteArray) (A:List Int) (f:Int) (v:Value) (l:List ByteArray) (w:World) (h:q.At rg sv av R S A w) (hr:RdStrs none w v l) (hf:InI64 f) (hd:(R ++ placesOf f l).Nodup) (hl:R.length+l.length<=3000000) :
  Calls Tryz.prog 72 #[.pointer (some ⟨q.M,0,none⟩),.int .i64 f,v] w fun e w'=>e=.returned (.tuple #[])/\q.At rg sv av (R ++ placesOf f l) S A w'/\Kept w w'/\Turned (fun i=>i=q.rb) w w':=by
 obtain ⟨a,c,rfl,-,-⟩:=id hr
 have H:=Hd h
 have HR:=Hd hr
 have HF:=Hd hf
 have HD:=Hd hd
 clear h hr hf hd
 go_enter Tryz.func72,Tryz.ntmps72
 go_wp2_with fail
 go_loopw [10] (fun i wr=>∃ k:Nat,k<=l.length/\i=.int .i64 k/\q.At rg sv av (R ++ placesOf f (l.take k)) S A wr/\Kept w wr/\Turned (fun i=>i=q.rb) w wr) (fun i _=>l.length - (intOf i).toNat)
 case atStart=>exact ⟨0,Nat.zero_le _,rfl,by simpa [placesOf] using H.out,Kept.refl _,Turned.refl _ _⟩
 case round=>
  obtain ⟨wo,rfl⟩:∃ x:World,x=wr:=⟨_,rfl⟩
  obtain ⟨k,hk,rfl,hat,hke,htu⟩:=hrel
  by_cases hlt:k<l.length
  rotate_left
  ·obtain rfl:k=l.length:=by omega
   have hlt1:¬ (l.length:Int)<(l.length:Int):=by omega
   rw [List.take_length] at hat
   have HAT:=Hd hat
   have HKE:=Hd hke
   have HTU:=Hd htu
   clear hat hke htu
   go_wp2_with fail
   go_end0
   exact ⟨rfl,HAT.out,HKE.out,HTU.out⟩
  obtain ⟨s,hs⟩:∃ s,l[k]?=some s:=⟨_,lG hlt⟩
  have hr2:=HR.out.kept hke
  obtain ⟨a',c',e',_,hrr⟩:=hr2
  simp only [Value.slice.injEq] at e'
  obtain ⟨rfl,_,rfl⟩:=e'
  obtain ⟨bl,ol,rfl,_,n0,hsz⟩:=hrr k s hs
  have hnx:placesOf f (l.take (k+1))=placesOf f (l.take k) ++ [(f,s)]:=by
   unfold placesOf
   rw [List.take_add_one,hs,List.map_append];rfl
  have HNX:=Hd hnx
  obtain ⟨R1,hR1⟩:∃ R1,R ++ placesOf f (l.take k)=R1:=⟨_,rfl⟩
  have hR1l:R1.length<=3000000:=by rw [<- hR1,List.length_append];unfold placesOf;rw [List.length_map,List.length_take];omega
  have hni:(f,s) ∉ R1:=by
   have h1:R ++ placesOf f l=R1 ++ (f,s) :: placesOf f (l.drop (k+1)):=by
    rw [<- hR1,List.append_assoc]
    congr 1
    unfold placesOf
    have:l=l.take k ++ s :: l.drop (k+1):=by
     have hq:=lE hs
     rw [<- hq.2,List.getElem_cons_drop,List.take_append_drop]
    conv=>lhs;rw [this]
    rw [List.map_append];rfl
   have h2:=HD.out
   rw [h1] at h2
   have h3:=(List.nodup_append.1 h2).2.2
   intro hm
   exact h3 _ hm _ (List.mem_cons_self ..) rfl
  rw [hR1] at hat
  have HR1:=Hd hR1
  obtain ⟨n,hn⟩:∃ n:Int,((R1.length:Nat):Int)=n:=⟨_,rfl⟩
  have HN:=Hd hn
  have HAT:=Hd hat
  have HKE:=Hd hke
  have HTU:=Hd htu
  have HNI:=Hd hni
  have HSZ:=Hd hsz
  have hklt:(k:Int)<(l.length:Int):=by omega
  have hm11:wo.cell? ⟨q.M,11,none⟩=some (.map (some q.rb)):=row_of hat.hm 11 _ rfl
  clear hat hke htu hrr hs hnx hR1 hn hni hsz
  go_upto_region 3 with fail
  have hlen:=ext_len HAT.out.regs n HN.out
  have e11:=ext_cell hm11
  clear hm11 n0
  (refine wp_region_calm_tail 12 (by kernel_rfl) (by kernel_rfl) ?_; simp only [List.take_succ_cons, List.take_zero, List.drop_succ_cons, List.drop_zero]; (repeat (go_big_quiet_step (fail))); refine wpQuiet_nil ?_; intro wc hwc)
  clear e11 hlen
  have HBC:=Hd hwc
  clear hwc
  obtain ⟨lk,hlk⟩:=plc_key f s HF.out HSZ.out
  have HRG:=Hd (HAT.out.keep HBC.out).regs
  go_wp2_with (refine wpList_mapG_store rfl (.tmp 17) (.tmp 20) (.tmp 25) 129 rfl 165 3 placeKeyed Tryz.underlying129 q.rb (regFrom 0 R1) rfl (plcV f s) rfl (.int .i64 n) rfl hlk HRG.out ?hno ?_)
  case hno=>
   intro p hp e
   obtain ⟨t,ht,he⟩:=regFrom_mem hp
   have:=plcV_inj (e.symm.trans he)
   exact HNI.out (by rw [this];exact ht)
  intro w4 hmap hgr hsz4
  have HRG4:Hid (RegsIs w4 q.rb (R1 ++ [(f,s)])):=by
   show MapG _ _ _ _ _
   rw [regFrom_snoc,Nat.zero_add,HN.out]
   exact hmap
  have HGR:=Hd hgr
  clear hmap hgr hsz4 hlk
  go_wp2_with fail
  go_roundw
  case rel=>
   refine ⟨k+1,by omega,by go_num,?_,?_,?_⟩
   ·rw [HNX.out,<- List.append_assoc,HR1.out]
    exact (HAT.out.keep HBC.out).registered HRG4.out HGR.out
   ·exact (HKE.out.trans (Kept.of_below HBC.out)).trans (kept_regs HRG.out HGR.out)
   ·exact (HTU.out.trans (Turned.of_below HBC.out)).trans (Turned.of_grown HGR.out (fun b e=>by simpa using e.symm))
  case measure=>simp [intOf];omega
theorem ba_inj {s t:ByteArray} (h:s.toList=t.toList):s=t:=by
 rw [ByteArray.toList_eq,ByteArray.toList_eq] at h
 cases s;cases t;simp at h;rw [h]
theorem hasS_inL (s:ByteArray) (l:List ByteArray):hasS s l=inL s l:=by
 unfold hasS inL
 congr 1
 funext t
 rw [Bool.eq_iff_iff]
 simp only [beq_iff_eq,decide_eq_true_eq]
 exact ⟨ba_inj,fun e=>by rw [e]⟩
theorem infoStrE:(Tryz.prog.info? 9).map (fun i=>(i.zero,i.size,i.bytes))=some (some (.string ⟨#[]⟩),1,16):=by kernel_rfl
theorem infoIntE:(Tryz.prog.info? 3).map (fun i=>(i.zero,i.size,i.bytes))=some (some (.int .i64 0),1,8):=by kernel_rfl
theorem two_keepS {W w':World} {a b:Nat} (ha:w'.heap[a]?=W.heap[a]?) (hb:w'.heap[b]?=W.heap[b]?):∀ x ∈ [a,b],w'.heap[x]?=W.heap[x]?:=by
 intro x hx;simp only [List.mem_cons,List.not_mem_nil,or_false] at hx;rcases hx with rfl|rfl;exact ha;exact hb
theorem sites_stepE {s:List ByteArray} {l:List InstrD} {i:Nat} {x:InstrD} (h:l[i]?=some x):sitesOf s (l.take (i+1))=if x.kind == 7 then putL x.name (sitesOf s (l.take i)) else sitesOf s (l.take i):=by
 rw [List.take_add_one,h]
 exact sitesOf_snoc s _ x
theorem sites_lenE (s:List ByteArray) (l:List InstrD):(sitesOf s l).length<=s.length+l.length:=by
 induction l generalizing s with
 | nil=>simp [sitesOf]
 | cons x r ih=>
  have:=ih (if x.kind == 7 then putL x.name s else s)
  have h2:(if x.kind == 7 then putL x.name s else s).length<=s.length+1:=by
   split
   ·unfold putL;split <;> simp
   ·omega
  show (sitesOf (if x.kind == 7 then putL x.name s else s) r).length<=_
  simp only [List.length_cons]
  omega
theorem At.sited {q:Pre} {rg:Int} {k0:Option Addr} {kc0:Nat} {av:Value} {R:List (Int × ByteArray)} {S:List ByteArray} {A:List Int} {x y:World} {xa:Option Addr} {xc:Nat} (s:ByteArray) (hs:s.size<=maxLen) (h:q.At rg (.slice k0 S.length kc0) av R S A x)
  (hT:Turned (fun k=>(Value.slice k0 S.length kc0).ownBlock=some k) x y) (hown:y.ownsRow q.c1 9 1 (.slice xa (S.length+1) xc) (S.length+1) (S.flatMap strCells ++ strCells s)) :
  q.At rg (.slice xa (S.length+1) xc) av R (S ++ [s]) A (y.setCell ⟨q.M,8,none⟩ (.slice xa (S.length+1) xc)):=by
 have hsc:=setCell_turned y ⟨q.M,8,none⟩ (.slice xa (S.length+1) xc)
 have hnM:(Value.slice k0 S.length kc0).ownBlock ≠ some q.M:=own_ne_cells h.sites h.hm (by decide)
 have hm1:y.heap[q.M]?=some (.cells (q.cells rg (.slice k0 S.length kc0) av) 131 (0,0)):=(hT.block _ h.mlt hnM).trans h.hm
 have hnM':(Value.slice xa (S.length+1) xc).ownBlock ≠ some q.M:=own_ne_cells hown hm1 (by decide)
 have hnr:(Value.slice k0 S.length kc0).ownBlock ≠ some q.rb:=MkS.own_ne_regs h.sites h.regs
 have hrg1:RegsIs y q.rb R:=h.regs.at (hT.block _ (MapG.lt h.regs) hnr)
 have hch1:RdStrs (some q.lo) y (.slice q.fc q.p.chans.length q.fk) q.p.chans:=strs_turn h.chs hT (fun b cs hb _ e=>by have:=(own_is h.sites e).1;have:=hb.2;omega)
 have har1:=own_turn h.arrs hT (fun k hk=>MkS.own_ne_own h.arrs h.sites (by decide) hk)
 have hb1:=below_then h.below hT h.below.size (fun i e=>Nat.le_trans h.c1.1 (own_is h.sites e).1)
 refine ⟨below_then hb1 hsc hb1.size (fun i e=>by rw [e];exact h.lm),?_,hrg1.at (hsc.block _ (MapG.lt hrg1) (fun e=>MkS.regs_ne hrg1 hm1 e)),strs_turn hch1 hsc (fun b cs _ hb e=>?_),?_,own_turn har1 hsc (fun k hk e=>own_ne_cells har1 hm1 (by decide) (by rw [hk,e])),⟨h.c1.1,Nat.le_trans h.c1.2 (Nat.le_trans hT.size hsc.size)⟩,h.lm,h.lr,?_⟩
 ·rw [heap_setCell_same _ _ _ _ _ _ hm1]
  rfl
 ·have e':b=q.M:=e
  subst e'
  rw [hm1] at hb
  simp at hb
 ·have h1:=own_turn hown hsc (fun k hk e=>hnM' (by rw [hk,e]))
  rw [List.flatMap_append,List.length_append,List.length_singleton]
  simpa using h1
 ·intro t ht
  rcases List.mem_append.1 ht with ht|ht
  ·exact h.sok t ht
  ·rw [List.mem_singleton] at ht;subst ht;exact hs
theorem site_any (q:Pre) (rg:Int) (sv av:Value) (R:List (Int × ByteArray)) (S:List ByteArray) (A:List Int) (v:Value) (l:List InstrD) (w:World) (h:q.At rg sv av R S A w) (hr:RdInstrs none q.w0 v l) (hl:S.length+l.length<=1000000) :
  Calls Tryz.prog 73 #[.pointer (some ⟨q.M,0,none⟩),v] w fun e w'=>e=.returned (.tuple #[])/\∃ sv',q.At rg sv' av R (sitesOf S l) A w':=by
 obtain ⟨a,c,rfl,-,-⟩:=id hr
 obtain ⟨iS,hiS,hzS0,hzS1,hzS2⟩:=info_parts infoStrE
 have H:=Hd h
 have HR:=Hd hr
 clear h hr
 go_enter Tryz.func73,Tryz.ntmps73
 go_wp2_with fail
 go_loopw [5,8] (fun _ i wr=>∃ (k:Nat) (sv1:Value),k<=l.length/\i=.int .i64 k/\q.At rg sv1 av R (sitesOf S (l.take k)) A wr) (fun _ i _=>l.length - (intOf i).toNat)
 case atStart=>exact ⟨0,sv,Nat.zero_le _,rfl,H.out⟩
 case round=>
  obtain ⟨wo,rfl⟩:∃ x:World,x=wr:=⟨_,rfl⟩
  obtain ⟨k,sv1,hk,rfl,hat⟩:=hrel
  by_cases hlt:k<l.length
  rotate_left
  ·obtain rfl:k=l.length:=by omega
   have hlt1:¬ (l.length:Int)<(l.length:Int):=by omega
   rw [List.take_length] at hat
   have HAT:=Hd hat
   clear hat
   go_wp2_with fail
   go_end0
   exact ⟨rfl,sv1,HAT.out⟩
  obtain ⟨x,hx⟩:∃ x,l[k]?=some x:=⟨_,lG hlt⟩
  have hnx:=sites_stepE (s:=S) hx
  have hSl:=sites_lenE S (l.take k)
  rw [List.length_take] at hSl
  obtain ⟨S1,hS1⟩:∃ S1,sitesOf S (l.take k)=S1:=⟨_,rfl⟩
  rw [hS1] at hat hnx hSl
  have hS1l:S1.length<=1000000:=by omega
  obtain ⟨a',c',e',_,hrr⟩:=HR.out.keep hat.below
  simp only [Value.slice.injEq] at e'
  obtain ⟨rfl,_,rfl⟩:=e'
  obtain ⟨bx,ox,xv,rfl,_,i0,i1,i2,i3,i4,i5,i6,hri⟩:=hrr k x hx
  obtain ⟨aa2,ca2,rfl,_⟩:=id hri.1
  have hnz:x.name.size<=maxLen:=hri.2.2.2.2.2.2
  have HNX:=Hd hnx
  have HNZ:=Hd hnz
  have hklt:(k:Int)<(l.length:Int):=by omega
  have hal:=(bR wo.heap.size wo).alloc (nR _) (.cells #[.int .u8 x.kind,.int .u8 x.op,.string x.dst,.string x.name,.slice aa2 x.args.length ca2,.int .i64 x.line,.int .i64 x.col] 50)
  have HX:=Hd (heap_alloc_new wo (.cells #[.int .u8 x.kind,.int .u8 x.op,.string x.dst,.string x.name,.slice aa2 x.args.length ca2,.int .i64 x.line,.int .i64 x.col] 50))
  obtain ⟨k0,kc0,rfl,_⟩:=own_read hat.sites
  have HAT:=Hd (hat.keep hal)
  clear hat hrr hx hnx hSl hS1 hri hal hnz
  go_upto_region 3 with fail
  generalize wo.alloc (.cells #[.int .u8 x.kind,.int .u8 x.op,.string x.dst,.string x.name,.slice aa2 x.args.length ca2,.int .i64 x.line,.int .i64 x.col] 50)=W at *
  obtain ⟨xb,hxb⟩:∃ xb,wo.heap.size=xb:=⟨_,rfl⟩
  rw [hxb] at HX
  rw [hxb]
  clear hxb i0 i1 i2 i3 i4 i5 i6
  have p0:=row_of HX.out 0 (.int .u8 x.kind) rfl
  have p3:=row_of HX.out 3 (.string x.name) rfl
  have m8:=row_of HAT.out.hm 8 (.slice k0 S1.length kc0) rfl
  by_cases hk7:x.kind=7
  rotate_left
  ·have hk1:(x.kind == 7)=false:=by simp [hk7]
   have HNX2:Hid (sitesOf S (l.take (k+1))=S1):=by show _=_;rw [HNX.out,if_neg (by simp [hk7])]
   clear hk7 HNX
   have e0:=ext_cell p0
   have e3:=ext_cell p3
   have e8:=ext_cell m8
   clear p0 p3 m8
   (refine wp_region_calm (by kernel_rfl) (by kernel_rfl) ?_; (repeat (go_big_quiet_step (fail))); refine wpQuiet_nil ?_; intro wc hwc)
   clear e0 e3 e8
   have HBC:=Hd hwc
   clear hwc
   go_wp2_with fail
   go_roundw
   case rel=>exact ⟨k+1,_,by omega,by go_num,by rw [HNX2.out];exact HAT.out.keep HBC.out⟩
   case measure=>simp [intOf];omega
  have hk1:(x.kind == 7)=true:=by simp [hk7]
  have hsl:RdStrs none W (.slice k0 S1.length kc0) S1:=(own_strs HAT.out.sites (by omega) HAT.out.sok).forget
  have HSL:=Hd hsl
  have HCT:Hid (∀ z,Calls Tryz.prog 53 #[.slice k0 S1.length kc0,.string x.name] (ext W z) fun e w'=>e=.returned (.bool (inL x.name S1))/\ext W z=w'):=fun z=>by
   have h1:=slicesContains (.slice k0 S1.length kc0) S1 x.name (ext W z) (HSL.out.keep (ext_below W z))
   rw [hasS_inL] at h1
   exact h1
  have hnx7:=HNX.out
  rw [if_pos hk1] at hnx7
  clear hsl hk7 HNX
  cases hin:inL x.name S1
  rotate_left
  ·rw [hin] at HCT
   have HNX2:Hid (sitesOf S (l.take (k+1))=S1):=by show _=_;rw [hnx7];unfold putL;rw [hin,if_pos rfl]
   clear hin hnx7
   have e0:=ext_cell p0
   have e3:=ext_cell p3
   have e8:=ext_cell m8
   clear p0 p3 m8
   (refine wp_region_calm (by kernel_rfl) (by kernel_rfl) ?_; (repeat (go_big_quiet_step ((go_at_call 53;exact calls_calm_same (HCT.out _))))); refine wpQuiet_nil ?_; intro wc hwc)
   clear e0 e3 e8
   have HBC:=Hd hwc
   clear hwc
   go_wp2_with fail
   go_roundw
   case rel=>exact ⟨k+1,_,by omega,by go_num,by rw [HNX2.out];exact HAT.out.keep HBC.out⟩
   case measure=>simp [intOf];omega
  rw [hin] at HCT
  have HNX2:Hid (sitesOf S (l.take (k+1))=S1 ++ [x.name]):=by show _=_;rw [hnx7];unfold putL;rw [hin,if_neg (by simp)]
  clear hin hnx7
  have e0:=ext_cell p0
  have e3:=ext_cell p3
  have e8:=ext_cell m8
  clear p0 p3 m8
  (refine wp_region_calm (by kernel_rfl) (by kernel_rfl) ?_; (repeat (go_big_quiet_step ((go_at_call 53;exact calls_calm_same (HCT.out _))))); refine wpQuiet_nil ?_; intro wc hwc)
  clear e0 e3 e8 HCT
  go_upto_region 4 with fail
  have HAT1:=Hd (HAT.out.keep hwc)
  have HX1:=Hd ((hwc.block xb (aE HX.out).1).trans HX.out)
  clear hwc HAT HX HSL
  have l8:=keepS_cell (S:=[q.M,xb]) (by simp) (row_of HAT1.out.hm 8 (.slice k0 S1.length kc0) rfl)
  have l3:=keepS_cell (S:=[q.M,xb]) (by simp) (row_of HX1.out 3 (.string x.name) rfl)
  have hmw:q.M<wc.heap.size:=HAT1.out.mlt
  have hxw:xb<wc.heap.size:=(aE HX1.out).1
  refine wp_region_mixS [q.M,xb] (.one [0,1,2,3,4,5,6,7] 8 (.one [] 9 (tailOf [10,11,12,13]))) (fun j=>decide (10<=j)) (by kernel_rfl) (by kernel_rfl) rfl (by kernel_rfl) (fun _ d _ _ _ h=>by cases d <;> exact h) ?_
  have HBd:Hid (Below wc.heap.size wc wc.drew):=(bR _ _).drew
  generalize wc.drew=wn at *
  have HKn:=Hd (two_keepS (HBd.out.block q.M hmw) (HBd.out.block xb hxw))
  refine mix_one (by simp only [opsOf,List.filterMap_cons,List.filterMap_nil,List.getElem?_toArray,List.getElem?_cons_succ,List.getElem?_cons_zero];rfl) ⟨_,keepS_of HKn.out⟩ ?_
  change wpQuiet _ _ _ _ [_,_,_,_,_,_,_,_] _
  (repeat (go_big_quiet_step (fail)))
  clear l8 l3
  refine wpQuiet_nil ?_
  refine mix_step rfl ?_
  go_wp2_with fail
  have HN:=Hd (heap_alloc_new wn (.cells #[.string x.name] 9))
  have hal2:Below wn.heap.size wn (wn.alloc (.cells #[.string x.name] 9)):=(bR _ _).alloc (nR _) _
  have HBn:=Hd (bcomp HBd.out hal2)
  have hs1:=HBd.out.size
  have HKa:=Hd (two_keepS (hal2.block q.M (by omega)) (hal2.block xb (by omega)))
  clear hal2
  obtain ⟨gb,hgb⟩:∃ gb,wn.heap.size=gb:=⟨_,rfl⟩
  rw [hgb] at HN
  try rw [hgb]
  generalize wn.alloc (.cells #[.string x.name] 9)=wa at *
  have HKw:=Hd (fun b hb=>(HKa.out b hb).trans (HKn.out b hb):∀ b ∈ [q.M,xb],wa.heap[b]?=wc.heap[b]?)
  have HAa:=Hd (HAT1.out.keep HBn.out)
  clear hgb
  (first|refine ⟨fun _=>⟨_,keepS_of HKw.out⟩,?_⟩|refine ⟨⟨_,keepS_of HKw.out⟩,?_⟩)
  refine mix_now ?_
  refine mix_step rfl ?_
  try (simp only [Act.put,List.setIfInBounds_toArray,List.set_cons_succ,List.set_cons_zero,List.getElem_toArray,List.getElem_cons_succ,List.getElem_cons_zero])
  have hc1:=HAa.out.c1.2
  refine wpList_append_own_at _ rfl (.tmp 31) (.tmp 34) 22 rfl q.c1 9 iS (.string ⟨#[]⟩) 1 16 Tryz.underlying22 hiS hzS0 hzS1 hzS2 rfl (by decide) _ _ _ rfl HAa.out.sites ⟨gb,0,none⟩ 1 1 (strCells x.name) rfl rfl ?hnw ?hone ?h63 ?hby hc1 ?_
  case hnw=>
   intro j u hu
   have e:(⟨gb,0,none⟩:Addr).add j=⟨gb,j,none⟩:=by simp [Addr.add];omega
   rw [e]
   exact row_of HN.out j u (by rw [<- List.getElem?_toArray] at hu;exact hu)
  case hone=>intro u hu;simp only [strCells,List.mem_cons,List.not_mem_nil,or_false] at hu;rcases hu with rfl;rfl
  case h63=>unfold maxLen;omega
  case hby=>omega
  intro v' w4 hown' hgrow _ hblk
  have hT4:Turned (fun k=>(Value.slice k0 S1.length kc0).ownBlock=some k) wa w4:=Turned.of_grown hgrow (fun b e=>e)
  have hkM:(Value.slice k0 S1.length kc0).ownBlock ≠ some q.M:=own_ne_cells HAa.out.sites HAa.out.hm (by decide)
  have hkx:(Value.slice k0 S1.length kc0).ownBlock ≠ some xb:=own_ne_cells HAa.out.sites ((HKw.out xb (by simp)).trans HX1.out) (by decide)
  have hm4:=(hT4.block q.M HAa.out.mlt hkM).trans HAa.out.hm
  have hsz:=HBn.out.size
  have HKf:=Hd (two_keepS ((hT4.block q.M HAa.out.mlt hkM).trans (HKw.out q.M (by simp))) ((hT4.block xb (by omega) hkx).trans (HKw.out xb (by simp))))
  obtain ⟨xa,xc,rfl,_⟩:=own_read hown'
  have HT4:=Hd hT4
  have HO4:=Hd hown'
  have HM4:=Hd hm4
  clear hown' hgrow hblk hT4 hkM hkx
  try (simp only [Act.put,List.setIfInBounds_toArray,List.set_cons_succ,List.set_cons_zero,List.getElem_toArray,List.getElem_cons_succ,List.getElem_cons_zero])
  (first|refine ⟨fun _=>⟨_,keepS_of HKf.out⟩,?_⟩|refine ⟨⟨_,keepS_of HKf.out⟩,?_⟩)
  have c8:=row_of hm4 8 (.slice k0 S1.length kc0) rfl
  have f8:=frozen_of_row w4 q.M 8 _ _ hm4
  clear hm4
  refine mix_tail [10,11,12,13] [_,_,_,_] _ _ rfl rfl ?_
  simp only [Act.put,List.setIfInBounds_toArray,List.set_cons_succ,List.set_cons_zero,List.getElem_toArray,List.getElem_cons_succ,List.getElem_cons_zero]
  go_wp2_with fail
  go_roundw
  case rel=>exact ⟨k+1,_,by omega,by go_num,by rw [HNX2.out];exact At.sited x.name HNZ.out HAa.out HT4.out HO4.out⟩
  case measure=>simp [intOf];omega
end Pre
open Go.Maps (Keyed string_keyed int_keyed)
open Go.WideShapes Go.ChangeMaps Go.MapKept Go.WideMaps Go.ChangeAt Go.RowKit Go.ChangeShapes
theorem body_any (m:MkS) (H:m.Ok) (hs:EnvF.Small m.E.p) (hkd:Kinds m.E.p):∀ n,n<=101->∀ f:Int,(f=-1 \/ ∃ g:Nat,f=g/\g<m.E.p.funcs.length)->EnvF.Fits m.E.p n f->BodyC m n f
 | 0,_,_,_,h=>h.elim
 | n+1,hn,f,hf,h=>body_step m H hs hkd n (by omega) f h hf (fun g hg hfit=>body_any m H hs hkd n (by omega) g (.inr ⟨g,rfl,hg⟩) hfit)
theorem kinds_of {lo:Option (Nat->Prop)} {w:World} {p:ProgD} {cv av fv mv:Value} (h:RdProg lo w p cv av fv mv) (hc:checkF p=none):Kinds p:=by
 intro f x hx
 obtain ⟨main,code,hw⟩:=wf_body (wfP_of hc) f x hx
 have h1:=formB_kind hw.form
 have h2:InU8 x.kind:=by
  rcases bodyF_cases p f with e|e|⟨g,fd,_,e1,e⟩
  ·rw [e] at hx
   obtain ⟨i,hi⟩:=List.getElem?_of_mem hx
   obtain ⟨_,_,_,_,hr⟩:=h.2.2.2.1
   obtain ⟨_,_,_,_,_,_,_,_,_,_,_,_,hri⟩:=hr i x hi
   exact hri.2.1
  ·rw [e] at hx;cases hx
  ·rw [e] at hx
   obtain ⟨i,hi⟩:=List.getElem?_of_mem hx
   obtain ⟨_,_,_,_,hr⟩:=h.2.2.1
   obtain ⟨_,_,_,_,_,_,_,_,_,_,_,hf⟩:=hr g fd e1
   obtain ⟨_,_,_,_,hr2⟩:=hf.2.1
   obtain ⟨_,_,_,_,_,_,_,_,_,_,_,_,hri⟩:=hr2 i x hi
   exact hri.2.1
 unfold InU8 at h2
 omega
theorem own_upF {w:World} {base base':Nat} {e:TypeId} {size:Nat} {v:Value} {n:Nat} {xs:List Value} (h:w.ownsRow base e size v n xs) (hb:base'<=base):w.ownsRow base' e size v n xs:=by
 obtain ⟨hl,h|⟨g,cap,cur,rfl,hg,hr⟩⟩:=h
 ·exact ⟨hl,.inl h⟩
 ·exact ⟨hl,.inr ⟨g,cap,cur,rfl,Nat.le_trans hb hg,hr⟩⟩
theorem row_of_strs {lo:Option (Nat->Prop)} {w:World} {v:Value} {l:List ByteArray} (h:RdStrs lo w v l):RdRow kStr lo w v l:=by
 obtain ⟨a,c,rfl,hl,hr⟩:=h
 refine ⟨a,c,rfl,hl,fun i s hs=>?_⟩
 obtain ⟨b,o,rfl,hf,h0,hz⟩:=hr i s hs
 refine ⟨b,o,rfl,hf,fun j u hj=>?_,hz⟩
 have hj0:j=0:=by
  have:=(lE hj).1
  have e:(kStr.cells s).length=1:=rfl
  omega
 subst hj0
 have:u=.string s:=(Option.some.inj hj).symm
 subst this
 show w.cell? ⟨b,o+i * 1+0,none⟩=_
 rw [Nat.mul_one,Nat.add_zero]
 exact h0
theorem rowNil {α:Type} (K:Kind α) (lo:Option (Nat->Prop)) (w:World):RdRow K lo w (.slice none 0 0) []:=⟨none,0,rfl,⟨by simp,by simp⟩,fun i x h=>by simp at h⟩
theorem rdFlat_zero (lo:Option (Nat->Prop)) (w:World):RdFlat lo w zeroFlat (.slice none 0 0) (.slice none 0 0) (.slice none 0 0) (.slice none 0 0):=⟨rowNil _ _ _,rowNil _ _ _,rowNil _ _ _,rowNil _ _ _,i64_0,i64_0⟩
theorem locals_main {p:ProgD} (hc:checkF p=none):localsF p (-1)=(localsL [] p.main [],0):=by
 unfold localsF
 rw [hc]
 simp only
 rw [if_neg (by omega),bodyF_main]
theorem locals_bad {p:ProgD} {F:FaultD} (hc:checkF p=some F) (f:Int):localsF p f=([],F.e):=by
 unfold localsF;rw [hc]
theorem placesF_append:∀ (l m:List FuncD) (i:Nat),placesF i (l ++ m)=placesF i l ++ placesF (i+l.length) m
 | [],m,i=>by simp [placesF]
 | x :: r,m,i=>by
  rw [List.cons_append,placesF,placesF,placesF_append r m (i+1),List.append_assoc,List.length_cons,show i+1+r.length=i+(r.length+1) from by omega]
theorem places_split {p:ProgD} {k:Nat} {x:FuncD} (h:p.funcs[k]?=some x):∃ rest,placesP p=(placesOf (-1) (localsL [] p.main []) ++ placesF 0 (p.funcs.take k)) ++ (funPlaces k x ++ rest):=by
 have hq:=lE h
 have e:p.funcs=p.funcs.take k ++ x :: p.funcs.drop (k+1):=by rw [<- hq.2,List.getElem_cons_drop,List.take_append_drop]
 have hl:(p.funcs.take k).length=k:=by rw [List.length_take];have:=hq.1;omega
 refine ⟨placesF (k+1) (p.funcs.drop (k+1)),?_⟩
 unfold placesP
 conv=>lhs;rw [e]
 rw [placesF_append,hl,Nat.zero_add,placesF,List.append_assoc]
theorem codes_take {l:List FuncD} {k:Nat} {x:FuncD} (h:l[k]?=some x):codesOf (l.take (k+1))=codesOf (l.take k) ++ x.code:=by
 rw [List.take_add_one,h]
 unfold codesOf
 rw [List.flatMap_append]
 simp
theorem codes_len {p:ProgD} (hc:checkF p=none):∀ k,(codesOf (p.funcs.take k)).length<=k * 1024:=by
 intro k
 induction k with
 | zero=>simp [codesOf]
 | succ k ih=>
  cases h:p.funcs[k]? with
  | none=>
   have e:p.funcs.take (k+1)=p.funcs.take k:=by rw [List.take_add_one,h];simp
   rw [e]
   exact Nat.le_trans ih (Nat.mul_le_mul_right _ (Nat.le_succ _))
  | some x=>
   rw [codes_take h,List.length_append]
   have:=((check_none hc).2 x (List.mem_of_getElem? h)).2.1
   rw [Nat.succ_mul]
   omega
open Go.Maps (Keyed string_keyed int_keyed)
open Go.WideShapes Go.ChangeMaps Go.MapKept Go.WideMaps Go.ChangeAt Go.RowKit Go.ChangeShapes
theorem results_cell_twoF {P:Program} {fn:Func} {p u:Tmp} {ty:TypeId} (h:fn.results=#[.cell p ty,.tmp u]) (tmps:Array Value) (w:World) (g:Nat) (t:TypeId) (cs:Array Value) (fr:Nat × Nat) (d:TypeDesc)
  (hp:tmps.getD p undef=.pointer (some ⟨g,0,none⟩)) (hg:w.heap[g]?=some (.cells cs t fr))
  (hu:P.underlying ty=some d) (hd:(match d with|.struct _|.array _ _=>true|_=>false)=true) (hi:(P.info? ty).map (·.size)=some cs.size) :
  (results fn tmps).run P w=.ok (.tuple #[.agg cs,tmps.getD u undef]) w:=by
 have hp':tmps[p]?.getD undef=.pointer (some ⟨g,0,none⟩):=by simpa using hp
 simp [results,h,hp',asAddr,run_loadVar_row w g t ty cs fr d hg hu hd hi]
theorem RdFlat.sameF {g g':Nat->Prop} {w w':World} {f:FlatD} {a b c d:Value} (h:RdFlat (some g) w f a b c d) (k:∀ b,g b->b<w.heap.size->w'.heap[b]?=w.heap[b]?) (hg:∀ b,b<w.heap.size->g b->g' b):RdFlat (some g') w' f a b c d:=
 ⟨h.1.same k hg,h.2.1.same k hg,h.2.2.1.same k hg,h.2.2.2.1.same k hg,h.2.2.2.2⟩
theorem Pre.At.arrayed {q:Pre} {rg:Int} {sv:Value} {k0:Option Addr} {kc0:Nat} {R:List (Int × ByteArray)} {S:List ByteArray} {A:List Int} {x y:World} {xa:Option Addr} {xc:Nat} (n:Int) (h:q.At rg sv (.slice k0 A.length kc0) R S A x)
  (hT:Turned (fun k=>(Value.slice k0 A.length kc0).ownBlock=some k) x y) (hown:y.ownsRow q.c1 3 1 (.slice xa (A.length+1) xc) (A.length+1) (A.flatMap cellsInt ++ cellsInt n)) :
  q.At rg sv (.slice xa (A.length+1) xc) R S (A ++ [n]) (y.setCell ⟨q.M,9,none⟩ (.slice xa (A.length+1) xc)):=by
 have hsc:=setCell_turned y ⟨q.M,9,none⟩ (.slice xa (A.length+1) xc)
 have hnM:(Value.slice k0 A.length kc0).ownBlock ≠ some q.M:=own_ne_cells h.arrs h.hm (by decide)
 have hm1:y.heap[q.M]?=some (.cells (q.cells rg sv (.slice k0 A.length kc0)) 131 (0,0)):=(hT.block _ h.mlt hnM).trans h.hm
 have hnM':(Value.slice xa (A.length+1) xc).ownBlock ≠ some q.M:=own_ne_cells hown hm1 (by decide)
 have hnr:(Value.slice k0 A.length kc0).ownBlock ≠ some q.rb:=MkS.own_ne_regs h.arrs h.regs
 have hrg1:RegsIs y q.rb R:=h.regs.at (hT.block _ (MapG.lt h.regs) hnr)
 have hch1:RdStrs (some q.lo) y (.slice q.fc q.p.chans.length q.fk) q.p.chans:=Pre.strs_turn h.chs hT (fun b cs hb _ e=>by have:=(own_is h.arrs e).1;have:=hb.2;omega)
 have har1:=own_turn h.sites hT (fun k hk=>MkS.own_ne_own h.sites h.arrs (by decide) hk)
 have hb1:=below_then h.below hT h.below.size (fun i e=>Nat.le_trans h.c1.1 (own_is h.arrs e).1)
 refine ⟨below_then hb1 hsc hb1.size (fun i e=>by rw [e];exact h.lm),?_,hrg1.at (hsc.block _ (MapG.lt hrg1) (fun e=>MkS.regs_ne hrg1 hm1 e)),Pre.strs_turn hch1 hsc (fun b cs _ hb e=>?_),own_turn har1 hsc (fun k hk e=>own_ne_cells har1 hm1 (by decide) (by rw [hk,e])),?_,⟨h.c1.1,Nat.le_trans h.c1.2 (Nat.le_trans hT.size hsc.size)⟩,h.lm,h.lr,h.sok⟩
 ·rw [heap_setCell_same _ _ _ _ _ _ hm1]
  rfl
 ·have e':b=q.M:=e
  subst e'
  rw [hm1] at hb
  simp at hb
 ·have h1:=own_turn hown hsc (fun k hk e=>hnM' (by rw [hk,e]))
  rw [List.flatMap_append,List.length_append,List.length_singleton]
  simpa using h1
theorem Pre.At.counted {q:Pre} {rg:Int} {sv av:Value} {R:List (Int × ByteArray)} {S:List ByteArray} {A:List Int} {x:World} (n:Int) (h:q.At rg sv av R S A x):q.At n sv av R S A (x.setCell ⟨q.M,6,none⟩ (.int .i64 n)):=by
 have hsc:=setCell_turned x ⟨q.M,6,none⟩ (.int .i64 n)
 refine ⟨below_then h.below hsc h.below.size (fun i e=>by rw [e];exact h.lm),?_,h.regs.at (hsc.block _ (MapG.lt h.regs) (fun e=>MkS.regs_ne h.regs h.hm e)),Pre.strs_turn h.chs hsc (fun b cs _ hb e=>?_),own_turn h.sites hsc (fun k hk e=>own_ne_cells h.sites h.hm (by decide) (by rw [hk,e])),own_turn h.arrs hsc (fun k hk e=>own_ne_cells h.arrs h.hm (by decide) (by rw [hk,e])),⟨h.c1.1,Nat.le_trans h.c1.2 hsc.size⟩,h.lm,h.lr,h.sok⟩
 ·rw [heap_setCell_same _ _ _ _ _ _ h.hm]
  rfl
 ·have e':b=q.M:=e
  subst e'
  rw [h.hm] at hb
  simp at hb
def Made9 (W2:World) (p:ProgD) (ac:Option Addr) (kc:Nat) (aa:Option Addr) (ka:Nat) (af:Option Addr) (kf:Nat) (am:Option Addr) (km:Nat) (v:Value) (w:World):Prop:=∃ (M rb:Nat) (fc:Option Addr) (fk:Nat),v=.pointer (some ⟨M,0,none⟩)/\W2.heap.size<=M/\w.heap[M]?=some (.cells #[.int .i64 p.width,.slice ac p.chans.length kc,.slice aa p.arrays.length ka,.slice af p.funcs.length kf,.slice am p.main.length km,.int .i64 p.width,.int .i64 0,.slice fc p.chans.length fk,.slice none 0 0,.slice none 0 0,.slice none 0 0,.map (some rb)] 131 (0,0))/\RdStrs (some (upFrom W2.heap.size)) w (.slice fc p.chans.length fk) p.chans/\W2.heap.size<=rb/\w.heap[rb]?=some (.map #[] 0)
theorem flatOf_any (p:ProgD) (cv av fv mv:Value) (w:World) (h:RdProg none w p cv av fv mv) (hL:Laid w) :
  Calls Tryz.prog 41 #[progV p cv av fv mv] w fun e w'=>∃ c s a k,e=.returned (.tuple #[flatV (flatOf p).1 c s a k,.int .i64 (flatOf p).2])/\RdFlat (some (upFrom w.heap.size)) w' (flatOf p).1 c s a k/\Below w.heap.size w w':=by
 obtain ⟨ac,kc,rfl,-,-⟩:=id h.1
 obtain ⟨aa,ka,rfl,-,-⟩:=id h.2.1
 obtain ⟨af,kf,rfl,-,-⟩:=id h.2.2.1
 obtain ⟨am,km,rfl,-,-⟩:=id h.2.2.2.1
 obtain ⟨hx0,hx1,hb0⟩:=heap2_of (w:=w) (A:=.cells #[.int .i64 p.width,.slice ac p.chans.length kc,.slice aa p.arrays.length ka,.slice af p.funcs.length kf,.slice am p.main.length km] 27) (B:=.cells #[.int .i64 0,.int .i64 0,.slice none 0 0,.slice none 0 0,.slice none 0 0,.slice none 0 0] 62) (bR _ _)
 have H:=Hd (h.keep hb0)
 have HL:=Hd (hL.keep hb0)
 have HX0:=Hd hx0
 have HX1:=Hd hx1
 have HB0:=Hd hb0
 have hmm:=@run_makeMap Tryz.prog
 clear h hL hx0 hx1 hb0
 go_enter Tryz.func41,Tryz.ntmps41
 go_upto_region 1 with fail
 generalize (w.alloc (.cells #[.int .i64 p.width,.slice ac p.chans.length kc,.slice aa p.arrays.length ka,.slice af p.funcs.length kf,.slice am p.main.length km] 27)).alloc (.cells #[.int .i64 0,.int .i64 0,.slice none 0 0,.slice none 0 0,.slice none 0 0,.slice none 0 0] 62)=W at *
 obtain ⟨pb,hpb⟩:∃ pb,w.heap.size=pb:=⟨_,rfl⟩
 rw [hpb] at HX0 HX1
 rw [hpb]
 have HPB:=Hd hpb
 clear hpb
 have c0:=row_of HX0.out 0 (.int .i64 p.width) rfl
 have c1:=row_of HX0.out 1 (.slice ac p.chans.length kc) rfl
 have c2:=row_of HX0.out 2 (.slice aa p.arrays.length ka) rfl
 have c3:=row_of HX0.out 3 (.slice af p.funcs.length kf) rfl
 have c4:=row_of HX0.out 4 (.slice am p.main.length km) rfl
 have HLOC:=Hd (fun (z:World) (hz:Below W.heap.size W z) (f:Int) (hf:InI64 f)=>locals_any p _ _ _ _ f z (H.out.keep hz) (HL.out.keep hz) hf)
 cases hc:checkF p with
 | some F=>
  have HFO:=Hd (flatOf_fault hc)
  have hF:=check_fault hc
  have hFe:(F.e != 0)=true:=by unfold FaultOf at hF;simp;omega
  have hl:=HLOC.out W (bR _ _) (-1) i64_m1
  rw [locals_bad hc] at hl
  have HL1:=Hd hl
  clear hl hc hF HLOC H HL hmm
  go_wp2_with (first|(go_at_call 70;refine HL1.out.mono ?_;rintro e z ⟨v,rfl,hrd,hz⟩;obtain ⟨al,kl,rfl,_⟩:=id hrd;have BZ:=Hd hz;have HXz:=Hd ((hz.block (pb+1) (aE HX1.out).1).trans HX1.out);clear hrd hz)|(refine wpList_store_row rfl 62 (.tmp 2) (.tmp 20) rfl (pb+1) #[.int .i64 0,.int .i64 0,.slice none 0 0,.slice none 0 0,.slice none 0 0,.slice none 0 0] rfl rfl 62 #[.int .i64 0,.int .i64 0,.slice none 0 0,.slice none 0 0,.slice none 0 0,.slice none 0 0] ?hs0 (by as_aux_lemma=>kernel_rfl) (by as_aux_lemma=>kernel_rfl) (by as_aux_lemma=>kernel_rfl) ?_;exact HXz.out))
  have HBz:=Hd (bcomp HB0.out BZ.out)
  refine bodyPost_ret (v:=.tuple #[.agg #[.int .i64 0,.int .i64 0,.slice none 0 0,.slice none 0 0,.slice none 0 0,.slice none 0 0],.int .i64 F.e]) ?_ rfl ⟨.slice none 0 0,.slice none 0 0,.slice none 0 0,.slice none 0 0,by rw [HFO.out];rfl,by rw [HFO.out];exact rdFlat_zero _ _,below_row HBz.out (by have:=HPB.out;omega) _⟩
  try simp only [Act.put]
  exact results_cell_twoF (P:=Tryz.prog) (fn:=Tryz.f41) rfl _ _ (pb+1) 62 #[.int .i64 0,.int .i64 0,.slice none 0 0,.slice none 0 0,.slice none 0 0,.slice none 0 0] (0,0) _ rfl (setRow_heap _ _ _ _ _ _ HXz.out) Tryz.underlying62 rfl (by kernel_rfl)
 | none=>
  have hW:=wfP_of hc
  have hl:=HLOC.out W (bR _ _) (-1) i64_m1
  rw [locals_main hc] at hl
  have HL1:=Hd hl
  have HC:=Hd hc
  have HW:=Hd hW
  clear hl hc hW
  go_upto_region 4 with (go_at_call 70;refine HL1.out.mono ?_;rintro e W2 ⟨v,rfl,hrd,hz⟩;obtain ⟨al,kl,rfl,_⟩:=id hrd;have HRDL:=Hd hrd;have BZ:=Hd hz;clear hrd hz)
  clear HL1 c0 c1 c2 c3 c4
  obtain ⟨L0,hL0⟩:∃ L0,localsL [] p.main []=L0:=⟨_,rfl⟩
  rw [hL0] at HRDL
  rw [hL0]
  have HL0:=Hd hL0
  clear hL0
  have H2:=Hd (H.out.keep BZ.out)
  have HLD2:=Hd (HL.out.keep BZ.out)
  have HLC2:=Hd (fun (z:World) (hz:Below W2.heap.size W2 z) (f:Int) (hf:InI64 f)=>HLOC.out z (bcomp BZ.out hz) f hf)
  have HP2:=Hd ((BZ.out.block pb (aE HX0.out).1).trans HX0.out)
  have HR2:=Hd ((BZ.out.block (pb+1) (aE HX1.out).1).trans HX1.out)
  have HB2:=Hd (bcomp HB0.out BZ.out)
  have HCL:Hid (∀ z,Below W2.heap.size W2 z->Calls Tryz.prog 71 #[.slice ac p.chans.length kc] z fun e w'=>∃ v,e=.returned v/\w'.ownsRow z.heap.size 9 1 v p.chans.length (p.chans.flatMap cellsStr)/\RdRow kStr (some (upFrom z.heap.size)) w' v p.chans/\Below z.heap.size z w'):=fun z hz=>cloneStr _ p.chans z (row_of_strs ((H2.out.keep hz).1))
  clear H HL HLOC HX0 HX1 BZ HB0
  have HCS:Hid (∀ s ∈ p.chans,s.size<=maxLen):=fun s hs=>by
   obtain ⟨i,hi⟩:=List.getElem?_of_mem hs
   obtain ⟨_,_,_,_,hr⟩:=H2.out.1
   obtain ⟨_,_,_,_,_,hz⟩:=hr i s hi
   exact hz
  have HCN:Hid (p.chans.length<=32):=HW.out.chl
  refine wp_region_own [0,1,2,3,4] [⟨5,some 27,[]⟩,⟨6,some 28,[(5,some 27)]⟩,⟨7,some 29,[]⟩,⟨8,some 30,[(6,some 28),(7,some 29)]⟩,⟨9,some 31,[(8,some 30)]⟩] [10] [_] (fun j=>decide (10<=j))
   (fun j v w lo hi=>match j with
     | 5=>∃ fc fk,v=.slice fc p.chans.length fk/\RdStrs (some (upFrom W2.heap.size)) w (.slice fc p.chans.length fk) p.chans
     | 6=>∃ fc fk,v=.agg #[.int .i64 p.width,.int .i64 0,.slice fc p.chans.length fk,.slice none 0 0,.slice none 0 0,.slice none 0 0]/\RdStrs (some (upFrom W2.heap.size)) w (.slice fc p.chans.length fk) p.chans
     | 7=>∃ rb:Nat,v=.map (some rb)/\W2.heap.size<=rb/\w.heap[rb]?=some (.map #[] 0)
     | 8=>∃ rb fc fk,v=.agg #[.int .i64 p.width,.slice ac p.chans.length kc,.slice aa p.arrays.length ka,.slice af p.funcs.length kf,.slice am p.main.length km,.int .i64 p.width,.int .i64 0,.slice fc p.chans.length fk,.slice none 0 0,.slice none 0 0,.slice none 0 0,.map (some rb)]/\RdStrs (some (upFrom W2.heap.size)) w (.slice fc p.chans.length fk) p.chans/\W2.heap.size<=rb/\w.heap[rb]?=some (.map #[] 0)
     | 9=>Made9 W2 p ac kc aa ka af kf am km v w
     | _=>True) (by kernel_rfl) (by kernel_rfl) rfl (by kernel_rfl) rfl rfl (fun _ d _ _ _ h=>by cases d <;> exact h) ?_ ?_
  ·intro j v w w' lo hi hy hbw
   have hk:∀ {b:Nat} {o:Obj},w.heap[b]?=some o->w'.heap[b]?=some o:=fun h=>(hbw.block _ (aE h).1).trans h
   match j,hy with
   | 5,⟨a,b,e,h1⟩=>exact ⟨a,b,e,h1.keep hbw⟩
   | 6,⟨a,b,e,h1⟩=>exact ⟨a,b,e,h1.keep hbw⟩
   | 7,⟨a,e,l,h1⟩=>exact ⟨a,e,l,hk h1⟩
   | 8,⟨a,b,c,e,h1,l,h2⟩=>exact ⟨a,b,c,e,h1.keep hbw,l,hk h2⟩
   | 9,⟨a,b,c,d,e,l,h0,h1,l2,h2⟩=>exact ⟨a,b,c,d,e,l,hk h0,h1.keep hbw,l2,hk h2⟩
   | 0,_|1,_|2,_|3,_|4,_|(x+10),_=>trivial
  have l0:=ext_cell (row_of HP2.out 0 (.int .i64 p.width) rfl)
  have l1:=ext_cell (row_of HP2.out 1 (.slice ac p.chans.length kc) rfl)
  have l2:=ext_cell (row_of HP2.out 2 (.slice aa p.arrays.length ka) rfl)
  have l3:=ext_cell (row_of HP2.out 3 (.slice af p.funcs.length kf) rfl)
  have l4:=ext_cell (row_of HP2.out 4 (.slice am p.main.length km) rfl)
  refine mix_reads (by simp only [opsOf,List.filterMap_cons,List.filterMap_nil,List.getElem?_toArray,List.getElem?_cons_succ,List.getElem?_cons_zero];rfl) ⟨_,ext_of (bR _ _).drew⟩ ?_
  change wpQuiet _ _ _ _ [_,_,_,_,_] _
  (repeat (go_big_quiet_step (fail)))
  refine wpQuiet_nil ?_
  clear l0 l1 l2 l3 l4
  have HD:Hid (Below W2.heap.size W2 W2.drew):=(bR _ _).drew
  refine ⟨⟨fun vs wn hb hn=>?_,fun vs wn hb hn=>?_,fun vs wn hb hn=>?_,fun vs wn hb hn=>?_,fun vs wn hb hn=>?_,trivial⟩,fun vs wn hb hy hd=>?_⟩
  ·clear hn
   have HBN:=Hd (bcomp HD.out hb)
   clear hb
   refine mix_step rfl ?_
   simp only [pv]
   go_wp2_with (go_at_call 71;refine (HCL.out _ HBN.out).mono ?_;rintro e wz ⟨v,rfl,ho,hr,hz⟩)
   obtain ⟨fc,fk,rfl,_⟩:=own_read ho
   refine ⟨_,rfl,hz,fc,fk,rfl,own_strs (own_upF ho HBN.out.size) (by have:=HCN.out;omega) HCS.out⟩
  ·obtain ⟨fc,fk,e,hr⟩:=hn (5,some 27) (by simp)
   clear hn
   refine mix_step rfl ?_
   simp only [pv]
   rw [e]
   go_wp2_with fail
   exact ⟨_,rfl,bR _ _,fc,fk,rfl,hr⟩
  ·clear hn
   refine mix_step rfl ?_
   simp only [pv]
   go_wp2_with fail
   exact ⟨_,rfl,(bR _ _).alloc (nR _) _,wn.heap.size,rfl,(bcomp HD.out hb).size,heap_alloc_new _ _⟩
  ·obtain ⟨fc,fk,e,hr⟩:=hn (6,some 28) (by simp)
   obtain ⟨rb,e2,l2,hm⟩:=hn (7,some 29) (by simp)
   clear hn
   refine mix_step rfl ?_
   simp only [pv]
   rw [e,e2]
   go_wp2_with fail
   exact ⟨_,rfl,bR _ _,rb,fc,fk,rfl,hr,l2,hm⟩
  ·obtain ⟨rb,fc,fk,e,hr,l2,hm⟩:=hn (8,some 30) (by simp)
   clear hn
   refine mix_step rfl ?_
   simp only [pv]
   rw [e]
   go_wp2_with fail
   have hal:=(bR wn.heap.size wn).alloc (nR _) (.cells #[.int .i64 p.width,.slice ac p.chans.length kc,.slice aa p.arrays.length ka,.slice af p.funcs.length kf,.slice am p.main.length km,.int .i64 p.width,.int .i64 0,.slice fc p.chans.length fk,.slice none 0 0,.slice none 0 0,.slice none 0 0,.map (some rb)] 131)
   exact ⟨_,rfl,hal,wn.heap.size,rb,fc,fk,rfl,(bcomp HD.out hb).size,heap_alloc_new _ _,hr.keep hal,l2,(hal.block _ (aE hm).1).trans hm⟩
  obtain ⟨⟨M,rb,fc,fk,em,lM,hM,hr,lR,hR⟩,-⟩:=hy ⟨9,some 31,[(8,some 30)]⟩ (by simp)
  have HBN:=Hd (bcomp HD.out hb)
  clear hy hd hb HCL
  simp only [List.map,Maker.pr,pv]
  have em':(vs 9).1=.pointer (some ⟨M,0,none⟩):=em
  rw [em']
  clear em em'
  simp only [Act.put,List.setIfInBounds_toArray,List.set_cons_succ,List.set_cons_zero,List.getElem_toArray,List.getElem_cons_succ,List.getElem_cons_zero]
  have HAT0:Hid (Pre.At ⟨W2,wn.heap.size,M,rb,p,ac,kc,aa,ka,af,kf,am,km,fc,fk⟩ 0 (.slice none 0 0) (.slice none 0 0) [] [] [] wn):=
   ⟨HBN.out,hM,MapG.fresh hR,by
     refine RdStrs.map (S:=fun T=>T=9) (fun T b hT hb hf=>?_) (fun T b o u hT hf hc=>hc) rfl hr
     obtain ⟨h1,cs,h2⟩:=hf _ rfl
     exact Free.of (g:=Pre.lo ⟨W2,wn.heap.size,M,rb,p,ac,kc,aa,ka,af,kf,am,km,fc,fk⟩) ⟨h1,hb⟩ h2,World.ownsRow_nil _ _ _ _,World.ownsRow_nil _ _ _ _,⟨HBN.out.size,nR _⟩,lM,lR,fun s hs=>by cases hs⟩
  obtain ⟨c1,hc1⟩:∃ c1,wn.heap.size=c1:=⟨_,rfl⟩
  rw [hc1] at HAT0
  clear hM hr lR hR lM hc1 HD
  have hpbl:pb<W2.heap.size:=(aE HP2.out).1
  have m2:=row_of ((HBN.out.block pb hpbl).trans HP2.out) 2 (.slice aa p.arrays.length ka) rfl
  go_wp2_with fail
  go_loopw [35] (fun i wr=>∃ (k:Nat) (av1:Value),k<=p.arrays.length/\i=.int .i64 k/\Pre.At ⟨W2,c1,M,rb,p,ac,kc,aa,ka,af,kf,am,km,fc,fk⟩ 0 (.slice none 0 0) av1 [] [] ((p.arrays.map (·.size)).take k) wr) (fun i _=>p.arrays.length - (intOf i).toNat)
  case atStart=>exact ⟨0,.slice none 0 0,Nat.zero_le _,rfl,by simpa using HAT0.out⟩
  case round=>
   clear HAT0 m2
   obtain ⟨wo,rfl⟩:∃ x:World,x=wr:=⟨_,rfl⟩
   obtain ⟨k,av1,hk,rfl,hat⟩:=hrel
   by_cases hlt:k<p.arrays.length
   rotate_left
   ·obtain rfl:k=p.arrays.length:=by omega
    have hlt1:¬ (p.arrays.length:Int)<(p.arrays.length:Int):=by omega
    have hA:(p.arrays.map (·.size)).take p.arrays.length=p.arrays.map (·.size):=List.take_of_length_le (by simp)
    rw [hA] at hat
    have HAT:=Hd hat
    clear hat hA
    have hHC:=HC.out
    have hplen:=placesP_len hHC
    have hpnd:=placesP_nodup HW.out
    have hL0n:(([]:List (Int × ByteArray)) ++ placesOf (-1) L0).Nodup:=by
     rw [List.nil_append,<- HL0.out]
     exact placesOf_nodup (localsL_nodup p.main [] List.nodup_nil (fun t ht=>by cases ht)).1
    have hL0l:L0.length<=2000000:=by
     have e:placesP p=placesOf (-1) L0 ++ placesF 0 p.funcs:=by unfold placesP;rw [HL0.out]
     rw [e,List.length_append] at hplen
     unfold placesOf at hplen
     rw [List.length_map] at hplen
     omega
    have HREG:=Hd (Pre.register_any ⟨W2,c1,M,rb,p,ac,kc,aa,ka,af,kf,am,km,fc,fk⟩ 0 (.slice none 0 0) av1 [] [] (p.arrays.map (·.size)) (-1) _ L0 wo HAT.out ((HRDL.out.keep HAT.out.below).forget) i64_m1 hL0n (by simp;omega))
    rw [List.nil_append] at HREG
    clear HAT hL0n hL0l hplen hpnd hHC
    go_upto_region 11 with (go_at_call 72;refine HREG.out.mono ?_;rintro e W5 ⟨rfl,hat5,-,-⟩;have HAT5:=Hd hat5;clear hat5)
    clear HREG
    have hpbl:pb<W2.heap.size:=(aE HP2.out).1
    have m3:=row_of ((HAT5.out.below.block pb hpbl).trans HP2.out) 3 (.slice af p.funcs.length kf) rfl
    go_wp2_with fail
    go_loopw [59] (fun i wr=>∃ (k:Nat) (sv1:Value),k<=p.funcs.length/\i=.int .i64 k/\Pre.At ⟨W2,c1,M,rb,p,ac,kc,aa,ka,af,kf,am,km,fc,fk⟩ 0 sv1 av1 (placesOf (-1) L0 ++ placesF 0 (p.funcs.take k)) (sitesOf [] (codesOf (p.funcs.take k))) (p.arrays.map (·.size)) wr) (fun i _=>p.funcs.length - (intOf i).toNat)
    case atStart=>exact ⟨0,.slice none 0 0,Nat.zero_le _,rfl,by simpa [placesF,codesOf,sitesOf] using HAT5.out⟩
    case round=>
     clear HAT5 m3
     obtain ⟨wf,rfl⟩:∃ x:World,x=wr:=⟨_,rfl⟩
     obtain ⟨k,sv1,hk,rfl,hat⟩:=hrel
     by_cases hlt:k<p.funcs.length
     rotate_left
     ·obtain rfl:k=p.funcs.length:=by omega
      have hlt1:¬ (p.funcs.length:Int)<(p.funcs.length:Int):=by omega
      rw [List.take_length] at hat
      have HAT:=Hd hat
      clear hat
      have hR:placesOf (-1) L0 ++ placesF 0 p.funcs=placesP p:=by unfold placesP;rw [HL0.out]
      rw [hR] at HAT
      have hS0:(sitesOf [] (codesOf p.funcs)).length+p.main.length<=1000000:=by
       have h1:=Pre.sites_lenE [] (codesOf p.funcs)
       have h2:=codes_len HC.out p.funcs.length
       rw [List.take_length] at h2
       have h3:=HW.out.fl
       have h4:=(check_none HC.out).1.1
       simp only [List.length_nil] at h1
       omega
      have HG3:=Hd (Pre.site_any ⟨W2,c1,M,rb,p,ac,kc,aa,ka,af,kf,am,km,fc,fk⟩ 0 sv1 av1 (placesP p) (sitesOf [] (codesOf p.funcs)) (p.arrays.map (·.size)) _ p.main wf HAT.out H2.out.2.2.2.1 hS0)
      rw [show sitesOf (sitesOf [] (codesOf p.funcs)) p.main=sitesAllF p from by unfold sitesAllF;rw [sitesOf_append]] at HG3
      have hpbl:pb<W2.heap.size:=(aE HP2.out).1
      have d4:=row_of ((HAT.out.below.block pb hpbl).trans HP2.out) 4 (.slice am p.main.length km) rfl
      clear hR hS0
      go_upto_region 20 with (go_at_call 73;refine HG3.out.mono ?_;rintro e W7 ⟨rfl,sv7,hat7⟩;have HAT7:=Hd hat7;clear hat7)
      clear d4 HG3 HAT
      obtain ⟨rg,hrg⟩:∃ n:Int,((placesP p).length:Int)=n:=⟨_,rfl⟩
      have HRG:=Hd hrg
      have hlen:=MapG.len HAT7.out.regs Tryz.underlying129 3
      rw [regFrom_length,hrg] at hlen
      have m11:W7.cell? ⟨M,11,none⟩=some (.map (some rb)):=row_of HAT7.out.hm 11 _ rfl
      have m6:W7.cell? ⟨M,6,none⟩=some (.int .i64 0):=row_of HAT7.out.hm 6 _ rfl
      have f6:W7.frozen? ⟨M,6,none⟩=false:=frozen_of_row W7 M 6 _ _ HAT7.out.hm
      clear hrg
      go_upto_region 21 with fail
      clear hlen m11 m6 f6
      have HAT8:=Hd (HAT7.out.counted rg)
      clear HAT7
      generalize W7.setCell ⟨M,6,none⟩ (.int .i64 rg)=W8 at *
      obtain ⟨sa,sk,rfl,_⟩:=own_read HAT8.out.sites
      obtain ⟨ra,rk,rfl,_⟩:=own_read HAT8.out.arrs
      have hal:(p.arrays.map (·.size)).length=p.arrays.length:=by simp
      have hHC:=HC.out
      have HMO:Hid (MkS.Ok ⟨W2,M,rb,envOf p,ac,kc,aa,ka,af,kf,am,km,fc,fk,sa,sk,ra,rk,rg⟩):=⟨H2.out,HLD2.out,hHC,placesP_nodup HW.out,placesP_len hHC,HW.out.wd⟩
      have HMA:Hid (MkS.At ⟨W2,M,rb,envOf p,ac,kc,aa,ka,af,kf,am,km,fc,fk,sa,sk,ra,rk,rg⟩ (.slice none 0 0) [] W8):=
       ⟨HAT8.out.below,by have:=HAT8.out.hm;rw [hal] at this;exact this,World.ownsRow_nil _ _ _ _,(fun c hc=>by cases hc),HAT8.out.regs,own_upF HAT8.out.sites HAT8.out.c1.1,HAT8.out.sok,by have:=HW.out.sites;show (sitesAllF p).length<=_;omega,HAT8.out.lm⟩
      have HBC:Hid (BodyC ⟨W2,M,rb,envOf p,ac,kc,aa,ka,af,kf,am,km,fc,fk,sa,sk,ra,rk,rg⟩ (p.funcs.length+1) (-1)):=body_any _ HMO.out (small_of hHC) (kinds_of H2.out hHC) (p.funcs.length+1) (by have:=HW.out.fl;omega) (-1) (.inl rfl) (fits_main HW.out)
      have HBD:=Hd (HBC.out 0 (.slice none 0 0) [] W8 i64_0 HMA.out (by simp))
      clear HBC hal hHC
      go_upto_region 22 with (go_at_call 74;refine HBD.out.mono ?_;rintro e W9 ⟨rfl,kv9,hat9,hgr9⟩;have HAT9:=Hd hat9;have HGR9:=Hd hgr9;clear hat9 hgr9)
      clear HBD
      have hcode:EnvF.body (envOf p) (p.funcs.length+1) (-1) 0 []=codeF25 p:=rfl
      have hat9:=HAT9.out
      rw [hcode] at hat9
      obtain ⟨ka9,kc9,rfl⟩:=mk_slice hat9
      have m10:=hat9.c10
      have HAT:=Hd hat9
      have HRR:Hid (W9.heap[pb+1]?=some (.cells #[.int .i64 0,.int .i64 0,.slice none 0 0,.slice none 0 0,.slice none 0 0,.slice none 0 0] 62 (0,0))):=(HAT.out.below.block (pb+1) (aE HR2.out).1).trans HR2.out
      have HB9:=Hd (bcomp HB2.out HAT.out.below)
      clear hat9 hcode HAT9
      by_cases hbig:4096<(codeF25 p).length
      ·have HFO:Hid (flatOf p=(zeroFlat,5)):=by
        show _=_
        unfold flatOf
        rw [HC.out]
        simp only
        rw [if_pos hbig]
       have hbi:(4096:Int)<((codeF25 p).length:Int):=by omega
       clear hbig
       go_wp2_with (refine wpList_store_row rfl 62 (.tmp 2) (.tmp 106) rfl (pb+1) #[.int .i64 0,.int .i64 0,.slice none 0 0,.slice none 0 0,.slice none 0 0,.slice none 0 0] rfl rfl 62 #[.int .i64 0,.int .i64 0,.slice none 0 0,.slice none 0 0,.slice none 0 0,.slice none 0 0] ?hs2 (by as_aux_lemma=>kernel_rfl) (by as_aux_lemma=>kernel_rfl) (by as_aux_lemma=>kernel_rfl) ?_;exact HRR.out)
       refine bodyPost_ret (v:=.tuple #[.agg #[.int .i64 0,.int .i64 0,.slice none 0 0,.slice none 0 0,.slice none 0 0,.slice none 0 0],.int .i64 5]) ?_ rfl ⟨.slice none 0 0,.slice none 0 0,.slice none 0 0,.slice none 0 0,by rw [HFO.out];rfl,by rw [HFO.out];exact rdFlat_zero _ _,below_row HB9.out (by have:=HPB.out;omega) _⟩
       try simp only [Act.put]
       exact results_cell_twoF (P:=Tryz.prog) (fn:=Tryz.f41) rfl _ _ (pb+1) 62 #[.int .i64 0,.int .i64 0,.slice none 0 0,.slice none 0 0,.slice none 0 0,.slice none 0 0] (0,0) _ rfl (setRow_heap _ _ _ _ _ _ HRR.out) Tryz.underlying62 rfl (by kernel_rfl)
      ·have HFO:Hid (flatOf p=(⟨p.width,(placesP p).length,p.chans,sitesAllF p,p.arrays.map (·.size),codeF25 p⟩,0)):=by
        show _=_
        unfold flatOf
        rw [HC.out]
        simp only
        rw [if_neg hbig]
       have hbi:¬ (4096:Int)<((codeF25 p).length:Int):=by omega
       have m5:=HAT.out.c5
       have m6:=HAT.out.c6
       have m7:=HAT.out.c7
       have m8:=HAT.out.c8
       have m9:=HAT.out.c9
       have HCF:Hid (RdFlat (some (upFrom W2.heap.size)) W9 ⟨p.width,(placesP p).length,p.chans,sitesAllF p,p.arrays.map (·.size),codeF25 p⟩ (.slice fc p.chans.length fk) (.slice sa (sitesAllF p).length sk) (.slice ra (p.arrays.map (·.size)).length rk) (.slice ka9 (codeF25 p).length kc9)):=by
        have hT:=HGR9.out.1
        have h1:=Pre.strs_turn HAT8.out.chs hT (fun b cs hb hq9 e=>by
         rcases e with e|e
         ·have e':b=M:=e
          have hm9:W8.heap[M]?=_:=HAT8.out.hm
          rw [e',hm9] at hq9
          simp at hq9
         ·simp [Value.ownBlock] at e)
        have h2:=(row_of_strs h1).same (g':=upFrom W2.heap.size) (fun _ _ _=>rfl) (fun b _ hb=>hb.1)
        have h3:=own_turn HAT8.out.arrs hT (fun k hk e=>by
         rcases e with e|e
         ·exact own_ne_cells HAT8.out.arrs HAT8.out.hm (by decide) (by rw [hk];exact congrArg some e)
         ·simp [Value.ownBlock] at e)
        have hc1:=HAT8.out.c1.1
        have har:(p.arrays.map (·.size)).length<=32:=by rw [List.length_map];exact HW.out.arl
        have hsl:=HW.out.sites
        have h4:=own_rows (K:=kInt) (own_upF h3 hc1) (by show _ * 8<=_;omega) (fun n hn=>by
         obtain ⟨a,ha,rfl⟩:=List.mem_map.1 hn
         have:=HW.out.ars a ha
         show InI64 _
         unfold InI64;omega)
        have h5:=own_rows (K:=kStr) HAT.out.sites (by show (sitesAllF p).length * 16<=_;omega) HAT.out.sok
        have h6:=own_rows (K:=kCode) HAT.out.own (by show _ * 56<=_;omega) HAT.out.ok
        have hpl:=placesP_len HC.out
        have hwd:=HW.out.wd
        exact ⟨h2,h5,h4,h6,by show InI64 p.width;unfold InI64;omega,by show InI64 ((placesP p).length:Int);unfold InI64;omega⟩
       have hal:(p.arrays.map (·.size)).length=p.arrays.length:=by simp
       rw [hal] at HCF
       clear hbig hal HAT HGR9 HAT8 HMA HMO
       go_wp2_with (refine wpList_store_row rfl 62 (.tmp 2) (.tmp 110) rfl (pb+1) #[.int .i64 p.width,.int .i64 rg,.slice fc p.chans.length fk,.slice sa (sitesAllF p).length sk,.slice ra p.arrays.length rk,.slice ka9 (codeF25 p).length kc9] rfl rfl 62 #[.int .i64 0,.int .i64 0,.slice none 0 0,.slice none 0 0,.slice none 0 0,.slice none 0 0] ?hs3 (by as_aux_lemma=>kernel_rfl) (by as_aux_lemma=>kernel_rfl) (by as_aux_lemma=>kernel_rfl) ?_;exact HRR.out)
       have hpb2:pb+1<W2.heap.size:=(aE HR2.out).1
       have hw2:w.heap.size<=W2.heap.size:=HB2.out.size
       refine bodyPost_ret (v:=.tuple #[.agg #[.int .i64 p.width,.int .i64 rg,.slice fc p.chans.length fk,.slice sa (sitesAllF p).length sk,.slice ra p.arrays.length rk,.slice ka9 (codeF25 p).length kc9],.int .i64 0]) ?_ rfl ⟨.slice fc p.chans.length fk,.slice sa (sitesAllF p).length sk,.slice ra p.arrays.length rk,.slice ka9 (codeF25 p).length kc9,by rw [HFO.out,<- HRG.out],by
        rw [HFO.out]
        exact HCF.out.sameF (g':=upFrom w.heap.size) (fun b hb _=>setRow_other _ _ _ _ (by have:W2.heap.size<=b:=hb;omega)) (fun b _ hb=>Nat.le_trans hw2 hb),below_row HB9.out (by have:=HPB.out;omega) _⟩
       try simp only [Act.put]
       exact results_cell_twoF (P:=Tryz.prog) (fn:=Tryz.f41) rfl _ _ (pb+1) 62 #[.int .i64 p.width,.int .i64 rg,.slice fc p.chans.length fk,.slice sa (sitesAllF p).length sk,.slice ra p.arrays.length rk,.slice ka9 (codeF25 p).length kc9] (0,0) _ rfl (setRow_heap _ _ _ _ _ _ HRR.out) Tryz.underlying62 rfl (by kernel_rfl)
     obtain ⟨x,hx⟩:∃ x,p.funcs[k]?=some x:=⟨_,lG hlt⟩
     obtain ⟨rest,hsp⟩:=places_split hx
     have hnd:=placesP_nodup HW.out
     have hpl:=placesP_len HC.out
     rw [hsp,HL0.out] at hnd hpl
     have hR2:=HW.out.fs x (List.mem_of_getElem? hx)
     have hki:InI64 (k:Int):=by have:=HW.out.fl;unfold InI64;omega
     have hcl:=codes_len HC.out k
     have hxl:x.code.length<=1024:=((check_none HC.out).2 x (List.mem_of_getElem? hx)).2.1
     have hnx1:placesF 0 (p.funcs.take (k+1))=placesF 0 (p.funcs.take k) ++ (placesOf k x.params ++ placesOf k (localsL x.params x.code [])):=by
      have hl:(p.funcs.take k).length=k:=by rw [List.length_take];omega
      rw [List.take_add_one,hx]
      show placesF 0 (p.funcs.take k ++ [x])=_
      rw [placesF_snoc,hl,Nat.zero_add]
      rfl
     have hnx2:sitesOf [] (codesOf (p.funcs.take (k+1)))=sitesOf (sitesOf [] (codesOf (p.funcs.take k))) x.code:=by rw [codes_take hx,sitesOf_append]
     unfold funPlaces at hnd hpl
     obtain ⟨R1,hR1⟩:∃ R1,placesOf (-1) L0 ++ placesF 0 (p.funcs.take k)=R1:=⟨_,rfl⟩
     obtain ⟨S1,hS1⟩:∃ S1,sitesOf [] (codesOf (p.funcs.take k))=S1:=⟨_,rfl⟩
     obtain ⟨L1,hL1⟩:∃ L1,localsL x.params x.code []=L1:=⟨_,rfl⟩
     have hS1l:S1.length<=100000:=by
      have h1:=Pre.sites_lenE [] (codesOf (p.funcs.take k))
      rw [hS1] at h1
      have h2:=HW.out.fl
      simp only [List.length_nil] at h1
      omega
     rw [hR1] at hnd hpl hat
     rw [hS1] at hat hnx2
     rw [hL1] at hnd hpl hnx1
     have HNX:Hid (placesOf (-1) L0 ++ placesF 0 (p.funcs.take (k+1))=R1 ++ placesOf k x.params ++ placesOf k L1/\sitesOf [] (codesOf (p.funcs.take (k+1)))=sitesOf S1 x.code):=⟨by rw [hnx1,<- List.append_assoc,hR1,List.append_assoc],hnx2⟩
     have hlf:=locals_fn HC.out hx
     rw [hL1] at hlf
     have HLF:=Hd hlf
     simp only [<- List.append_assoc] at hnd hpl
     have hn1:(R1 ++ placesOf k x.params).Nodup:=(hnd.sublist (by rw [List.append_assoc];exact List.sublist_append_left _ _))
     have hn2:(R1 ++ placesOf k x.params ++ placesOf k L1).Nodup:=hnd.sublist (List.sublist_append_left _ _)
     have hll:R1.length+x.params.length+L1.length<=2000000:=by
      simp only [List.length_append] at hpl
      unfold placesOf at hpl
      simp only [List.length_map] at hpl
      omega
     have hklt:(k:Int)<(p.funcs.length:Int):=by omega
     obtain ⟨a',c',e',_,hrr⟩:=H2.out.2.2.1
     simp only [Value.slice.injEq] at e'
     obtain ⟨bx,ox,pv,kv,e2,_,i0,i1,i2,i3,i4,hri⟩:=hrr k x hx
     have e3:af=some ⟨bx,ox,none⟩:=e'.1.trans e2
     obtain ⟨pa,pk,rfl,_⟩:=id hri.1
     obtain ⟨ka2,kk2,rfl,_⟩:=id hri.2.1
     have HRI:=Hd hri
     have j0:=cell_keep hat.below i0
     have j1:=cell_keep hat.below i1
     have j2:=cell_keep hat.below i2
     have j3:=cell_keep hat.below i3
     have j4:=cell_keep hat.below i4
     have hal:=(bR wf.heap.size wf).alloc (nR _) (.cells #[.string x.name,.slice pa x.params.length pk,.slice ka2 x.code.length kk2,.int .i64 x.line,.int .i64 x.col] 52)
     have HX:=Hd (heap_alloc_new wf (.cells #[.string x.name,.slice pa x.params.length pk,.slice ka2 x.code.length kk2,.int .i64 x.line,.int .i64 x.col] 52))
     have HAT:=Hd (hat.keep hal)
     have HKI:=Hd hki
     have HN1:=Hd hn1
     have HN2:=Hd hn2
     have HLL:=Hd hll
     have HSL:Hid (S1.length+x.code.length<=1000000):=by show _<=_;omega
     subst e3
     clear hat hrr hx hsp hnd hpl hR2 hki hcl hxl hnx1 hnx2 hR1 hS1 hL1 hS1l hlf hn1 hn2 hll e' e2 hri hal i0 i1 i2 i3 i4
     go_upto_region 14 with fail
     generalize wf.alloc (.cells #[.string x.name,.slice pa x.params.length pk,.slice ka2 x.code.length kk2,.int .i64 x.line,.int .i64 x.col] 52)=W6 at *
     obtain ⟨xb,hxb⟩:∃ xb,wf.heap.size=xb:=⟨_,rfl⟩
     rw [hxb] at HX
     rw [hxb]
     clear hxb j0 j1 j2 j3 j4
     have hpbl:pb<W2.heap.size:=(aE HP2.out).1
     have HPP:=Hd ((HAT.out.below.block pb hpbl).trans HP2.out)
     have c0:=row_of HPP.out 0 (.int .i64 p.width) rfl
     have c1':=row_of HPP.out 1 (.slice ac p.chans.length kc) rfl
     have c2:=row_of HPP.out 2 (.slice aa p.arrays.length ka) rfl
     have c3:=row_of HPP.out 3 (.slice (some ⟨bx,ox,none⟩) p.funcs.length kf) rfl
     have c4:=row_of HPP.out 4 (.slice am p.main.length km) rfl
     have hl:=HLC2.out W6 HAT.out.below k HKI.out
     rw [HLF.out] at hl
     have HLO:=Hd hl
     clear hl
     go_upto_region 15 with (go_at_call 70;refine HLO.out.mono ?_;rintro e z ⟨v,rfl,hrd,hz⟩;obtain ⟨al2,kl2,rfl,_⟩:=id hrd;have HRD:=Hd hrd;have BZ:=Hd hz;clear hrd hz)
     clear c0 c1' c2 c3 c4 HLO HPP
     have HATz:=Hd (HAT.out.keep BZ.out)
     have HXz:=Hd ((BZ.out.block xb (aE HX.out).1).trans HX.out)
     have d1:=row_of HXz.out 1 (.slice pa x.params.length pk) rfl
     have HG1:=Hd (Pre.register_any ⟨W2,c1,M,rb,p,ac,kc,aa,ka,some ⟨bx,ox,none⟩,kf,am,km,fc,fk⟩ 0 sv1 av1 R1 S1 (p.arrays.map (·.size)) k _ x.params z HATz.out (HRI.out.1.keep HATz.out.below) HKI.out HN1.out (by have:=HLL.out;omega))
     go_upto_region 16 with (go_at_call 72;refine HG1.out.mono ?_;rintro e z2 ⟨rfl,hat5,hk5,ht5⟩;have HAT5:=Hd hat5;have HK5:=Hd hk5;have HT5:=Hd ht5;clear hat5 hk5 ht5)
     clear d1 HG1
     have HG2:=Hd (Pre.register_any ⟨W2,c1,M,rb,p,ac,kc,aa,ka,some ⟨bx,ox,none⟩,kf,am,km,fc,fk⟩ 0 sv1 av1 (R1 ++ placesOf k x.params) S1 (p.arrays.map (·.size)) k _ L1 z2 HAT5.out (HRD.out.forget.kept HK5.out) HKI.out HN2.out (by have:=HLL.out;rw [List.length_append];unfold placesOf;rw [List.length_map];omega))
     have HX5:Hid (z2.heap[xb]?=some (.cells #[.string x.name,.slice pa x.params.length pk,.slice ka2 x.code.length kk2,.int .i64 x.line,.int .i64 x.col] 52 (0,0))):=(HT5.out.block xb (aE HXz.out).1 (fun e=>MkS.regs_ne HATz.out.regs HXz.out e.symm)).trans HXz.out
     go_upto_region 17 with (go_at_call 72;refine HG2.out.mono ?_;rintro e z3 ⟨rfl,hat6,hk6,ht6⟩;have HAT6:=Hd hat6;have HT6:=Hd ht6;clear hat6 hk6 ht6)
     clear HG2
     have HX6:Hid (z3.heap[xb]?=some (.cells #[.string x.name,.slice pa x.params.length pk,.slice ka2 x.code.length kk2,.int .i64 x.line,.int .i64 x.col] 52 (0,0))):=(HT6.out.block xb (aE HX5.out).1 (fun e=>MkS.regs_ne HAT5.out.regs HX5.out e.symm)).trans HX5.out
     have d2:=row_of HX6.out 2 (.slice ka2 x.code.length kk2) rfl
     have HG3:=Hd (Pre.site_any ⟨W2,c1,M,rb,p,ac,kc,aa,ka,some ⟨bx,ox,none⟩,kf,am,km,fc,fk⟩ 0 sv1 av1 (R1 ++ placesOf k x.params ++ placesOf k L1) S1 (p.arrays.map (·.size)) _ x.code z3 HAT6.out HRI.out.2.1 HSL.out)
     go_wp2_with (go_at_call 73;refine HG3.out.mono ?_;rintro e z4 ⟨rfl,sv2,hat7⟩;have HAT7:=Hd hat7;clear hat7)
     go_roundw
     case rel=>exact ⟨k+1,sv2,by omega,by go_num,by rw [HNX.out.1,HNX.out.2];exact HAT7.out⟩
     case measure=>simp [intOf];omega
   obtain ⟨x,hx⟩:∃ x,p.arrays[k]?=some x:=⟨_,lG hlt⟩
   have hnx:(p.arrays.map (·.size)).take (k+1)=(p.arrays.map (·.size)).take k ++ [x.size]:=by
    rw [List.take_add_one,List.getElem?_map,hx];rfl
   have hAl:((p.arrays.map (·.size)).take k).length<=1000000:=by rw [List.length_take,List.length_map];have:=HW.out.arl;omega
   obtain ⟨A1,hA1⟩:∃ A1,(p.arrays.map (·.size)).take k=A1:=⟨_,rfl⟩
   rw [hA1] at hat hnx hAl
   obtain ⟨iI,hiI,hzI0,hzI1,hzI2⟩:=info_parts Pre.infoIntE
   obtain ⟨a',c',e',_,hrr⟩:=(H2.out.keep hat.below).2.1
   simp only [Value.slice.injEq] at e'
   obtain ⟨bx,ox,e2,_,i0,i1,hri⟩:=hrr k x hx
   have e3:aa=some ⟨bx,ox,none⟩:=e'.1.trans e2
   have hklt:(k:Int)<(p.arrays.length:Int):=by omega
   have HNX:=Hd hnx
   have hal:=(bR wo.heap.size wo).alloc (nR _) (.cells #[.string x.name,.int .i64 x.size] 96)
   have HX:=Hd (heap_alloc_new wo (.cells #[.string x.name,.int .i64 x.size] 96))
   obtain ⟨k0,kc0,rfl,_⟩:=own_read hat.arrs
   have HAT:=Hd (hat.keep hal)
   subst e3
   clear hat hrr hx hnx hri hal hA1 e' e2
   go_upto_region 8 with fail
   generalize wo.alloc (.cells #[.string x.name,.int .i64 x.size] 96)=W at *
   obtain ⟨xb,hxb⟩:∃ xb,wo.heap.size=xb:=⟨_,rfl⟩
   rw [hxb] at HX
   rw [hxb]
   clear hxb i0 i1
   have l9:=keepS_cell (S:=[M,xb]) (by simp) (row_of HAT.out.hm 9 (.slice k0 A1.length kc0) rfl)
   have l1:=keepS_cell (S:=[M,xb]) (by simp) (row_of HX.out 1 (.int .i64 x.size) rfl)
   have hmw:M<W.heap.size:=HAT.out.mlt
   have hxw:xb<W.heap.size:=(aE HX.out).1
   refine wp_region_mixS [M,xb] (.one [0,1,2,3,4,5,6,7] 8 (.one [] 9 (tailOf [10,11,12,13]))) (fun j=>decide (10<=j)) (by kernel_rfl) (by kernel_rfl) rfl (by kernel_rfl) (fun _ d _ _ _ h=>by cases d <;> exact h) ?_
   have HBd:Hid (Below W.heap.size W W.drew):=(bR _ _).drew
   generalize W.drew=wn at *
   have HKn:=Hd (Pre.two_keepS (HBd.out.block M hmw) (HBd.out.block xb hxw))
   refine mix_one (by simp only [opsOf,List.filterMap_cons,List.filterMap_nil,List.getElem?_toArray,List.getElem?_cons_succ,List.getElem?_cons_zero];rfl) ⟨_,keepS_of HKn.out⟩ ?_
   change wpQuiet _ _ _ _ [_,_,_,_,_,_,_,_] _
   (repeat (go_big_quiet_step (fail)))
   clear l9 l1
   refine wpQuiet_nil ?_
   refine mix_step rfl ?_
   go_wp2_with fail
   have HN:=Hd (heap_alloc_new wn (.cells #[.int .i64 x.size] 3))
   have hal2:Below wn.heap.size wn (wn.alloc (.cells #[.int .i64 x.size] 3)):=(bR _ _).alloc (nR _) _
   have HBn:=Hd (bcomp HBd.out hal2)
   have hs1:=HBd.out.size
   have HKa:=Hd (Pre.two_keepS (hal2.block M (by omega)) (hal2.block xb (by omega)))
   clear hal2
   obtain ⟨gb,hgb⟩:∃ gb,wn.heap.size=gb:=⟨_,rfl⟩
   rw [hgb] at HN
   try rw [hgb]
   generalize wn.alloc (.cells #[.int .i64 x.size] 3)=wa at *
   have HKw:=Hd (fun b hb=>(HKa.out b hb).trans (HKn.out b hb):∀ b ∈ [M,xb],wa.heap[b]?=W.heap[b]?)
   have HAa:=Hd (HAT.out.keep HBn.out)
   clear hgb
   (first|refine ⟨fun _=>⟨_,keepS_of HKw.out⟩,?_⟩|refine ⟨⟨_,keepS_of HKw.out⟩,?_⟩)
   refine mix_now ?_
   refine mix_step rfl ?_
   try (simp only [Act.put,List.setIfInBounds_toArray,List.set_cons_succ,List.set_cons_zero,List.getElem_toArray,List.getElem_cons_succ,List.getElem_cons_zero])
   have hc1:c1<=wa.heap.size:=HAa.out.c1.2
   have harr:wa.ownsRow c1 3 1 (.slice k0 A1.length kc0) A1.length (A1.flatMap cellsInt):=HAa.out.arrs
   refine wpList_append_own_at _ rfl (.tmp 44) (.tmp 47) 60 rfl c1 3 iI (.int .i64 0) 1 8 Tryz.underlying60 hiI hzI0 hzI1 hzI2 rfl (by decide) _ _ _ rfl harr ⟨gb,0,none⟩ 1 1 (cellsInt x.size) rfl rfl ?hnw ?hone ?h63 ?hby hc1 ?_
   case hnw=>
    intro j u hu
    have e:(⟨gb,0,none⟩:Addr).add j=⟨gb,j,none⟩:=by simp [Addr.add];omega
    rw [e]
    exact row_of HN.out j u (by rw [<- List.getElem?_toArray] at hu;exact hu)
   case hone=>intro u hu;simp only [cellsInt,List.mem_cons,List.not_mem_nil,or_false] at hu;rcases hu with rfl;rfl
   case h63=>unfold maxLen;omega
   case hby=>omega
   intro v' w4 hown' hgrow _ hblk
   have hT4:Turned (fun k=>(Value.slice k0 A1.length kc0).ownBlock=some k) wa w4:=Turned.of_grown hgrow (fun b e=>e)
   have hkM:(Value.slice k0 A1.length kc0).ownBlock ≠ some M:=own_ne_cells harr HAa.out.hm (by decide)
   have hkx:(Value.slice k0 A1.length kc0).ownBlock ≠ some xb:=own_ne_cells harr ((HKw.out xb (by simp)).trans HX.out) (by decide)
   have hm4:=(hT4.block M HAa.out.mlt hkM).trans HAa.out.hm
   have hsz:=HBn.out.size
   have HKf:=Hd (Pre.two_keepS ((hT4.block M HAa.out.mlt hkM).trans (HKw.out M (by simp))) ((hT4.block xb (by omega) hkx).trans (HKw.out xb (by simp))))
   obtain ⟨xa,xc,rfl,_⟩:=own_read hown'
   have HT4:=Hd hT4
   have HO4:=Hd hown'
   have HM4:=Hd hm4
   clear hown' hgrow hblk hT4 hkM hkx harr
   try (simp only [Act.put,List.setIfInBounds_toArray,List.set_cons_succ,List.set_cons_zero,List.getElem_toArray,List.getElem_cons_succ,List.getElem_cons_zero])
   (first|refine ⟨fun _=>⟨_,keepS_of HKf.out⟩,?_⟩|refine ⟨⟨_,keepS_of HKf.out⟩,?_⟩)
   have c9:=row_of hm4 9 (.slice k0 A1.length kc0) rfl
   have f9:=frozen_of_row w4 M 9 _ _ hm4
   clear hm4
   refine mix_tail [10,11,12,13] [_,_,_,_] _ _ rfl rfl ?_
   simp only [Act.put,List.setIfInBounds_toArray,List.set_cons_succ,List.set_cons_zero,List.getElem_toArray,List.getElem_cons_succ,List.getElem_cons_zero]
   go_wp2_with fail
   go_roundw
   case rel=>exact ⟨k+1,_,by omega,by go_num,by rw [HNX.out];exact Pre.At.arrayed x.size HAa.out HT4.out HO4.out⟩
   case measure=>simp [intOf];omega
end Go.Proofs.YtgllkgedjplpdaaGreatDoor
