/- Contract of the reference's New where the flat program is not valid or there are too many inputs: nil and the fault. Condition: what comes in reads as the flat program. -/
import Derived.Test.YtkjkpddajjmloaaGreatDoorRMc
import Derived.Test.YtkjkpddajjmloaaGreatDoorMRc
import Derived.Test.YtkjkpddajjmloaaGreatDoorLMe
import Derived.Test.YtkjkpddajjmloaaGreatDoorKMb
import Derived.Test.YtkjkpddajjmloaaGreatDoorMMo
import Derived.Deep.MidRow
set_option linter.all false
set_option maxRecDepth 1000000
set_option maxHeartbeats 6400000
namespace Go.Proofs.YtkjkpddajjmloaaGreatDoor
open Go.ChangeShapes Go.WideShapes Go.ChangeAt Go.RowKit
open Go.Lib (hid)
theorem gsRNd {α:Type} {a:Array α} {i:Nat} {v:α} (h:a[i]?=some v):i<a.size:=(Array.getElem?_eq_some_iff.1 h).1
theorem lgRNd {α:Type} {l:List α} {i:Nat} (h:i<l.length):l[i]?=some l[i]:=List.getElem?_eq_getElem h
theorem refNewBad (f:FlatD) (cv sv av kv:Value) (ia:Option Addr) (n ic:Nat) (w:World) (hF:RdFlat none w f cv sv av kv) (hn:n≤1000000) (hb:flatOk f=false ∨ f.chans.length<n) :
  Calls Tryz.prog 61 #[flatV f cv sv av kv,.slice ia n ic] w fun e w'=>e=.returned (.tuple #[.pointer none,.int .i64 (if flatOk f then 5 else 2)])∧Below w.heap.size w w':=by
 obtain⟨r,hr⟩:∃ r:Int,(if flatOk f=true then (5:Int) else 2)=r:=⟨_,rfl⟩
 rw[hr]
 obtain⟨ca,cc,rfl⟩:=hF.1.is
 obtain⟨sa,sc,rfl⟩:=hF.2.1.is
 obtain⟨aa,ac,rfl⟩:=hF.2.2.1.is
 obtain⟨ka,kc,rfl⟩:=hF.2.2.2.1.is
 have hcl:f.chans.length*16≤140737488351232:=hF.1.size
 have hal:=(Below.refl w.heap.size w).alloc (Nat.le_refl _) (.cells #[.int .i64 f.width,.int .i64 f.regs,.slice ca f.chans.length cc,.slice sa f.sites.length sc,.slice aa f.arrays.length ac,.slice ka f.code.length kc] 26)
 have hg:=heap_alloc_new w (.cells #[.int .i64 f.width,.int .i64 f.regs,.slice ca f.chans.length cc,.slice sa f.sites.length sc,.slice aa f.arrays.length ac,.slice ka f.code.length kc] 26)
 have HF:=hid (hF.keep hal)
 clear hF
 go_enter Tryz.func61,Tryz.ntmps61
 go_upto_region 1 with fail
 have HB:=hid hal
 have HG:=hid hg
 have y0:=row_of hg 0 (.int .i64 f.width) rfl
 have y1:=row_of hg 1 (.int .i64 f.regs) rfl
 have y2:=row_of hg 2 (.slice ca f.chans.length cc) rfl
 have y3:=row_of hg 3 (.slice sa f.sites.length sc) rfl
 have y4:=row_of hg 4 (.slice aa f.arrays.length ac) rfl
 have y5:=row_of hg 5 (.slice ka f.code.length kc) rfl
 clear hal hg
 generalize w.alloc (.cells #[.int .i64 f.width,.int .i64 f.regs,.slice ca f.chans.length cc,.slice sa f.sites.length sc,.slice aa f.arrays.length ac,.slice ka f.code.length kc] 26)=W at *
 have HC:=hid (refCheck f _ _ _ _ W HF.out)
 cases hok:flatOk f <;> rw[hok] at hr
 ·have he:flatE f=2:=by rw[flatE,hok];rfl
  rw[he] at HC
  obtain rfl:r=2:=hr.symm
  clear he hok hb hr
  go_wp2_with (go_at_call 54;refine HC.out.mono ?_;rintro e w2 ⟨rfl,hb2⟩)
  go_ret2
  exact⟨rfl,bcomp HB.out hb2⟩
 ·have he:flatE f=0:=by rw[flatE,hok];rfl
  rw[he] at HC
  have hlt:(f.chans.length:Int)<(n:Int):=by rcases hb with h|h;exact absurd hok (by rw[h];decide);omega
  obtain rfl:r=5:=hr.symm
  clear he hok hb hr
  go_upto_region 4 with (go_at_call 54;refine HC.out.mono ?_;rintro e w2 ⟨rfl,hb2⟩)
  have z2:=cell_keep hb2 y2
  clear y2
  go_wp2
  go_ret2
  exact⟨rfl,bcomp HB.out hb2⟩
theorem ref_new_at {W:World} {f:FlatD} {L:List (List Int)} {c2 c3 c4 kv iv av:Value} {bs:List Nat} {a l1 h1 l3 h3 s9 gb db bm rg:Nat} (hF:RdFlat (some (within l1 h1)) W f c2 c3 c4 kv) (hI:RdLists (some (within l3 h3)) W iv L)
  (hg:W.heap[gb]?=some (.cells (u64s (List.replicate rg 0)) 58 (0,0))) (hrg:f.regs.toNat=rg) (hd:W.heap[db]?=some (.cells (i64s (List.replicate f.chans.length 0)) 3 (0,0)))
  (hm:MadeArr s9 f.arrays f.arrays.length W av bs) (hal:f.arrays.length≤1000000)
  (hb:W.heap[bm]?=some (.cells #[.int .i64 f.width,.int .i64 f.regs,c2,c3,c4,kv,iv,.slice (some ⟨gb,0,none⟩) rg rg,av,.int .i64 0,.int .u8 2,.int .i64 0,.slice none 0 0,.slice none 0 0,.slice none 0 0,.slice (some ⟨db,0,none⟩) f.chans.length f.chans.length] 120 (0,0)))
  (hl:a≤l1∧h1≤s9∧a≤l3∧h3≤s9) (hgb:a≤gb∧gb<s9∧¬ within l1 h1 gb∧¬ within l3 h3 gb) (hbm:a≤bm∧bm<s9∧¬ within l1 h1 bm∧¬ within l3 h3 bm) (hdb:s9≤db) (ha9:a≤s9) (h10:s9≤W.heap.size) :
  RefIn0 (fun b=>a≤b∧b<W.heap.size) W bm f L (newM f):=by
 subst hrg
 have hown:=fun b (e:av.ownBlock=some b)=>And.intro (own_row_le hm.own b e) (own_lt hm.own b e)
 have hnb:∀ b∈bs,(s9≤b∧b<W.heap.size)∧av.ownBlock≠some b:=by
  intro b hb'
  obtain⟨i,hi⟩:=List.getElem?_of_mem hb'
  have hil:i<f.arrays.length:=by have:=(List.getElem?_eq_some_iff.1 hi).1;have:=hm.len;omega
  have hr:=hm.rows i b _ hi (List.getElem?_eq_getElem hil)
  exact⟨⟨hm.from_ b hb',(gsRNd hr)⟩,fun e=>by obtain⟨cs',hr'⟩:=own_row hm.own e;exact row_ne hr hr' (by decide) rfl⟩
 have hlen:(newM f).arrs.length=f.arrays.length:=by simp[newM]
 have hdlt:=(gsRNd hd)
 refine⟨fun b=>within l1 h1 b ∨ within l3 h3 b ∨ av.ownBlock=some b,c2,c3,c4,kv,iv,av,.slice none 0 0,.slice none 0 0,.slice none 0 0,gb,db,bs,?_,?_,?_,?_⟩
 ·refine⟨?_,hF.2.2.2.1.same (fun _ _ _=>rfl) (fun b _ hb'=>.inl hb'),hI.same (fun _ _ _=>rfl) (fun b _ hb'=>.inr (.inl hb')),hg,hd,?_,?_,?_,?_,?_,World.ownsRow_nil _ _ _ _,World.ownsRow_nil _ _ _ _,World.ownsRow_nil _ _ _ _,?_⟩
  ·rintro b (⟨k1,k2⟩|⟨k1,k2⟩|e)
   ·exact⟨by omega,by omega⟩
   ·exact⟨by omega,by omega⟩
   ·have:=hown b e;exact⟨by omega,by omega⟩
  ·have he:(newM f).arrs.map List.length=(f.arrays.take f.arrays.length).map Int.toNat:=by
    rw[List.take_length];simp[newM,Function.comp_def]
   rw[he]
   have hz:(bs.zip ((f.arrays.take f.arrays.length).map Int.toNat)).length=f.arrays.length:=by simp[hm.len]
   have hmo:=hm.own
   rw[← hz] at hmo
   refine (own_block (K:=kSlc) (base:=s9) ?_ (by rw[hz];show f.arrays.length*24≤_;omega) (fun _ _=>trivial)).same (fun _ _ _=>rfl) (fun b _ hb'=>.inr (.inr hb'))
   rw[hz] at hmo ⊢
   exact hmo
  ·intro i b l hi hl'
   simp only[newM,List.getElem?_map,Option.map_eq_some_iff] at hl'
   obtain⟨n,hn',rfl⟩:=hl'
   exact hm.rows i b n hi hn'
  ·rw[hlen,hm.len]
  ·exact List.nodup_cons.2 ⟨fun hb'=>by have:=(hnb gb hb').1.1;omega,hm.nodup⟩
  ·refine⟨⟨by omega,(gsRNd hg)⟩,?_,⟨by omega,hdlt⟩,?_,fun b hb'=>⟨⟨by have:=(hnb b hb').1;omega,(hnb b hb').1.2⟩,?_⟩⟩
   ·rintro (k|k|e)
    ·exact hgb.2.2.1 k
    ·exact hgb.2.2.2 k
    ·have:=hown _ e;omega
   ·rintro (⟨k1,k2⟩|⟨k1,k2⟩|e)
    ·omega
    ·omega
    ·obtain⟨cs',hr'⟩:=own_row hm.own e;exact row_ne hd hr' (by decide) rfl
   ·have:=hnb b hb'
    rintro (⟨k1,k2⟩|⟨k1,k2⟩|e)
    ·omega
    ·omega
    ·exact this.2 e
  ·exact⟨fun b e=>by simp[Value.ownBlock] at e,fun b e=>by simp[Value.ownBlock] at e,fun b e=>by simp[Value.ownBlock] at e⟩
 ·exact RdFlat.same hF (fun _ _ _=>rfl) (fun b _ hb'=>.inl hb')
 ·rw[hb];simp[cellsR,newM]
 ·refine⟨⟨by omega,(gsRNd hb)⟩,?_⟩
  rintro (k|k|e)
  ·exact hbm.2.2.1 k
  ·exact hbm.2.2.2 k
  ·have:=hown _ e;omega
def FlatCp (f:FlatD) (w:World) (v:Value) (lo hi:Nat):Prop:=∃ xa2 xc2 xa3 xc3 xa4 xc4 xa5 xc5,v=.agg #[.int .i64 f.width,.int .i64 f.regs,.slice xa2 f.chans.length xc2,.slice xa3 f.sites.length xc3,.slice xa4 f.arrays.length xc4,.slice xa5 f.code.length xc5]∧RdFlat (some (within lo hi)) w f (.slice xa2 f.chans.length xc2) (.slice xa3 f.sites.length xc3) (.slice xa4 f.arrays.length xc4) (.slice xa5 f.code.length xc5)
def ListCp (L:List (List Int)) (w:World) (v:Value) (lo hi:Nat):Prop:=∃ ia ic,v=.slice ia L.length ic∧RdLists (some (within lo hi)) w v L
def RegsAt (rg:Nat) (w:World) (v:Value) (lo hi:Nat):Prop:=∃ gb:Nat,v=.slice (some ⟨gb,0,none⟩) rg rg∧lo≤gb∧gb<hi∧w.heap[gb]?=some (.cells (u64s (List.replicate rg 0)) 58 (0,0))
theorem FlatCp.keep {f:FlatD} {w w':World} {v:Value} {lo hi:Nat} (h:FlatCp f w v lo hi) (k:Below w.heap.size w w'):FlatCp f w' v lo hi:=by
 obtain⟨a,b,c,d,e,g,i,j,rfl,hr⟩:=h
 exact⟨a,b,c,d,e,g,i,j,rfl,hr.keep k⟩
theorem ListCp.keep {L:List (List Int)} {w w':World} {v:Value} {lo hi:Nat} (h:ListCp L w v lo hi) (k:Below w.heap.size w w'):ListCp L w' v lo hi:=by
 obtain⟨a,b,rfl,hr⟩:=h
 exact⟨a,b,rfl,hr.keep k⟩
theorem RegsAt.keep {rg:Nat} {w w':World} {v:Value} {lo hi:Nat} (h:RegsAt rg w v lo hi) (k:Below w.heap.size w w'):RegsAt rg w' v lo hi:=by
 obtain⟨a,rfl,h1,h2,hr⟩:=h
 exact⟨a,rfl,h1,h2,(k.block _ (gsRNd hr)).trans hr⟩
structure BoxR (f:FlatD) (L:List (List Int)) (rg s:Nat) (wx:World) (bm gb l1 h1 l3 h3:Nat) (c2 c3 c4 kv iv:Value):Prop where
 flat:RdFlat (some (within l1 h1)) wx f c2 c3 c4 kv
 ins:RdLists (some (within l3 h3)) wx iv L
 regs:wx.heap[gb]?=some (.cells (u64s (List.replicate rg 0)) 58 (0,0))
 box:wx.heap[bm]?=some (.cells #[.int .i64 f.width,.int .i64 f.regs,c2,c3,c4,kv,iv,.slice (some ⟨gb,0,none⟩) rg rg,.slice none 0 0,.int .i64 0,.int .u8 0,.int .i64 0,.slice none 0 0,.slice none 0 0,.slice none 0 0,.slice none 0 0] 120 (0,0))
 a1:s≤l1
 a2:h1≤wx.heap.size
 a3:s≤l3
 a4:h3≤wx.heap.size
 g1:s≤gb
 g2:gb<wx.heap.size
 g3:¬ within l1 h1 gb
 g4:¬ within l3 h3 gb
 b1:s≤bm
 b2:bm<wx.heap.size
 b3:¬ within l1 h1 bm
 b4:¬ within l3 h3 bm
theorem there_of {w:World} {b:Nat} {cs:Array Value} {T:TypeId} (h:w.heap[b]?=some (.cells cs T (0,0))) (o n:Nat) (hn:o+n≤cs.size):w.there b o n:=fun j hj=>
 ⟨by rw[row_of h (o+j) _ (Array.getElem?_eq_getElem (by omega))];rfl,frozen_of_row w b (o+j) _ _ h⟩
theorem set6 {w:World} {b:Nat} {cs:Array Value} {T:TypeId} (h:w.heap[b]?=some (.cells cs T (0,0))) (x0 x1 x2 x3 x4 x5:Value) :
  (w.setCells b 10 [x0,x1,x2,x3,x4,x5]).heap[b]?=some (.cells ((((((cs.setIfInBounds 10 x0).setIfInBounds 11 x1).setIfInBounds 12 x2).setIfInBounds 13 x3).setIfInBounds 14 x4).setIfInBounds 15 x5) T (0,0)):=by
 simp only[World.setCells]
 exact heap_setCell_same _ _ _ _ _ _ (heap_setCell_same _ _ _ _ _ _ (heap_setCell_same _ _ _ _ _ _ (heap_setCell_same _ _ _ _ _ _ (heap_setCell_same _ _ _ _ _ _ (heap_setCell_same _ _ _ _ _ _ h)))))
theorem set6_turn (w:World) (b:Nat) (x0 x1 x2 x3 x4 x5:Value):Turn (fun y=>y=b) w (w.setCells b 10 [x0,x1,x2,x3,x4,x5]):=by
 simp only[World.setCells]
 exact ((((((Turn.refl (fun y=>y=b) w).setCell rfl _).setCell rfl _).setCell rfl _).setCell rfl _).setCell rfl _).setCell rfl _
theorem MadeArr.same {lo:Nat} {A:List Int} {k:Nat} {w w':World} {av:Value} {bs:List Nat} (h:MadeArr lo A k w av bs) (hs:∀ b,lo≤b→b<w.heap.size→w'.heap[b]?=w.heap[b]?):MadeArr lo A k w' av bs:=
 ⟨h.len,own_same h.own fun b hb=>hs b (own_row_le h.own b hb) (own_lt h.own b hb),fun i b n hi hn=>by have:=h.rows i b n hi hn;exact (hs b (h.from_ b (List.mem_of_getElem? hi)) (gsRNd this)).trans this,h.from_,h.nodup⟩
theorem refNew (f:FlatD) (cv sv av kv iv:Value) (L:List (List Int)) (w:World) (hF:RdFlat none w f cv sv av kv) (hI:RdLists none w iv L) (hok:flatOk f=true) (hn:L.length≤f.chans.length) :
  Calls Tryz.prog 61 #[flatV f cv sv av kv,iv] w fun e w'=>∃ bm,e=.returned (.tuple #[.pointer (some ⟨bm,0,none⟩),.int .i64 0])∧RefIn0 (fun b=>w.heap.size≤b∧b<w'.heap.size) w' bm f L (newM f)∧Below w.heap.size w w':=by
 have hh:=headP hok
 obtain⟨ca,cc,rfl⟩:=hF.1.is
 obtain⟨sa,sc,rfl⟩:=hF.2.1.is
 obtain⟨aa,ac,rfl⟩:=hF.2.2.1.is
 obtain⟨ka,kc,rfl⟩:=hF.2.2.2.1.is
 obtain⟨ia,ic,rfl⟩:=hI.is
 obtain⟨rg,hrg⟩:∃ rg:Nat,f.regs=rg:=⟨f.regs.toNat,by have:=hh.r0;omega⟩
 have hrg1:rg≤2097152:=by have:=hh.r1;omega
 have hal:=(Below.refl w.heap.size w).alloc (Nat.le_refl _) (.cells #[.int .i64 f.width,.int .i64 f.regs,.slice ca f.chans.length cc,.slice sa f.sites.length sc,.slice aa f.arrays.length ac,.slice ka f.code.length kc] 26)
 have hg:=hid (heap_alloc_new w (.cells #[.int .i64 f.width,.int .i64 f.regs,.slice ca f.chans.length cc,.slice sa f.sites.length sc,.slice aa f.arrays.length ac,.slice ka f.code.length kc] 26))
 have HF0:=hid hF
 have HF:=hid (hF.keep hal)
 have HI:=hid (hI.keep hal)
 have HMK1:Hid (∀ w,(Instr.makeSlice 61 (.int .i64 f.regs) (.int .i64 f.regs)).run Tryz.prog w=.ok (.slice (some ⟨w.heap.size,0,none⟩) rg rg) (w.alloc (.cells (u64s (List.replicate rg 0)) 58))):=fun w=>by rw[hrg];exact makeNums rg hrg1 w
 have HH:=hid hh
 have HRG:=hid hrg
 have HN:=hid hn
 have HB:=hid hal
 have hle:¬ (f.chans.length:Int)<(L.length:Int):=by omega
 clear hF hI hh hrg hn hrg1 hal
 go_enter Tryz.func61,Tryz.ntmps61
 go_upto_region 1 with fail
 generalize w.alloc (.cells #[.int .i64 f.width,.int .i64 f.regs,.slice ca f.chans.length cc,.slice sa f.sites.length sc,.slice aa f.arrays.length ac,.slice ka f.code.length kc] 26)=W at *
 have y0:=row_of hg.out 0 (.int .i64 f.width) rfl
 have y1:=row_of hg.out 1 (.int .i64 f.regs) rfl
 have y2:=row_of hg.out 2 (.slice ca f.chans.length cc) rfl
 have y3:=row_of hg.out 3 (.slice sa f.sites.length sc) rfl
 have y4:=row_of hg.out 4 (.slice aa f.arrays.length ac) rfl
 have y5:=row_of hg.out 5 (.slice ka f.code.length kc) rfl
 have he:flatE f=0:=by rw[flatE,hok];rfl
 have HC:=hid (refCheck f _ _ _ _ W HF.out)
 rw[he] at HC
 clear he hok
 go_upto_region 4 with (go_at_call 54;refine HC.out.mono ?_;rintro e w2 ⟨rfl,hb2⟩)
 have HB2:=hid (bcomp HB.out hb2)
 have HF2:=hid (HF.out.keep hb2)
 have HI2:=hid (HI.out.keep hb2)
 have hg2:=hid ((hb2.block _ (gsRNd hg.out)).trans hg.out)
 clear y0 y1 y2 y3 y4 y5 hb2 HC
 have y2:=row_of hg2.out 2 (.slice ca f.chans.length cc) rfl
 have y1:=row_of hg2.out 1 (.int .i64 f.regs) rfl
 go_upto_region 6 with fail
 clear y1 y2
 rw[show decide (f.chans.length<L.length)=false from decide_eq_false (by have:=HN.out;omega)]
 go_cut [7] from 20 to 28 (fun mm wx=>∃ (bm gb l1 h1 l3 h3:Nat) (c2 c3 c4 kv iv:Value),mm=.pointer (some ⟨bm,0,none⟩)∧BoxR f L rg w2.heap.size wx bm gb l1 h1 l3 h3 c2 c3 c4 kv iv∧Below w2.heap.size w2 wx)
 case first=>
  refine wp_region_own [0,2,4,5] [⟨1,some 21,[]⟩,⟨3,some 23,[]⟩,⟨6,some 26,[]⟩] [7,8,9] [_,_,_] (fun j=>decide (7≤j))
   (fun j v w lo hi=>match j with
    | 1=>FlatCp f w v lo hi
    | 3=>ListCp L w v lo hi
    | 6=>RegsAt rg w v lo hi
    | _=>True) (by kernel_rfl) (by kernel_rfl) rfl (by kernel_rfl) rfl rfl (fun _ d _ _ _ h=>by cases d <;> exact h) ?_ ?_
  ·intro j v w w' lo hi hy hbw
   match j,hy with
   | 1,hy=>exact FlatCp.keep hy hbw
   | 3,hy=>exact ListCp.keep hy hbw
   | 6,hy=>exact RegsAt.keep hy hbw
   | 0,_|2,_|4,_|5,_|(x+7),_=>trivial
  ·have l0:=ext_cell (row_of hg2.out 0 (.int .i64 f.width) rfl)
   have l1:=ext_cell (row_of hg2.out 1 (.int .i64 f.regs) rfl)
   have l2:=ext_cell (row_of hg2.out 2 (.slice ca f.chans.length cc) rfl)
   have l3:=ext_cell (row_of hg2.out 3 (.slice sa f.sites.length sc) rfl)
   have l4:=ext_cell (row_of hg2.out 4 (.slice aa f.arrays.length ac) rfl)
   have l5:=ext_cell (row_of hg2.out 5 (.slice ka f.code.length kc) rfl)
   refine mix_reads (by simp only[opsOf,List.filterMap_cons,List.filterMap_nil,List.getElem?_toArray,List.getElem?_cons_succ,List.getElem?_cons_zero];rfl) ⟨_,ext_of (Below.refl _ _).drew⟩ ?_
   change wpQuiet _ _ _ _ [_,_,_,_] _
   (repeat (go_big_quiet_step (fail)))
   refine wpQuiet_nil ?_
   clear l0 l1 l2 l3 l4 l5
   refine⟨⟨fun vs w hb hn=>?_,fun vs w hb hn=>?_,fun vs w hb hn=>?_,trivial⟩,fun vs w hb hy hd=>?_⟩
   ·clear hn
    have hr:=HF2.out.keep ((Below.refl _ _).drew.trans hb)
    refine mix_step rfl ?_
    simp only[pv]
    go_wp2_with (go_at_call 92;refine (copyFlat f _ _ _ _ _ hr).mono ?_;rintro e w1 ⟨c2,c3,c4,kv,rfl,hr1,hb1⟩)
    obtain⟨xa2,xc2,rfl⟩:=hr1.1.is
    obtain⟨xa3,xc3,rfl⟩:=hr1.2.1.is
    obtain⟨xa4,xc4,rfl⟩:=hr1.2.2.1.is
    obtain⟨xa5,xc5,rfl⟩:=hr1.2.2.2.1.is
    exact⟨_,rfl,hb1,_,_,_,_,_,_,_,_,rfl,RdFlat.same hr1 (fun _ _ _=>rfl) (fun b hlt hb=>⟨hb,hlt⟩)⟩
   ·clear hn
    have hr:=HI2.out.keep ((Below.refl _ _).drew.trans hb)
    refine mix_step rfl ?_
    simp only[pv]
    go_wp2_with (go_at_call 36;refine (copyLists _ L _ hr).mono ?_;rintro e w1 ⟨v,rfl,hr1,hb1⟩)
    obtain⟨xa2,xc2,rfl⟩:=hr1.is
    exact⟨_,rfl,hb1,_,_,rfl,hr1.same (fun _ _ _=>rfl) (fun b hlt hb=>⟨hb,hlt⟩)⟩
   ·clear hn
    have hmk:=HMK1.out
    refine mix_step rfl ?_
    simp only[pv]
    go_wp2_with fail
    exact⟨_,rfl,(Below.refl _ _).alloc (Nat.le_refl _) _,w.heap.size,rfl,Nat.le_refl _,by simp,heap_alloc_new _ _⟩
   ·have H1:=hy ⟨1,some 21,[]⟩ (by simp)
    have H3:=hy ⟨3,some 23,[]⟩ (by simp)
    have H6:=hy ⟨6,some 26,[]⟩ (by simp)
    have D3:=hd ⟨1,some 21,[]⟩ (by simp) ⟨6,some 26,[]⟩ (by simp) (by decide)
    have D6:=hd ⟨3,some 23,[]⟩ (by simp) ⟨6,some 26,[]⟩ (by simp) (by decide)
    clear hy hd
    simp only[List.map,Maker.pr,pv]
    simp only at H1 H3 H6 D3 D6
    generalize vs 1=p1 at *
    generalize vs 3=p3 at *
    generalize vs 6=p6 at *
    obtain⟨v1,l1,h1⟩:=p1
    obtain⟨v3,l3,h3⟩:=p3
    obtain⟨v6,l6,h6⟩:=p6
    obtain⟨⟨xa2,xc2,xa3,xc3,xa4,xc4,xa5,xc5,rfl,hr1⟩,q1,q2,q3⟩:=H1
    obtain⟨⟨ja,jc,rfl,hr3⟩,q4,q5,q6⟩:=H3
    obtain⟨⟨gb,rfl,g1,g2,hgr⟩,q7,q8,q9⟩:=H6
    simp only at q1 q2 q3 q4 q5 q6 q7 q8 q9 D3 D6 g1 g2
    have HFIN:Hid (BoxR f L rg w2.heap.size (w.alloc (.cells #[.int .i64 f.width,.int .i64 f.regs,.slice xa2 f.chans.length xc2,.slice xa3 f.sites.length xc3,.slice xa4 f.arrays.length xc4,.slice xa5 f.code.length xc5,.slice ja L.length jc,.slice (some ⟨gb,0,none⟩) rg rg,.slice none 0 0,.int .i64 0,.int .u8 0,.int .i64 0,.slice none 0 0,.slice none 0 0,.slice none 0 0,.slice none 0 0] 120)) w.heap.size gb l1 h1 l3 h3 (.slice xa2 f.chans.length xc2) (.slice xa3 f.sites.length xc3) (.slice xa4 f.arrays.length xc4) (.slice xa5 f.code.length xc5) (.slice ja L.length jc)∧Below w2.heap.size w2 (w.alloc (.cells #[.int .i64 f.width,.int .i64 f.regs,.slice xa2 f.chans.length xc2,.slice xa3 f.sites.length xc3,.slice xa4 f.arrays.length xc4,.slice xa5 f.code.length xc5,.slice ja L.length jc,.slice (some ⟨gb,0,none⟩) rg rg,.slice none 0 0,.int .i64 0,.int .u8 0,.int .i64 0,.slice none 0 0,.slice none 0 0,.slice none 0 0,.slice none 0 0] 120))):=by
     have hal:=(Below.refl w.heap.size w).alloc (Nat.le_refl _) (.cells #[.int .i64 f.width,.int .i64 f.regs,.slice xa2 f.chans.length xc2,.slice xa3 f.sites.length xc3,.slice xa4 f.arrays.length xc4,.slice xa5 f.code.length xc5,.slice ja L.length jc,.slice (some ⟨gb,0,none⟩) rg rg,.slice none 0 0,.int .i64 0,.int .u8 0,.int .i64 0,.slice none 0 0,.slice none 0 0,.slice none 0 0,.slice none 0 0] 120)
     have hs:(w.alloc (.cells #[.int .i64 f.width,.int .i64 f.regs,.slice xa2 f.chans.length xc2,.slice xa3 f.sites.length xc3,.slice xa4 f.arrays.length xc4,.slice xa5 f.code.length xc5,.slice ja L.length jc,.slice (some ⟨gb,0,none⟩) rg rg,.slice none 0 0,.int .i64 0,.int .u8 0,.int .i64 0,.slice none 0 0,.slice none 0 0,.slice none 0 0,.slice none 0 0] 120)).heap.size=w.heap.size+1:=by simp
     have hw2:w2.drew.heap.size=w2.heap.size:=rfl
     have hbs:=hb.size
     refine⟨⟨hr1.keep hal,hr3.keep hal,(hal.block _ (by omega)).trans hgr,heap_alloc_new _ _,by omega,by omega,by omega,by omega,by omega,by omega,?_,?_,by omega,by omega,?_,?_⟩,bcomp ((Below.refl _ _).drew.trans hb) hal⟩
     ·rintro ⟨k1,k2⟩;omega
     ·rintro ⟨k1,k2⟩;omega
     ·rintro ⟨k1,k2⟩;omega
     ·rintro ⟨k1,k2⟩;omega
    clear hr1 hr3 hgr
    simp only[Act.put,List.setIfInBounds_toArray,List.set_cons_succ,List.set_cons_zero,List.getElem_toArray,List.getElem_cons_succ,List.getElem_cons_zero]
    go_wp2_with fail
    go_meet
    exact⟨_,_,_,_,_,_,_,_,_,_,_,rfl,HFIN.out⟩
 case rest=>
  generalize wc=W6 at *
  obtain⟨bm,gb,l1,h1,l3,h3,c2,c3,c4,kv',iv',rfl,hbx,hb6⟩:=hcut
  have hfl:w.heap.size<w2.heap.size:=(gsRNd hg2.out)
  have HG6:=hid ((hb6.block _ hfl).trans hg2.out)
  have HB6:=hid (bcomp HB2.out hb6)
  have hs2:=HB2.out.size
  have hfm:w.heap.size≠bm:=by have:=hbx.b1;omega
  have hb1:=hbx.b1
  have hb2:=hbx.b2
  have HM6:=hid hbx.box
  have HX:=hid hbx
  have HF6:=hid (HF2.out.keep hb6)
  have HMK3:=hid (fun w=>makeInts f.chans.length (by have:=HH.out.chans;omega) w)
  have hhs:=hb6.size
  clear hbx hb6 HF HI HI2 HF2 HB HB2 HMK1 hg hg2
  go_wp2_with fail
  go_loopw [8] (fun i wr=>∃ (k:Nat) (av:Value) (bs:List Nat),k≤f.arrays.length∧i=.int .i64 k∧MadeArr W6.heap.size f.arrays k wr av bs∧wr.heap[bm]?=some (.cells #[.int .i64 f.width,.int .i64 f.regs,c2,c3,c4,kv',iv',.slice (some ⟨gb,0,none⟩) rg rg,av,.int .i64 0,.int .u8 0,.int .i64 0,.slice none 0 0,.slice none 0 0,.slice none 0 0,.slice none 0 0] 120 (0,0))∧Turn (fun b=>b=bm) W6 wr) (fun i _=>f.arrays.length-(intOf i).toNat)
  case atStart=>exact⟨0,.slice none 0 0,[],Nat.zero_le _,rfl,⟨rfl,World.ownsRow_nil _ _ _ _,fun i b n h=>by simp at h,fun b h=>by simp at h,List.nodup_nil⟩,HM6.out,Turn.refl _ _⟩
  case round=>
   obtain⟨k,av,bs,hk,rfl,hma,hbr,hTr⟩:=hrel
   have HGr:=hid ((hTr.block w.heap.size (by omega) hfm).trans HG6.out)
   by_cases hlt:k<f.arrays.length
   ·obtain⟨n,hn⟩:∃ n,f.arrays[k]?=some n:=⟨_,lgRNd hlt⟩
    have hnb:=HH.out.arr n (List.mem_of_getElem? hn)
    obtain⟨nn,rfl⟩:∃ nn:Nat,n=nn:=⟨n.toNat,by omega⟩
    obtain⟨va,vc,rfl,-⟩:=own_read hma.own
    obtain⟨jb,jo,rfl,_,cI0,_⟩:=atInt HF0.out.2.2.1 hn
    have hjb:jb<w.heap.size:=block_lt_of_cell cI0
    have HBw:=hid (hTr.below HB6.out (fun b e=>by subst e;omega))
    have cI:=cell_keep HBw.out cI0
    have HMA:=hid hma
    have HBR:=hid hbr
    have HTr:=hid hTr
    have HNn:=hid hn
    have hk1:(k:Int)<(f.arrays.length:Int):=by omega
    have hsr:=hTr.size
    have hn2:nn≤64:=by omega
    have HMK:=hid (fun w=>makeNums nn (by omega) w)
    have y4:=row_of HGr.out 4 (.slice (some ⟨jb,jo,none⟩) f.arrays.length ac) rfl
    obtain⟨S,hS⟩:∃ S,S=[bm,w.heap.size,jb]:=⟨_,rfl⟩
    have HS6:Hid (∀ b∈S,b<W6.heap.size):=by show ∀ b∈S,_;subst hS;simp only[List.mem_cons,List.not_mem_nil,or_false];intro b hb;omega
    have l8:=keepS_cell (S:=S) (by subst hS;simp) (row_of HBR.out 8 (.slice va k vc) rfl)
    have l4:=keepS_cell (S:=S) (by subst hS;simp) y4
    have lI:=keepS_cell (S:=S) (by subst hS;simp) cI
    have HBM:Hid (bm∈S):=by show bm∈S;subst hS;simp
    clear hma hbr hTr hn hnb cI0 cI hS HBw
    go_upto_region 10 with fail
    clear y4
    obtain⟨i0,hi0,hz0,hz1,hz2⟩:=info_parts infoNumS
    refine wp_region_mixS S (.one [0,1,2,3,4,5,6,7,8,9] 10 (.one [] 11 (.one [] 12 (tailOf [13,14,15])))) (fun j=>decide (13≤j)) (by kernel_rfl) (by kernel_rfl) rfl (by kernel_rfl) (fun _ d _ _ _ h=>by cases d <;> exact h) ?_
    have HBd:Hid (Below wr.heap.size wr wr.drew):=(Below.refl _ _).drew
    have M0:Hid (∀ b∈S,wr.drew.heap[b]?=wr.heap[b]?):=fun b _=>rfl
    generalize wr.drew=w0 at *
    refine mix_one (by simp only[opsOf,List.filterMap_cons,List.filterMap_nil,List.getElem?_toArray,List.getElem?_cons_succ,List.getElem?_cons_zero];rfl) ⟨_,keepS_of M0.out⟩ ?_
    change wpQuiet _ _ _ _ [_,_,_,_,_,_,_,_,_,_] _
    (repeat (go_big_quiet_step (fail)))
    refine wpQuiet_nil ?_
    clear l8 l4 lI
    have hmk:=HMK.out
    have hSw:∀ b∈S,b<wr.heap.size:=fun b hb=>by have:=HS6.out b hb;omega
    have hal:=(Below.refl w0.heap.size w0).alloc (Nat.le_refl _) (.cells (u64s (List.replicate nn 0)) 58)
    have B1:=hid (bcomp HBd.out hal)
    have G1:=hid (heap_alloc_new w0 (.cells (u64s (List.replicate nn 0)) 58))
    have M1:Hid (∀ b∈S,(w0.alloc (.cells (u64s (List.replicate nn 0)) 58)).heap[b]?=wr.heap[b]?):=fun b hb=>B1.out.block b (hSw b hb)
    clear hal
    refine mix_step rfl ?_
    go_wp2_with fail
    refine⟨fun _=>⟨_,keepS_of M1.out⟩,?_⟩
    refine mix_now ?_
    refine mix_step rfl ?_
    go_wp2_with fail
    have hs1:(w0.alloc (.cells (u64s (List.replicate nn 0)) 58)).heap.size=w0.heap.size+1:=by simp
    generalize w0.alloc (.cells (u64s (List.replicate nn 0)) 58)=w1 at *
    have hal2:=(Below.refl w1.heap.size w1).alloc (Nat.le_refl _) (.cells #[.slice (some ⟨w0.heap.size,0,none⟩) nn nn] 61)
    have B2:=hid (bcomp B1.out hal2)
    have G2:=hid ((hal2.block _ (gsRNd G1.out)).trans G1.out)
    have M2:Hid (∀ b∈S,(w1.alloc (.cells #[.slice (some ⟨w0.heap.size,0,none⟩) nn nn] 61)).heap[b]?=wr.heap[b]?):=fun b hb=>B2.out.block b (hSw b hb)
    have hown:=own_below HMA.out.own B2.out
    have hnews:=many_new w1 (kSlc.cells (w0.heap.size,nn)) 61
    clear hal2
    refine⟨fun _=>⟨_,keepS_of M2.out⟩,?_⟩
    refine mix_now ?_
    refine mix_step rfl ?_
    have h1c:∀ u∈kSlc.cells (w0.heap.size,nn),u.oneCell'=true:=by intro u hu;simp at hu;subst hu;rfl
    have hal32:f.arrays.length≤32:=HH.out.arrays
    rw[hs1] at hnews
    have hm1:k+1≤maxLen:=by unfold maxLen;omega
    have hb9:W6.heap.size≤(w1.alloc (.cells #[.slice (some ⟨w0.heap.size,0,none⟩) nn nn] 61)).heap.size:=by have:=B2.out.size;omega
    try (simp only[Act.put,List.setIfInBounds_toArray,List.set_cons_succ,List.set_cons_zero,List.getElem_toArray,List.getElem_cons_succ,List.getElem_cons_zero])
    refine wpList_append_own_at _ rfl (.tmp 40) (.tmp 47) 35 rfl W6.heap.size 61 i0 (.slice none 0 0) 1 24 Tryz.underlying35 hi0 hz0 hz1 hz2 rfl (by decide) _ _ _ rfl hown ⟨w0.heap.size+1,0,none⟩ 1 1 (kSlc.cells (w0.heap.size,nn)) rfl rfl hnews h1c hm1 (by omega) hb9 ?_
    intro v' w4 hown' hgrow _ hblk
    have hgrow:(w1.alloc (.cells #[.slice (some ⟨w0.heap.size,0,none⟩) nn nn] 61)).grownBy w4 (Value.slice va k vc).ownBlock:=hgrow
    have hM4:∀ b∈S,w4.heap[b]?=wr.heap[b]?:=fun b hb=>(hgrow.block b (by have:=HS6.out b hb;omega) (fun e=>by have:=own_row_le hown b e.symm;have:=HS6.out b hb;omega)).trans (M2.out b hb)
    have hbx4:=(hM4 bm HBM.out).trans HBR.out
    obtain⟨ya,yc,rfl,-⟩:=own_read hown'
    have HST:=hid (HMA.out.step B2.out (x:=w0.heap.size) (n:=nn) HBd.out.size G2.out HNn.out HTr.out.size hown' hgrow (HS6.out bm HBM.out) 8 (.slice ya (k+1) yc))
    have HT5:=hid (((HTr.out.trans (Turn.of_below B2.out)).grownUp hgrow (fun b e=>own_row_le hown b e)).setCell (a:=⟨bm,8,none⟩) rfl (.slice ya (k+1) yc))
    have HB5:Hid ((w4.setCell ⟨bm,8,none⟩ (.slice ya (k+1) yc)).heap[bm]?=some (.cells #[.int .i64 f.width,.int .i64 f.regs,c2,c3,c4,kv',iv',.slice (some ⟨gb,0,none⟩) rg rg,.slice ya (k+1) yc,.int .i64 0,.int .u8 0,.int .i64 0,.slice none 0 0,.slice none 0 0,.slice none 0 0,.slice none 0 0] 120 (0,0))):=by
     show _=_
     rw[heap_setCell_same _ _ _ _ _ _ hbx4];rfl
    clear hown' hgrow hblk hown hnews
    simp only[Act.put,List.setIfInBounds_toArray,List.set_cons_succ,List.set_cons_zero,List.getElem_toArray,List.getElem_cons_succ,List.getElem_cons_zero]
    go_wp2_with fail
    refine⟨⟨_,keepS_of hM4⟩,?_⟩
    have c8:=row_of hbx4 8 (.slice va k vc) rfl
    have f8:=frozen_of_row w4 bm 8 _ _ hbx4
    clear hbx4 hM4
    refine mix_tail [13,14,15] [_,_,_] _ _ rfl rfl ?_
    simp only[Act.put,List.setIfInBounds_toArray,List.set_cons_succ,List.set_cons_zero,List.getElem_toArray,List.getElem_cons_succ,List.getElem_cons_zero]
    go_wp2_with fail
    go_roundw
    case rel=>exact⟨k+1,_,_,by omega,by go_num,HST.out,HB5.out,HT5.out⟩
    case measure=>simp[intOf];omega
   ·obtain rfl:k=f.arrays.length:=by omega
    have hk1:¬ (f.arrays.length:Int)<(f.arrays.length:Int):=by omega
    have hsz:=hTr.size
    have HBw:=hid (hTr.below HB6.out (fun b e=>by subst e;omega))
    have y2:=row_of HGr.out 2 (.slice ca f.chans.length cc) rfl
    have y4:=row_of HGr.out 4 (.slice aa f.arrays.length ac) rfl
    have HMA:=hid hma
    have HBR:=hid hbr
    have HTr:=hid hTr
    clear hma hbr hTr
    go_upto_region 11 with fail
    have hmk:=HMK3.out
    have hal:=(Below.refl wr.heap.size wr).alloc (Nat.le_refl _) (.cells (i64s (List.replicate f.chans.length 0)) 3)
    have hdn:=heap_alloc_new wr (.cells (i64s (List.replicate f.chans.length 0)) 3)
    have hbx:=(hal.block bm (by omega)).trans HBR.out
    have HTH:=hid (there_of hbx 10 6 (by simp))
    have hbe:=set6 hbx (.int .u8 2) (.int .i64 0) (.slice none 0 0) (.slice none 0 0) (.slice none 0 0) (.slice (some ⟨wr.heap.size,0,none⟩) f.chans.length f.chans.length)
    have htt:=set6_turn (wr.alloc (.cells (i64s (List.replicate f.chans.length 0)) 3)) bm (.int .u8 2) (.int .i64 0) (.slice none 0 0) (.slice none 0 0) (.slice none 0 0) (.slice (some ⟨wr.heap.size,0,none⟩) f.chans.length f.chans.length)
    have hs1:(wr.alloc (.cells (i64s (List.replicate f.chans.length 0)) 3)).heap.size=wr.heap.size+1:=by simp
    have HFIN:Hid (RefIn0 (fun b=>w.heap.size≤b∧b<((wr.alloc (.cells (i64s (List.replicate f.chans.length 0)) 3)).setCells bm 10 [.int .u8 2,.int .i64 0,.slice none 0 0,.slice none 0 0,.slice none 0 0,.slice (some ⟨wr.heap.size,0,none⟩) f.chans.length f.chans.length]).heap.size) ((wr.alloc (.cells (i64s (List.replicate f.chans.length 0)) 3)).setCells bm 10 [.int .u8 2,.int .i64 0,.slice none 0 0,.slice none 0 0,.slice none 0 0,.slice (some ⟨wr.heap.size,0,none⟩) f.chans.length f.chans.length]) bm f L (newM f)∧Below w.heap.size w ((wr.alloc (.cells (i64s (List.replicate f.chans.length 0)) 3)).setCells bm 10 [.int .u8 2,.int .i64 0,.slice none 0 0,.slice none 0 0,.slice none 0 0,.slice (some ⟨wr.heap.size,0,none⟩) f.chans.length f.chans.length])):=by
     show _∧_
     have hTT:=(Turn.of_below (B:=fun y=>y=bm) hal).trans htt
     have hT6:=HTr.out.trans hTT
     have hX:=HX.out
     have hrt:f.regs.toNat=rg:=by have:=HRG.out;omega
     have hs6:=hX.a1
     have hs7:=hX.a2
     have hs8:=hX.a3
     have hs9:=hX.a4
     have hgl:=hX.g2
     have hst:∀ b,b<W6.heap.size→b≠bm→((wr.alloc (.cells (i64s (List.replicate f.chans.length 0)) 3)).setCells bm 10 [.int .u8 2,.int .i64 0,.slice none 0 0,.slice none 0 0,.slice none 0 0,.slice (some ⟨wr.heap.size,0,none⟩) f.chans.length f.chans.length]).heap[b]?=W6.heap[b]?:=fun b hb hne=>hT6.block b hb hne
     have hgm:gb≠bm:=row_ne hX.regs hX.box (by decide)
     have hsT:=htt.size
     have hdn':=(htt.block wr.heap.size (by omega) (by omega)).trans hdn
     generalize ((wr.alloc (.cells (i64s (List.replicate f.chans.length 0)) 3)).setCells bm 10 [.int .u8 2,.int .i64 0,.slice none 0 0,.slice none 0 0,.slice none 0 0,.slice (some ⟨wr.heap.size,0,none⟩) f.chans.length f.chans.length])=WE at *
     refine⟨ref_new_at (l1:=l1) (h1:=h1) (l3:=l3) (h3:=h3) (s9:=W6.heap.size) (gb:=gb) (db:=wr.heap.size) (rg:=rg) (bs:=bs) (av:=av) (c2:=c2) (c3:=c3) (c4:=c4) (kv:=kv') (iv:=iv') (RdFlat.same hX.flat (fun b hb hlt=>hst b hlt (fun e=>hX.b3 (e ▸ hb))) (fun _ _ k=>k)) (hX.ins.same (fun b hb hlt=>hst b hlt (fun e=>hX.b4 (e ▸ hb))) (fun _ _ k=>k)) ((hst gb hgl hgm).trans hX.regs) hrt hdn' (HMA.out.same fun b hb hlt=>hTT.block b hlt (by have:=hX.b2;omega)) (by have:=HH.out.arrays;omega) hbe (by omega) ⟨by have:=hX.g1;omega,hgl,hX.g3,hX.g4⟩ ⟨by omega,hb2,hX.b3,hX.b4⟩ (by omega) (by omega) (by omega),hTT.below HBw.out (fun b e=>by subst e;omega)⟩
    clear hal hdn hbx hbe htt hs1
    go_wp2_with (refine wpList_store_mid rfl 52 (.tmp 58) (.tmp 56) rfl bm 10 #[.int .u8 2,.int .i64 0,.slice none 0 0,.slice none 0 0,.slice none 0 0,.slice (some ⟨wr.heap.size,0,none⟩) f.chans.length f.chans.length] rfl rfl ?hth (by as_aux_lemma=>kernel_rfl) (by as_aux_lemma=>kernel_rfl) ?_;exact HTH.out)
    go_ret2
    exact⟨bm,rfl,HFIN.out.1,HFIN.out.2⟩
theorem RefIn0.mono {G G':Nat→Prop} {w:World} {bm:Nat} {f:FlatD} {ins:List (List Int)} {m:MachD} (h:RefIn0 G w bm f ins m) (k:∀ b,G b→G' b):RefIn0 G' w bm f ins m:=by
 obtain⟨I,c2,c3,c4,kv,iv,av,ov,rv,bv,gb,db,bs,h⟩:=h
 exact⟨I,c2,c3,c4,kv,iv,av,ov,rv,bv,gb,db,bs,h.mono k⟩
def RefNw (n0:Nat) (w:World) (bm:Nat) (f:FlatD) (ins:List (List Int)) (m:MachD):Prop:=RefIn0 (fun b=>n0≤b∧b<w.heap.size) w bm f ins m
theorem stepRef {a w:World} {bm:Nat} {f:FlatD} {ins:List (List Int)} {m:MachD} (h:RefNw a.heap.size w bm f ins m) (hb:Below a.heap.size a w) (hh:HeadP f) {k:Nat} (g:Going f m k) (hk:k<1000000) (hins:ins.length≤1000) :
  Calls Tryz.prog 62 #[.pointer (some ⟨bm,0,none⟩)] w fun e w'=>e=.returned (.bool (m.t.status==2))∧RefNw a.heap.size w' bm f ins (stepM f ins m)∧Below a.heap.size a w':=by
 obtain⟨I,c2,c3,c4,kv,iv,av,ov,rv,bv,gb,db,bs,h⟩:=h
 refine (refStep h hh g.good hins (fun b hb=>hb.2) (by have:=g.steps;omega) g.pc0 g.pc1).mono fun e w' ⟨he,hp⟩=>⟨he,?_,hp.2.below hb fun _ h=>h.1⟩
 exact hp.1.mono fun b hb'=>hb'.elim (fun h=>⟨h.1,Nat.lt_of_lt_of_le h.2 hp.2.size⟩) (fun h=>⟨by have:=hb.size;omega,h.2⟩)
theorem ints_in {W:World} {g:Nat} {l:List Int} {G:Nat→Prop} (hG:G g) (hg:W.heap[g]?=some (.cells (i64s l) 3 (0,0))) (hz:l.length≤1000) (hv:∀ x∈l,InI64 x):RdRow kInt (some G) W (.slice (some ⟨g,0,none⟩) l.length l.length) l:=by
 refine⟨_,l.length,rfl,⟨by show l.length*8≤_;omega,Nat.le_refl _⟩,fun i x hx=>⟨g,0,rfl,Free.of hG hg,fun j u hj=>?_,hv x (List.mem_of_getElem? hx)⟩⟩
 have:j=0∧u=.int .i64 x:=by
  cases j with
  | zero=>simp[cellsInt] at hj;exact⟨rfl,hj.symm⟩
  | succ j=>simp[cellsInt] at hj
 obtain⟨rfl,rfl⟩:=this
 have:=row_of hg i _ (i64s_get l i x hx)
 simpa using this
theorem RefAt.trace {G I:Nat→Prop} {w:World} {bm:Nat} {f:FlatD} {ins:List (List Int)} {m:MachD} {c2 c3 c4 kv iv av ov rv bv:Value} {gb db:Nat} {bs:List Nat} (h:RefAt G I w bm f ins m c2 c3 c4 kv iv av ov rv bv gb db bs) (hh:HeadP f) (g:Good f m) (hfew:m.t.steps≤1000000) {n0:Nat} (hG:∀ b,G b→n0≤b) :
  RdTrace (some (upFrom n0)) w m.t ov rv bv (.slice (some ⟨db,0,none⟩) m.t.reads.length m.t.reads.length):=by
 have ho:=(own_block (K:=kEv) h.mem.outs (by show m.t.outs.length*16≤_;have:=g.outs;omega) g.ov)
 have hr:=(own_block (K:=kEv) h.mem.rels (by show m.t.rels.length*16≤_;have:=g.rels;omega) g.lv)
 have hb:=(own_block (K:=kBool) h.mem.brs (by show m.t.brs.length*1≤_;have:=g.brs;omega) (fun _ _=>trivial))
 have hd:=ints_in (G:=G) h.mem.sep.2.2.1 h.mem.reads (by have:=g.reads;have:=hh.chans;omega) (fun x hx=>by have:=g.rd x hx;exact⟨by omega,by omega⟩)
 have hst:InU8 m.t.status∧InI64 m.t.steps:=⟨by rcases g.st with e|e|e <;> rw[e] <;> exact⟨by decide,by decide⟩,by have:=g.steps;exact⟨by omega,by omega⟩⟩
 exact⟨ho.same (fun _ _ _=>rfl) (fun b _ e=>hG b (h.mem.osep.1 b e).1),hr.same (fun _ _ _=>rfl) (fun b _ e=>hG b (h.mem.osep.2.1 b e).1),hb.same (fun _ _ _=>rfl) (fun b _ e=>hG b (h.mem.osep.2.2 b e).1),hd.same (fun _ _ _=>rfl) (fun b _ e=>hG b e),hst⟩
theorem range_of {w:World} {b:Nat} {cs:Array Value} {T:TypeId} (h:w.heap[b]?=some (.cells cs T (0,0))) (o:Nat) (l:List Value) (hl:(cs.toList.drop o).take l.length=l):w.rangeAt b o l:=fun j v hj=>by
 refine row_of h (o+j) v ?_
 have hlt:=(List.getElem?_eq_some_iff.1 hj).1
 rw[← hl,List.getElem?_take,if_pos hlt,List.getElem?_drop] at hj
 rw[← Array.getElem?_toList];exact hj
theorem RefNw.cells {n0:Nat} {w:World} {bm:Nat} {f:FlatD} {ins:List (List Int)} {m:MachD} (h:RefNw n0 w bm f ins m) (hh:HeadP f) {k:Nat} (g:Going f m k) (hk:k≤1000000) :
  ∃ xa1 xc1 xa2 xc2 xa3 xc3 db,w.rangeAt bm 10 [.int .u8 m.t.status,.int .i64 m.t.steps,.slice xa1 m.t.outs.length xc1,.slice xa2 m.t.rels.length xc2,.slice xa3 m.t.brs.length xc3,.slice (some ⟨db,0,none⟩) m.t.reads.length m.t.reads.length]∧bm<w.heap.size∧RdTrace (some (upFrom n0)) w m.t (.slice xa1 m.t.outs.length xc1) (.slice xa2 m.t.rels.length xc2) (.slice xa3 m.t.brs.length xc3) (.slice (some ⟨db,0,none⟩) m.t.reads.length m.t.reads.length):=by
 obtain⟨I,c2,c3,c4,kv,iv,av,ov,rv,bv,gb,db,bs,h⟩:=h
 have ht:=h.trace hh g.good (by have:=g.steps;omega) (n0:=n0) (fun b hb=>hb.1)
 obtain⟨xa1,xc1,rfl⟩:=ht.1.is
 obtain⟨xa2,xc2,rfl⟩:=ht.2.1.is
 obtain⟨xa3,xc3,rfl⟩:=ht.2.2.1.is
 exact⟨xa1,xc1,xa2,xc2,xa3,xc3,db,range_of h.box 10 _ rfl,(gsRNd h.box),ht⟩
theorem refRun (f:FlatD) (cv sv av kv iv:Value) (L:List (List Int)) (steps:Int) (w:World) (hF:RdFlat none w f cv sv av kv) (hI:RdLists none w iv L) (hst:InI64 steps) (hn:L.length≤1000000) :
  Calls Tryz.prog 34 #[flatV f cv sv av kv,.int .i64 steps,iv] w (RunSaid (runT f L steps) (errRun f L.length steps) w):=by
 obtain⟨er,her⟩:∃ er,errRun f L.length steps=er:=⟨_,rfl⟩
 obtain⟨RT,hRT⟩:∃ RT,runT f L steps=RT:=⟨_,rfl⟩
 rw[her,hRT]
 rw[runT,her] at hRT
 obtain⟨ca,cc,rfl⟩:=hF.1.is
 obtain⟨sa,sc,rfl⟩:=hF.2.1.is
 obtain⟨aa,ac,rfl⟩:=hF.2.2.1.is
 obtain⟨ka,kc,rfl⟩:=hF.2.2.2.1.is
 obtain⟨ia,ic,rfl⟩:=hI.is
 have hal:=((Below.refl w.heap.size w).alloc (Nat.le_refl _) (.cells #[.int .i64 f.width,.int .i64 f.regs,.slice ca f.chans.length cc,.slice sa f.sites.length sc,.slice aa f.arrays.length ac,.slice ka f.code.length kc] 26)).alloc (by simp) (.cells #[.int .u8 0,.int .i64 0,.slice none 0 0,.slice none 0 0,.slice none 0 0,.slice none 0 0] 52)
 have hbb:=heap2_of (w:=w) (A:=(.cells #[.int .i64 f.width,.int .i64 f.regs,.slice ca f.chans.length cc,.slice sa f.sites.length sc,.slice aa f.arrays.length ac,.slice ka f.code.length kc] 26)) (B:=(.cells #[.int .u8 0,.int .i64 0,.slice none 0 0,.slice none 0 0,.slice none 0 0,.slice none 0 0] 52)) (Below.refl _ _)
 have HF:=hid (hF.keep hal)
 have HI:=hid (hI.keep hal)
 have HG:=hid hbb.1
 have HT:=hid hbb.2.1
 have HB:=hid hal
 clear hF hI hal hbb hst
 go_enter Tryz.func34,Tryz.ntmps34
 go_upto_region 1 with fail
 generalize ((w.alloc (.cells #[.int .i64 f.width,.int .i64 f.regs,.slice ca f.chans.length cc,.slice sa f.sites.length sc,.slice aa f.arrays.length ac,.slice ka f.code.length kc] 26)).alloc (.cells #[.int .u8 0,.int .i64 0,.slice none 0 0,.slice none 0 0,.slice none 0 0,.slice none 0 0] 52))=W at *
 have hs1:w.heap.size+1<W.heap.size:=(gsRNd HT.out)
 have HZ:=hid (fun w'=>zeroT_rd (some (upFrom w.heap.size)) w')
 by_cases hr:steps<1 ∨ 65536<steps
 ·have he:er=3:=by rw[← her,errRun,if_pos hr]
  obtain rfl:RT=zeroT:=by rw[← hRT,if_neg (by omega)]
  obtain rfl:er=3:=he
  clear her hRT
  rcases hr with hr|hr
  ·go_wp2_with (refine wpList_store_row rfl 52 (.tmp 6) (.tmp 17) rfl (w.heap.size+1) #[.int .u8 0,.int .i64 0,.slice none 0 0,.slice none 0 0,.slice none 0 0,.slice none 0 0] rfl rfl 52 #[.int .u8 0,.int .i64 0,.slice none 0 0,.slice none 0 0,.slice none 0 0,.slice none 0 0] ?h1 (by as_aux_lemma=>kernel_rfl) (by as_aux_lemma=>kernel_rfl) (by as_aux_lemma=>kernel_rfl) ?_;exact HT.out)
   refine bodyPost_ret (v:=.tuple #[.agg #[.int .u8 0,.int .i64 0,.slice none 0 0,.slice none 0 0,.slice none 0 0,.slice none 0 0],.int .i64 3]) ?_ rfl ⟨_,_,_,_,rfl,HZ.out _,below_row HB.out (by omega) _⟩
   exact results_cell_tmp (P:=Tryz.prog) (fn:=Tryz.f34) rfl _ _ (w.heap.size+1) 52 #[.int .u8 0,.int .i64 0,.slice none 0 0,.slice none 0 0,.slice none 0 0,.slice none 0 0] (0,0) _ rfl (setRow_heap _ _ _ _ _ _ HT.out) Tryz.underlying52 rfl (by as_aux_lemma=>kernel_rfl)
  ·have hr0:¬ steps<1:=by omega
   go_wp2_with (refine wpList_store_row rfl 52 (.tmp 6) (.tmp 17) rfl (w.heap.size+1) #[.int .u8 0,.int .i64 0,.slice none 0 0,.slice none 0 0,.slice none 0 0,.slice none 0 0] rfl rfl 52 #[.int .u8 0,.int .i64 0,.slice none 0 0,.slice none 0 0,.slice none 0 0,.slice none 0 0] ?h2 (by as_aux_lemma=>kernel_rfl) (by as_aux_lemma=>kernel_rfl) (by as_aux_lemma=>kernel_rfl) ?_;exact HT.out)
   refine bodyPost_ret (v:=.tuple #[.agg #[.int .u8 0,.int .i64 0,.slice none 0 0,.slice none 0 0,.slice none 0 0,.slice none 0 0],.int .i64 3]) ?_ rfl ⟨_,_,_,_,rfl,HZ.out _,below_row HB.out (by omega) _⟩
   exact results_cell_tmp (P:=Tryz.prog) (fn:=Tryz.f34) rfl _ _ (w.heap.size+1) 52 #[.int .u8 0,.int .i64 0,.slice none 0 0,.slice none 0 0,.slice none 0 0,.slice none 0 0] (0,0) _ rfl (setRow_heap _ _ _ _ _ _ HT.out) Tryz.underlying52 rfl (by as_aux_lemma=>kernel_rfl)
 ·have hr1:¬ steps<1:=by omega
  have hr2:¬ 65536<steps:=by omega
  have hee:errNew f L.length=er:=by rw[← her,errRun,if_neg hr]
  clear her hr
  have g0:=row_of HG.out 0 (.int .i64 f.width) rfl
  have g1:=row_of HG.out 1 (.int .i64 f.regs) rfl
  have g2:=row_of HG.out 2 (.slice ca f.chans.length cc) rfl
  have g3:=row_of HG.out 3 (.slice sa f.sites.length sc) rfl
  have g4:=row_of HG.out 4 (.slice aa f.arrays.length ac) rfl
  have g5:=row_of HG.out 5 (.slice ka f.code.length kc) rfl
  by_cases hb:flatOk f=false ∨ f.chans.length<L.length
  ·have hne:er≠0:=by
    rw[← hee,errNew]
    rcases hb with h|h
    ·rw[h];simp
    ·split <;> first|decide|(rw[if_pos h];decide)
   obtain rfl:RT=zeroT:=by rw[← hRT,if_neg hne]
   have he:(if flatOk f then (5:Int) else 2)=er:=by
    rw[← hee,errNew]
    rcases hb with h|h
    ·rw[h];rfl
    ·rw[if_pos h]
   have HC:=hid (refNewBad f _ _ _ _ ia L.length ic W HF.out hn hb)
   rw[he] at HC
   have hne1:(er != 0)=true:=by simpa using hne
   clear hRT he hee hb hne
   go_upto_region 5 with (go_at_call 61;refine HC.out.mono ?_;rintro e w2 ⟨rfl,hb2⟩)
   have HT2:=hid ((hb2.block _ (gsRNd HT.out)).trans HT.out)
   have HB2:=hid (bcomp HB.out hb2)
   clear hb2 g0 g1 g2 g3 g4 g5
   go_wp2_with (refine wpList_store_row rfl 52 (.tmp 6) (.tmp 26) rfl (w.heap.size+1) #[.int .u8 0,.int .i64 0,.slice none 0 0,.slice none 0 0,.slice none 0 0,.slice none 0 0] rfl rfl 52 #[.int .u8 0,.int .i64 0,.slice none 0 0,.slice none 0 0,.slice none 0 0,.slice none 0 0] ?h3 (by as_aux_lemma=>kernel_rfl) (by as_aux_lemma=>kernel_rfl) (by as_aux_lemma=>kernel_rfl) ?_;exact HT2.out)
   refine bodyPost_ret (v:=.tuple #[.agg #[.int .u8 0,.int .i64 0,.slice none 0 0,.slice none 0 0,.slice none 0 0,.slice none 0 0],.int .i64 er]) ?_ rfl ⟨_,_,_,_,rfl,HZ.out _,below_row HB2.out (by omega) _⟩
   exact results_cell_tmp (P:=Tryz.prog) (fn:=Tryz.f34) rfl _ _ (w.heap.size+1) 52 #[.int .u8 0,.int .i64 0,.slice none 0 0,.slice none 0 0,.slice none 0 0,.slice none 0 0] (0,0) _ rfl (setRow_heap _ _ _ _ _ _ HT2.out) Tryz.underlying52 rfl (by as_aux_lemma=>kernel_rfl)
  ·have hok:flatOk f=true:=by
    cases h:flatOk f
    ·exact absurd (.inl h) hb
    ·rfl
   have hle:L.length≤f.chans.length:=by omega
   obtain rfl:er=0:=by rw[← hee,errNew,if_pos hok,if_neg (by omega)]
   rw[if_pos rfl] at hRT
   have hh:=headP hok
   have hci:∀ c∈f.code,CodeIn c:=HF.out.2.2.2.1.ok
   obtain⟨n,rfl⟩:∃ n:Nat,steps=n:=⟨steps.toNat,by omega⟩
   rw[Int.toNat_natCast,runM,← iterM_pad] at hRT
   have hins:L.length≤1000:=by have:=hh.chans;omega
   have HC:=hid (refNew f _ _ _ _ _ L W HF.out HI.out hok hle)
   have HG':=hid (fun (k:Nat)=>going_run (ins:=L) hh hci k)
   have HH:=hid hh
   have HIN:=hid hins
   have HRT0:=hid hRT
   clear hok hh hci hins hRT hee hb
   go_upto_region 6 with (go_at_call 61;refine HC.out.mono ?_;rintro e w2 ⟨bm,rfl,hm2,hb2⟩)
   have HM2:Hid (RefNw W.heap.size w2 bm f L (iterM f L 0 (newM f))):=hm2
   have HB2:=hid hb2
   clear hm2 hb2 g0 g1 g2 g3 g4 g5
   go_wp2_with fail
   go_loopw [10] (fun i wr=>∃ k:Nat,k≤n∧i=.int .i64 k∧RefNw W.heap.size wr bm f L (iterM f L k (newM f))∧Below W.heap.size W wr) (fun i _=>n-(intOf i).toNat)
   case atStart=>exact⟨0,Nat.zero_le _,rfl,HM2.out,HB2.out⟩
   case round=>
    obtain⟨k,hk,rfl,hmr,hbr⟩:=hrel
    have HTr:=hid ((hbr.block _ hs1).trans HT.out)
    have HBR:=hid (bcomp HB.out hbr)
    by_cases hlt:k<n
    ·have hk1:(k:Int)<(n:Int):=by omega
     have HS:=hid (stepRef hmr hbr HH.out (HG'.out k) (by omega) HIN.out)
     rw[← iterM_succ] at HS
     by_cases hs:(iterM f L k (newM f)).t.status=2
     ·rw[hs] at HS
      have hs2:((2:Int)==2)=true:=rfl
      clear hmr hbr
      go_wp2_with (go_at_call 62;refine HS.out.mono ?_;rintro e w3 ⟨rfl,hm3,hb3⟩)
      go_roundw
      case rel=>exact⟨k+1,by omega,by go_num,hm3,hb3⟩
      case measure=>simp[intOf];omega
     ·have hs2:((iterM f L k (newM f)).t.status==2)=false:=by simpa using hs
      have hst:=step_end (f:=f) (ins:=L) hs
      rw[iterM_succ,hst] at HS
      have hall:(iterM f L n (newM f))=iterM f L k (newM f):=by
       rw[show n=k+(n-k) by omega,iterM_add,iter_end hs]
      obtain rfl:RT=(iterM f L k (newM f)).t:=by rw[← HRT0.out,hall]
      clear hall hst hs HRT0 hmr hbr HTr HBR
      have HGo:=hid (HG'.out k)
      generalize iterM f L k (newM f)=m at *
      go_upto_region 9 with (go_at_call 62;refine HS.out.mono ?_;rintro e w3 ⟨rfl,hm3,hb3⟩)
      have HTr:=hid ((hb3.block _ hs1).trans HT.out)
      have HBR:=hid (bcomp HB.out hb3)
      obtain⟨xa1,xc1,xa2,xc2,xa3,xc3,db,hra,hbl,hrt⟩:=hm3.cells HH.out HGo.out (by omega)
      have HRA:=hid hra
      have HRT:=hid hrt
      clear hm3 hb3 hra hrt
      go_wp2_with (first|(refine wpList_load_mid rfl 52 (.tmp 39) rfl bm 10 rfl [.int .u8 m.t.status,.int .i64 m.t.steps,.slice xa1 m.t.outs.length xc1,.slice xa2 m.t.rels.length xc2,.slice xa3 m.t.brs.length xc3,.slice (some ⟨db,0,none⟩) m.t.reads.length m.t.reads.length] _ ?hm1 Tryz.underlying52 rfl (by as_aux_lemma=>kernel_rfl) ?_;exact HRA.out)|(refine wpList_store_row rfl 52 (.tmp 6) (.tmp 40) rfl (w.heap.size+1) #[.int .u8 m.t.status,.int .i64 m.t.steps,.slice xa1 m.t.outs.length xc1,.slice xa2 m.t.rels.length xc2,.slice xa3 m.t.brs.length xc3,.slice (some ⟨db,0,none⟩) m.t.reads.length m.t.reads.length] rfl rfl 52 #[.int .u8 0,.int .i64 0,.slice none 0 0,.slice none 0 0,.slice none 0 0,.slice none 0 0] ?hm2 (by as_aux_lemma=>kernel_rfl) (by as_aux_lemma=>kernel_rfl) (by as_aux_lemma=>kernel_rfl) ?_;exact HTr.out))
      refine bodyPost_ret (v:=.tuple #[.agg #[.int .u8 m.t.status,.int .i64 m.t.steps,.slice xa1 m.t.outs.length xc1,.slice xa2 m.t.rels.length xc2,.slice xa3 m.t.brs.length xc3,.slice (some ⟨db,0,none⟩) m.t.reads.length m.t.reads.length],.int .i64 0]) ?_ rfl ⟨_,_,_,_,rfl,HRT.out.setRow (by omega) (by omega) _,below_row HBR.out (by omega) _⟩
      exact results_cell_tmp (P:=Tryz.prog) (fn:=Tryz.f34) rfl _ _ (w.heap.size+1) 52 #[.int .u8 m.t.status,.int .i64 m.t.steps,.slice xa1 m.t.outs.length xc1,.slice xa2 m.t.rels.length xc2,.slice xa3 m.t.brs.length xc3,.slice (some ⟨db,0,none⟩) m.t.reads.length m.t.reads.length] (0,0) _ rfl (setRow_heap _ _ _ _ _ _ HTr.out) Tryz.underlying52 rfl (by as_aux_lemma=>kernel_rfl)
    ·obtain rfl:k=n:=by omega
     obtain rfl:RT=(iterM f L k (newM f)).t:=HRT0.out.symm
     have hk1:¬ (k:Int)<(k:Int):=by omega
     obtain⟨xa1,xc1,xa2,xc2,xa3,xc3,db,hra,hbl,hrt⟩:=hmr.cells HH.out (HG'.out k) (by omega)
     have HRA:=hid hra
     have HRT:=hid hrt
     clear hmr hbr HRT0 hra hrt
     generalize iterM f L k (newM f)=m at *
     go_upto_region 9 with fail
     go_wp2_with (first|(refine wpList_load_mid rfl 52 (.tmp 39) rfl bm 10 rfl [.int .u8 m.t.status,.int .i64 m.t.steps,.slice xa1 m.t.outs.length xc1,.slice xa2 m.t.rels.length xc2,.slice xa3 m.t.brs.length xc3,.slice (some ⟨db,0,none⟩) m.t.reads.length m.t.reads.length] _ ?hm3 Tryz.underlying52 rfl (by as_aux_lemma=>kernel_rfl) ?_;exact HRA.out)|(refine wpList_store_row rfl 52 (.tmp 6) (.tmp 40) rfl (w.heap.size+1) #[.int .u8 m.t.status,.int .i64 m.t.steps,.slice xa1 m.t.outs.length xc1,.slice xa2 m.t.rels.length xc2,.slice xa3 m.t.brs.length xc3,.slice (some ⟨db,0,none⟩) m.t.reads.length m.t.reads.length] rfl rfl 52 #[.int .u8 0,.int .i64 0,.slice none 0 0,.slice none 0 0,.slice none 0 0,.slice none 0 0] ?hm4 (by as_aux_lemma=>kernel_rfl) (by as_aux_lemma=>kernel_rfl) (by as_aux_lemma=>kernel_rfl) ?_;exact HTr.out))
     refine bodyPost_ret (v:=.tuple #[.agg #[.int .u8 m.t.status,.int .i64 m.t.steps,.slice xa1 m.t.outs.length xc1,.slice xa2 m.t.rels.length xc2,.slice xa3 m.t.brs.length xc3,.slice (some ⟨db,0,none⟩) m.t.reads.length m.t.reads.length],.int .i64 0]) ?_ rfl ⟨_,_,_,_,rfl,HRT.out.setRow (by omega) (by omega) _,below_row HBR.out (by omega) _⟩
     exact results_cell_tmp (P:=Tryz.prog) (fn:=Tryz.f34) rfl _ _ (w.heap.size+1) 52 #[.int .u8 m.t.status,.int .i64 m.t.steps,.slice xa1 m.t.outs.length xc1,.slice xa2 m.t.rels.length xc2,.slice xa3 m.t.brs.length xc3,.slice (some ⟨db,0,none⟩) m.t.reads.length m.t.reads.length] (0,0) _ rfl (setRow_heap _ _ _ _ _ _ HTr.out) Tryz.underlying52 rfl (by as_aux_lemma=>kernel_rfl)
end Go.Proofs.YtkjkpddajjmloaaGreatDoor
