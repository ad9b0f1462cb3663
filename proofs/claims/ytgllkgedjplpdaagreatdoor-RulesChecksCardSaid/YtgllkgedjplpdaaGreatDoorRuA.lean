/- The walks of rules.levels and rules.Levels. Condition: what comes in reads as the plain data; the tables hold what they are laid with. -/
import Derived.Test.YtgllkgedjplpdaaGreatDoorAgH
import Derived.Test.YtgllkgedjplpdaaGreatDoorMRf
import Derived.Maps.OwnOps
import Derived.Maps.OwnSet
import Derived.Maps.RangeWalk
import Derived.Deep.CutRange
set_option linter.all false
set_option maxRecDepth 1000000
set_option maxHeartbeats 12800000
set_option linter.unusedVariables false
set_option linter.unusedSimpArgs false
namespace Go.Proofs.YtgllkgedjplpdaaGreatDoor
open Go.ChangeShapes Go.WideShapes Go.ChangeAt Go.RowKit
theorem nilRow {α:Type} (K:Kind α) (lo:Option (Nat->Prop)) (w:World):RdRow K lo w (.slice none 0 0) []:=⟨none,0,rfl,⟨by simp,by simp⟩,fun i x hx=>by simp at hx⟩
structure HeadP (f:FlatD):Prop where
 w1:1<=f.width
 w2:f.width<=64
 r0:0<=f.regs
 r1:f.regs<=2097152
 chans:f.chans.length<=32
 sites:f.sites.length<=32
 arrays:f.arrays.length<=32
 code0:1<=f.code.length
 code1:f.code.length<=4096
 arr:∀ n ∈ f.arrays,1<=n/\n<=64
 codes:∀ c ∈ f.code,codeOk f c=true
 last:lastK f=9 \/ lastK f=7
theorem headP {f:FlatD} (h:flatOk f=true):HeadP f:=by
 simp only [flatOk,headOk,namesOk,Bool.and_eq_true,Bool.or_eq_true,decide_eq_true_eq,List.all_eq_true,beq_iff_eq,arrOk] at h
 obtain ⟨⟨⟨⟨⟨⟨⟨⟨⟨h1,h2⟩,h3⟩,h4⟩,_,h5⟩,_,h6⟩,⟨h7,h8⟩,h9⟩,ha⟩,hc⟩,hl⟩:=h
 exact ⟨h1,h2,h3,h4,h5,h6,h7,h8,h9,ha,hc,hl⟩
def rulesErr (f:FlatD) (q:PolD):Int:=
 if flatE f ≠ 0 then flatE f else if polErr q ≠ 0 then polErr q else if (levelsOf q.chans f.chans).isNone then 6 else if (levelsOf q.sites f.sites).isNone then 6 else 0
def chansL (f:FlatD) (q:PolD):List Int:=(levelsOf q.chans f.chans).getD []
def sitesL (f:FlatD) (q:PolD):List Int:=(levelsOf q.sites f.sites).getD []
theorem levelsOf_append (l:List BindD):∀ (a b:List ByteArray),levelsOf l (a ++ b)=(levelsOf l a).bind fun xs=>(levelsOf l b).map (xs ++ ·)
 | [],b=>by
  show levelsOf l b=(levelsOf l b).map fun x=>[] ++ x
  cases levelsOf l b <;> rfl
 | s :: a,b=>by
  rw [List.cons_append,levelsOf,levelsOf]
  cases levelOf l s with
  | none=>rfl
  | some x=>
   simp only []
   rw [levelsOf_append l a b]
   cases levelsOf l a with
   | none=>rfl
   | some xs=>cases levelsOf l b <;> rfl
theorem levelsOf_one (l:List BindD) (s:ByteArray):levelsOf l [s]=(levelOf l s).map fun x=>[x]:=by
 rw [levelsOf]
 cases levelOf l s <;> rfl
theorem levelsOf_step {l:List BindD} {ns:List ByteArray} {k:Nat} {s:ByteArray} {xs:List Int} (h:levelsOf l (ns.take k)=some xs) (hs:ns[k]?=some s) :
  (∀ x,levelOf l s=some x->levelsOf l (ns.take (k+1))=some (xs ++ [x]))/\(levelOf l s=none->levelsOf l ns=none):=by
 have e:ns.take (k+1)=ns.take k ++ [s]:=by rw [List.take_add_one,hs];rfl
 have h1:levelsOf l (ns.take (k+1))=(levelOf l s).map fun x=>xs ++ [x]:=by
  rw [e,levelsOf_append,h,levelsOf_one]
  cases levelOf l s <;> rfl
 refine ⟨fun x hx=>by rw [h1,hx];rfl,fun hx=>?_⟩
 have e2:ns=ns.take (k+1) ++ ns.drop (k+1):=(List.take_append_drop _ _).symm
 rw [e2,levelsOf_append,h1,hx];rfl
theorem levelOf_ok {l:List BindD} (hl:∀ b ∈ l,InI64 b.level) {s:ByteArray} {x:Int} (h:levelOf l s=some x):InI64 x:=by
 rcases idxB_level s l 0 with ⟨_,h2⟩|⟨i,b,_,h2,h3⟩
 ·rw [h2] at h;cases h
 ·rw [h3] at h
  simp only [Option.some.injEq] at h
  subst h
  exact hl b (List.mem_of_getElem? h2)
def namesErr (l:List BindD) (ns:List ByteArray):Int:=if (levelsOf l ns).isNone then 6 else 0
theorem levels_any (bv nv:Value) (l:List BindD) (ns:List ByteArray) (w:World) (h:RdRow kBind none w bv l) (hn:RdRow kStr none w nv ns) (hlen:ns.length<=1000000) :
  Calls Tryz.prog 76 #[bv,nv] w fun e w'=>∃ v,e=.returned (.tuple #[v,.int .i64 (namesErr l ns)])/\Hid (RdRow kInt (some (upFrom w.heap.size)) w' v ((levelsOf l ns).getD []))/\Below w.heap.size w w':=by
 obtain ⟨na,nc,rfl⟩:=hn.is
 obtain ⟨i0,hi,hz0,hz1,hz2⟩:=info_parts infoIntM
 have HL:=Hd h
 have HN:=Hd hn
 have HOK:Hid (∀ b ∈ l,InI64 b.level):=fun b hb=>(h.ok b hb).2
 clear h hn
 obtain ⟨E,hE⟩:∃ E,namesErr l ns=E:=⟨_,rfl⟩
 obtain ⟨R,hR⟩:∃ R,(levelsOf l ns).getD []=R:=⟨_,rfl⟩
 rw [hE,hR]
 have HE:=Hd hE
 have HR:=Hd hR
 clear hE hR
 go_enter Tryz.func76,Tryz.ntmps76
 go_wp2_with fail
 go_loopw [6,13] (fun v i wr=>∃ (k:Nat) (xs:List Int),k<=ns.length/\i=.int .i64 k/\Hid (levelsOf l (ns.take k)=some xs)/\xs.length=k/\Hid (∀ x ∈ xs,InI64 x)/\wr.ownsRow w.heap.size 3 1 v k (xs.flatMap cellsInt)/\Below w.heap.size w wr) (fun _ i _=>ns.length - (intOf i).toNat)
 case atStart=>exact ⟨0,[],Nat.zero_le _,rfl,rfl,rfl,fun x hx=>by simp at hx,World.ownsRow_nil _ _ _ _,bR _ _⟩
 case round=>
  obtain ⟨k,xs,hk,rfl,HQ,hxl,HX,hown,hb⟩:=hrel
  obtain ⟨w1,rfl⟩:∃ x:World,x=wr:=⟨_,rfl⟩
  obtain ⟨va,vc,rfl,-⟩:=own_read hown
  have HB:=Hd hb
  have HOW:=Hd hown
  have HXL:=Hd hxl
  clear hb hown hxl
  by_cases hlt:k<ns.length
  ·have hlt1:(k:Int)<ns.length:=by omega
   obtain ⟨s,hs⟩:∃ s,ns[k]?=some s:=⟨_,lG hlt⟩
   obtain ⟨b,o,rfl,_,c0,_⟩:=atStr (HN.out.keep HB.out) hs
   obtain ⟨hst1,hst2⟩:=levelsOf_step HQ.out hs
   have HLV:=Hd (level_any bv l s w1 (HL.out.keep HB.out))
   clear hs
   cases hv:levelOf l s with
   | none=>
    rw [hv] at HLV
    have hno:=hst2 hv
    obtain rfl:E=6:=by rw [<- HE.out,namesErr,hno];rfl
    obtain rfl:R=[]:=by rw [<- HR.out,hno];rfl
    clear hst1 hst2 hv hno
    go_wp2_with (go_at_call 27;refine HLV.out.mono ?_;rintro e z1 ⟨rfl,hz⟩;have B1:=Hd (bcomp HB.out hz);clear hz)
    go_ret2
    exact ⟨_,rfl,nilRow _ _ _,B1.out⟩
   | some x=>
    rw [hv] at HLV
    have HQ2:=Hd (hst1 x hv)
    have HX2:Hid (∀ z ∈ xs ++ [x],InI64 z):=fun z hz=>by
     rcases List.mem_append.1 hz with h|h
     ·exact HX.out z h
     ·simp only [List.mem_singleton] at h;subst h;exact levelOf_ok HOK.out hv
    clear hst1 hst2 hv
    go_upto_region 8 with (go_at_call 27;refine HLV.out.mono ?_;rintro e z1 ⟨rfl,hz⟩;have B1:=Hd hz;clear hz)
    have HB1:=Hd (bcomp HB.out B1.out)
    have hown1:=own_below HOW.out B1.out
    clear c0 HLV
    go_wp2_with (at_builtin;refine wpList_append_own _ rfl (.tmp 25) (.tmp 27) 60 rfl w.heap.size 3 i0 (.int .i64 0) 1 8 Tryz.underlying60 hi hz0 hz1 hz2 rfl (by decide) _ _ _ rfl (hown1.alloc _) ⟨z1.heap.size,0,none⟩ 1 1 (cellsInt x) rfl rfl (many_new _ _ _) ?c2 ?c3 ?c4 ?c5 ?_)
    case c2=>intro u hu;simp [cellsInt] at hu;subst hu;rfl
    case c3=>unfold maxLen;omega
    case c4=>omega
    case c5=>simp;have:=HB1.out.size;omega
    ·intro v' w4 hown' hgrow _
     have HOW2:Hid (w4.ownsRow w.heap.size 3 1 v' (k+1) ((xs ++ [x]).flatMap cellsInt)):=by
      show World.ownsRow _ _ _ _ _ _ _
      rw [List.flatMap_append]
      simpa using hown'
     have HB4:=Hd ((HB1.out.alloc HB1.out.size (.cells (cellsInt x).toArray 3)).grown hgrow (by simp;have:=HB1.out.size;omega) (own_row_le hown1))
     have HXL2:Hid ((xs ++ [x]).length=k+1):=by show _=_;have:=HXL.out;simp;omega
     clear hown' hgrow hown1
     go_wp2
     go_roundw
     case rel=>exact ⟨k+1,_,by omega,by go_num,HQ2,HXL2.out,HX2,HOW2.out,HB4.out⟩
     case measure=>simp [intOf];omega
  ·obtain rfl:k=ns.length:=by omega
   have hlt1:¬ (ns.length:Int)<ns.length:=by omega
   have hq:=HQ.out
   rw [List.take_length] at hq
   obtain rfl:E=0:=by rw [<- HE.out,namesErr,hq];rfl
   obtain rfl:R=xs:=by rw [<- HR.out,hq];rfl
   have HF:Hid (RdRow kInt (some (upFrom w.heap.size)) w1 (.slice va ns.length vc) R):=own_rows (K:=kInt) (by rw [HXL.out];exact HOW.out) (by have:=HXL.out;show R.length * 8<=_;omega) HX.out
   clear hq
   go_wp2_with fail
   go_ret2
   exact ⟨_,rfl,HF,HB.out⟩
def LevSaid (E:Int) (f:FlatD) (q:PolD) (b:Nat) (w':World) (v1 v2:Value):Prop:=
 (E=0->RdRow kInt (some (upFrom b)) w' v1 (chansL f q)/\RdRow kInt (some (upFrom b)) w' v2 (sitesL f q))/\(E ≠ 0->v1=.slice none 0 0/\v2=.slice none 0 0)
theorem LevSaid.bad {E:Int} {f:FlatD} {q:PolD} {b:Nat} {w':World} (h:E ≠ 0):LevSaid E f q b w' (.slice none 0 0) (.slice none 0 0):=⟨fun g=>absurd g h,fun _=>⟨rfl,rfl⟩⟩
theorem rulesLevels (f:FlatD) (fcv fsv fav fkv:Value) (q:PolD) (lv ov cv sv:Value) (w:World) (hF:RdFlat none w f fcv fsv fav fkv) (hP:RdPol none w q lv ov cv sv) (hL:LaidM w) (hT:BitsAt w) :
  Calls Tryz.prog 42 #[flatV f fcv fsv fav fkv,polV q lv ov cv sv] w fun e w'=>∃ v1 v2,e=.returned (.tuple #[v1,v2,.int .i64 (rulesErr f q)])/\LevSaid (rulesErr f q) f q w.heap.size w' v1 v2/\Below w.heap.size w w':=by
 obtain ⟨fca,fcc,rfl⟩:=hF.1.is
 obtain ⟨fsa,fsc,rfl⟩:=hF.2.1.is
 obtain ⟨faa,fac,rfl⟩:=hF.2.2.1.is
 obtain ⟨fka,fkc,rfl⟩:=hF.2.2.2.1.is
 obtain ⟨la,lc,rfl⟩:=hP.1.is
 obtain ⟨oa,oc,rfl⟩:=hP.2.1.is
 obtain ⟨ca,cc,rfl⟩:=hP.2.2.1.is
 obtain ⟨sa,sc,rfl⟩:=hP.2.2.2.1.is
 obtain ⟨E,hE⟩:∃ E,rulesErr f q=E:=⟨_,rfl⟩
 rw [hE]
 have HE:=Hd hE
 have HF:=Hd hF
 have HP:=Hd hP
 have HLd:=Hd hL
 have HT:=Hd hT
 clear hE hF hP hL hT
 have hal:=((bR w.heap.size w).alloc (nR _) (.cells #[.int .i64 f.width,.int .i64 f.regs,.slice fca f.chans.length fcc,.slice fsa f.sites.length fsc,.slice faa f.arrays.length fac,.slice fka f.code.length fkc] 62)).alloc (by simp) (.cells #[.slice la q.levels.length lc,.slice oa q.order.length oc,.slice ca q.chans.length cc,.slice sa q.sites.length sc,.bool q.sens,.int .i64 q.steps,.int .i64 q.paths,.int .i64 q.nodes,.int .i64 q.confs] 31)
 have hx:=heap2_of (w:=w) (A:=(.cells #[.int .i64 f.width,.int .i64 f.regs,.slice fca f.chans.length fcc,.slice fsa f.sites.length fsc,.slice faa f.arrays.length fac,.slice fka f.code.length fkc] 62)) (B:=(.cells #[.slice la q.levels.length lc,.slice oa q.order.length oc,.slice ca q.chans.length cc,.slice sa q.sites.length sc,.bool q.sens,.int .i64 q.steps,.int .i64 q.paths,.int .i64 q.nodes,.int .i64 q.confs] 31)) (bR _ _)
 have HB0:=Hd hal
 have HG0:=Hd hx.1
 have HG1:=Hd hx.2.1
 clear hal hx
 go_enter Tryz.func42,Tryz.ntmps42
 go_upto_region 1 with fail
 generalize (w.alloc (.cells #[.int .i64 f.width,.int .i64 f.regs,.slice fca f.chans.length fcc,.slice fsa f.sites.length fsc,.slice faa f.arrays.length fac,.slice fka f.code.length fkc] 62)).alloc (.cells #[.slice la q.levels.length lc,.slice oa q.order.length oc,.slice ca q.chans.length cc,.slice sa q.sites.length sc,.bool q.sens,.int .i64 q.steps,.int .i64 q.paths,.int .i64 q.nodes,.int .i64 q.confs] 31)=W at *
 have hsz:w.heap.size+1<W.heap.size:=(aE HG1.out).1
 have HFW:=Hd (HF.out.keep HB0.out)
 have HPW:=Hd (HP.out.keep HB0.out)
 have HLW:=Hd (HLd.out.keep HB0.out)
 have HTW:=Hd (HT.out.keep HB0.out)
 clear HF HP HLd HT
 have HC1:=Hd (flatCheck f _ _ _ _ W HFW.out HLW.out)
 obtain ⟨eF,heF⟩:∃ e,flatE f=e:=⟨_,rfl⟩
 rw [heF] at HC1
 have HEF:=Hd heF
 clear heF
 have y0:=row_of HG0.out 0 (.int .i64 f.width) rfl
 have y1:=row_of HG0.out 1 (.int .i64 f.regs) rfl
 have y2:=row_of HG0.out 2 (.slice fca f.chans.length fcc) rfl
 have y3:=row_of HG0.out 3 (.slice fsa f.sites.length fsc) rfl
 have y4:=row_of HG0.out 4 (.slice faa f.arrays.length fac) rfl
 have y5:=row_of HG0.out 5 (.slice fka f.code.length fkc) rfl
 go_upto_region 2 with (go_at_call 75;refine HC1.out.mono ?_;rintro e z1 ⟨rfl,hz⟩;have B1:=Hd hz;clear hz)
 have HB1:=Hd (bcomp HB0.out B1.out)
 clear y0 y1 y2 y3 y4 y5 HC1
 by_cases n1:eF=0
 case neg=>
  obtain rfl:E=eF:=by rw [<- HE.out,rulesErr,HEF.out,if_pos n1]
  have n1':(E != 0)=true:=by simp [n1]
  go_wp2_with fail
  go_ret3
  exact ⟨_,_,rfl,LevSaid.bad n1,HB1.out⟩
 subst n1
 have HE1:Hid (E=if polErr q ≠ 0 then polErr q else if (levelsOf q.chans f.chans).isNone then 6 else if (levelsOf q.sites f.sites).isNone then 6 else 0):=by
  show E=_;rw [<- HE.out,rulesErr,HEF.out,if_neg (by simp)]
 have hok:flatOk f=true:=by
  have:=HEF.out
  unfold flatE at this
  split at this
  ·assumption
  ·cases this
 have HLENS:Hid (f.chans.length<=1000000/\f.sites.length<=1000000):=by
  have hh:=headP hok
  exact ⟨by have:=hh.chans;omega,by have:=hh.sites;omega⟩
 clear HE HEF hok
 have HG2:Hid (z1.heap[w.heap.size]?=some (.cells #[.int .i64 f.width,.int .i64 f.regs,.slice fca f.chans.length fcc,.slice fsa f.sites.length fsc,.slice faa f.arrays.length fac,.slice fka f.code.length fkc] 62 (0,0))):=(B1.out.block _ (by omega)).trans HG0.out
 have HG3:Hid (z1.heap[w.heap.size+1]?=some (.cells #[.slice la q.levels.length lc,.slice oa q.order.length oc,.slice ca q.chans.length cc,.slice sa q.sites.length sc,.bool q.sens,.int .i64 q.steps,.int .i64 q.paths,.int .i64 q.nodes,.int .i64 q.confs] 31 (0,0))):=(B1.out.block _ (by omega)).trans HG1.out
 have HF1:=Hd (HFW.out.keep B1.out)
 have HP1:=Hd (HPW.out.keep B1.out)
 have HT1:=Hd (HTW.out.keep B1.out)
 have hsz1:w.heap.size+1<z1.heap.size:=(aE HG3.out).1
 clear HG0 HG1 HFW HPW HLW HTW HB0
 have HC2:=Hd (polCheck q _ _ _ _ z1 HP1.out HT1.out)
 obtain ⟨eP,heP⟩:∃ e,polErr q=e:=⟨_,rfl⟩
 rw [heP] at HC2 HE1
 clear heP
 have p0:=row_of HG3.out 0 (.slice la q.levels.length lc) rfl
 have p1:=row_of HG3.out 1 (.slice oa q.order.length oc) rfl
 have p2:=row_of HG3.out 2 (.slice ca q.chans.length cc) rfl
 have p3:=row_of HG3.out 3 (.slice sa q.sites.length sc) rfl
 have p4:=row_of HG3.out 4 (.bool q.sens) rfl
 have p5:=row_of HG3.out 5 (.int .i64 q.steps) rfl
 have p6:=row_of HG3.out 6 (.int .i64 q.paths) rfl
 have p7:=row_of HG3.out 7 (.int .i64 q.nodes) rfl
 have p8:=row_of HG3.out 8 (.int .i64 q.confs) rfl
 go_upto_region 5 with (go_at_call 25;refine HC2.out.mono ?_;rintro e z2 ⟨rfl,hz⟩;have B2:=Hd hz;clear hz)
 have HB2:=Hd (bcomp HB1.out B2.out)
 clear p0 p1 p2 p3 p4 p5 p6 p7 p8 HC2
 by_cases n2:eP=0
 case neg=>
  obtain rfl:E=eP:=by rw [HE1.out,if_pos n2]
  have n1':(E != 0)=true:=by simp [n2]
  go_wp2_with fail
  go_ret3
  exact ⟨_,_,rfl,LevSaid.bad n2,HB2.out⟩
 subst n2
 have HE2:Hid (E=if (levelsOf q.chans f.chans).isNone then 6 else if (levelsOf q.sites f.sites).isNone then 6 else 0):=by
  show E=_;rw [HE1.out,if_neg (by simp)]
 have HG4:Hid (z2.heap[w.heap.size]?=some (.cells #[.int .i64 f.width,.int .i64 f.regs,.slice fca f.chans.length fcc,.slice fsa f.sites.length fsc,.slice faa f.arrays.length fac,.slice fka f.code.length fkc] 62 (0,0))):=(B2.out.block _ (by omega)).trans HG2.out
 have HG5:Hid (z2.heap[w.heap.size+1]?=some (.cells #[.slice la q.levels.length lc,.slice oa q.order.length oc,.slice ca q.chans.length cc,.slice sa q.sites.length sc,.bool q.sens,.int .i64 q.steps,.int .i64 q.paths,.int .i64 q.nodes,.int .i64 q.confs] 31 (0,0))):=(B2.out.block _ (by omega)).trans HG3.out
 have HF2:=Hd (HF1.out.keep B2.out)
 have HP2:=Hd (HP1.out.keep B2.out)
 have hsz2:w.heap.size+1<z2.heap.size:=(aE HG5.out).1
 clear HG2 HG3 HF1 HP1 HT1 HB1 HE1
 have HBS2:Hid (w.heap.size<=z2.heap.size):=HB2.out.size
 have HC3:=Hd (levels_any _ _ q.chans f.chans z2 HP2.out.2.2.1 HF2.out.1 HLENS.out.1)
 obtain ⟨eC,heC⟩:∃ e,namesErr q.chans f.chans=e:=⟨_,rfl⟩
 have hC0:eC=0 \/ eC=6:=by rw [<- heC,namesErr];split <;> simp
 have HEC:Hid (eC=if (levelsOf q.chans f.chans).isNone then 6 else 0):=heC.symm
 rw [heC] at HC3
 clear heC
 have p0:=row_of HG5.out 0 (.slice la q.levels.length lc) rfl
 have p1:=row_of HG5.out 1 (.slice oa q.order.length oc) rfl
 have p2:=row_of HG5.out 2 (.slice ca q.chans.length cc) rfl
 have p3:=row_of HG5.out 3 (.slice sa q.sites.length sc) rfl
 have p4:=row_of HG5.out 4 (.bool q.sens) rfl
 have p5:=row_of HG5.out 5 (.int .i64 q.steps) rfl
 have p6:=row_of HG5.out 6 (.int .i64 q.paths) rfl
 have p7:=row_of HG5.out 7 (.int .i64 q.nodes) rfl
 have p8:=row_of HG5.out 8 (.int .i64 q.confs) rfl
 have y2:=row_of HG4.out 2 (.slice fca f.chans.length fcc) rfl
 go_upto_region 8 with (go_at_call 76;refine HC3.out.mono ?_;rintro e z3 ⟨v1,rfl,HV1,hz⟩;have B3:=Hd hz;clear hz)
 have HB3:=Hd (bcomp HB2.out B3.out)
 clear p0 p1 p2 p3 p4 p5 p6 p7 p8 y2 HC3
 rcases hC0 with rfl|rfl
 case inr=>
  obtain rfl:E=6:=by
   rw [HE2.out]
   cases hc:(levelsOf q.chans f.chans).isNone with
   | true=>rfl
   | false=>
    have h9:=HEC.out
    rw [hc] at h9
    cases h9
  go_wp2_with fail
  go_ret3
  exact ⟨_,_,rfl,LevSaid.bad (by decide),HB3.out⟩
 have hcn:(levelsOf q.chans f.chans).isNone=false:=by
  cases hc:(levelsOf q.chans f.chans).isNone with
  | true=>
   have h9:=HEC.out
   rw [hc] at h9
   cases h9
  | false=>rfl
 have HE3:Hid (E=namesErr q.sites f.sites):=by show E=_;rw [HE2.out,hcn];rfl
 have HG6:Hid (z3.heap[w.heap.size]?=some (.cells #[.int .i64 f.width,.int .i64 f.regs,.slice fca f.chans.length fcc,.slice fsa f.sites.length fsc,.slice faa f.arrays.length fac,.slice fka f.code.length fkc] 62 (0,0))):=(B3.out.block _ (by omega)).trans HG4.out
 have HG7:Hid (z3.heap[w.heap.size+1]?=some (.cells #[.slice la q.levels.length lc,.slice oa q.order.length oc,.slice ca q.chans.length cc,.slice sa q.sites.length sc,.bool q.sens,.int .i64 q.steps,.int .i64 q.paths,.int .i64 q.nodes,.int .i64 q.confs] 31 (0,0))):=(B3.out.block _ (by omega)).trans HG5.out
 have HF3:=Hd (HF2.out.keep B3.out)
 have HP3:=Hd (HP2.out.keep B3.out)
 clear HG4 HG5 HF2 HP2 HB2 HE2 hcn HEC
 have HBS3:Hid (w.heap.size<=z3.heap.size):=HB3.out.size
 have HC4:=Hd (levels_any _ _ q.sites f.sites z3 HP3.out.2.2.2.1 HF3.out.2.1 HLENS.out.2)
 have hS0:E=0 \/ E=6:=by rw [HE3.out,namesErr];split <;> simp
 rw [<- HE3.out] at HC4
 clear HE3
 have p0:=row_of HG7.out 0 (.slice la q.levels.length lc) rfl
 have p1:=row_of HG7.out 1 (.slice oa q.order.length oc) rfl
 have p2:=row_of HG7.out 2 (.slice ca q.chans.length cc) rfl
 have p3:=row_of HG7.out 3 (.slice sa q.sites.length sc) rfl
 have p4:=row_of HG7.out 4 (.bool q.sens) rfl
 have p5:=row_of HG7.out 5 (.int .i64 q.steps) rfl
 have p6:=row_of HG7.out 6 (.int .i64 q.paths) rfl
 have p7:=row_of HG7.out 7 (.int .i64 q.nodes) rfl
 have p8:=row_of HG7.out 8 (.int .i64 q.confs) rfl
 have y3:=row_of HG6.out 3 (.slice fsa f.sites.length fsc) rfl
 go_upto_region 11 with (go_at_call 76;refine HC4.out.mono ?_;rintro e z4 ⟨v2,rfl,HV2,hz⟩;have B4:=Hd hz;clear hz)
 have HB4:=Hd (bcomp HB3.out B4.out)
 clear p0 p1 p2 p3 p4 p5 p6 p7 p8 y3 HC4
 rcases hS0 with rfl|rfl
 case inr=>
  go_wp2_with fail
  go_ret3
  exact ⟨_,_,rfl,LevSaid.bad (by decide),HB4.out⟩
 have hbs2:=HBS2.out
 have hbs3:=HBS3.out
 go_wp2_with fail
 go_ret3
 exact ⟨v1,v2,rfl,⟨fun _=>⟨(HV1.out.keep B4.out).up hbs2,HV2.out.up hbs3⟩,fun h=>absurd rfl h⟩,HB4.out⟩
end Go.Proofs.YtgllkgedjplpdaaGreatDoor
