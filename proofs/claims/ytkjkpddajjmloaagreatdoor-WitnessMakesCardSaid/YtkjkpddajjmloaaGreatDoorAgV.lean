/- The walks of rules.levels and rules.Levels. Condition: what comes in reads as the plain data; the tables hold what they are laid with. -/
import Derived.Test.YtkjkpddajjmloaaGreatDoorAgH
import Derived.Test.YtkjkpddajjmloaaGreatDoorAgC
import Derived.Test.YtkjkpddajjmloaaGreatDoorAgQ
import Derived.Maps.OwnOps
import Derived.Maps.OwnSet
import Derived.Maps.RangeWalk
import Derived.Deep.CutRange
set_option linter.all false
set_option maxRecDepth 1000000
set_option maxHeartbeats 6400000
namespace Go.Proofs.YtkjkpddajjmloaaGreatDoor
open Go.ChangeShapes Go.WideShapes Go.ChangeAt Go.RowKit
open Go.Lib (hid)
theorem gsAgV {α:Type} {a:Array α} {i:Nat} {v:α} (h:a[i]?=some v):i<a.size:=(Array.getElem?_eq_some_iff.1 h).1
theorem lgAgV {α:Type} {l:List α} {i:Nat} (h:i<l.length):l[i]?=some l[i]:=List.getElem?_eq_getElem h
theorem levelsOf_append (l:List BindD):∀ (a b:List ByteArray),levelsOf l (a++b)=(levelsOf l a).bind fun xs=>(levelsOf l b).map (xs++·)
 | [],b=>by
  show levelsOf l b=(levelsOf l b).map fun x=>[]++x
  cases levelsOf l b <;> rfl
 | s :: a,b=>by
  rw[List.cons_append,levelsOf,levelsOf]
  cases levelOf l s with
  | none=>rfl
  | some x=>
   simp only[]
   rw[levelsOf_append l a b]
   cases levelsOf l a with
   | none=>rfl
   | some xs=>cases levelsOf l b <;> rfl
theorem levelsOf_one (l:List BindD) (s:ByteArray):levelsOf l [s]=(levelOf l s).map fun x=>[x]:=by
 rw[levelsOf]
 cases levelOf l s <;> rfl
theorem levelsOf_step {l:List BindD} {ns:List ByteArray} {k:Nat} {s:ByteArray} {xs:List Int} (h:levelsOf l (ns.take k)=some xs) (hs:ns[k]?=some s) :
  (∀ x,levelOf l s=some x→levelsOf l (ns.take (k+1))=some (xs++[x]))∧(levelOf l s=none→levelsOf l ns=none):=by
 have e:ns.take (k+1)=ns.take k++[s]:=by rw[List.take_add_one,hs];rfl
 have h1:levelsOf l (ns.take (k+1))=(levelOf l s).map fun x=>xs++[x]:=by
  rw[e,levelsOf_append,h,levelsOf_one]
  cases levelOf l s <;> rfl
 refine⟨fun x hx=>by rw[h1,hx];rfl,fun hx=>?_⟩
 have e2:ns=ns.take (k+1)++ns.drop (k+1):=(List.take_append_drop _ _).symm
 rw[e2,levelsOf_append,h1,hx];rfl
theorem levelOf_ok {l:List BindD} (hl:∀ b∈l,InI64 b.level) {s:ByteArray} {x:Int} (h:levelOf l s=some x):InI64 x:=by
 rcases idxB_level s l 0 with ⟨_,h2⟩|⟨i,b,_,h2,h3⟩
 ·rw[h2] at h;cases h
 ·rw[h3] at h
  simp only[Option.some.injEq] at h
  subst h
  exact hl b (List.mem_of_getElem? h2)
def namesErr (l:List BindD) (ns:List ByteArray):Int:=if (levelsOf l ns).isNone then 6 else 0
theorem levels_any (bv nv:Value) (l:List BindD) (ns:List ByteArray) (w:World) (h:RdRow kBind none w bv l) (hn:RdRow kStr none w nv ns) (hlen:ns.length≤1000000) :
  Calls Tryz.prog 72 #[bv,nv] w fun e w'=>∃ v,e=.returned (.tuple #[v,.int .i64 (namesErr l ns)])∧Hid (RdRow kInt (some (upFrom w.heap.size)) w' v ((levelsOf l ns).getD []))∧Below w.heap.size w w':=by
 obtain⟨na,nc,rfl⟩:=hn.is
 obtain⟨i0,hi,hz0,hz1,hz2⟩:=info_parts infoInt
 have HL:=hid h
 have HN:=hid hn
 have HOK:Hid (∀ b∈l,InI64 b.level):=fun b hb=>(h.ok b hb).2
 clear h hn
 obtain⟨E,hE⟩:∃ E,namesErr l ns=E:=⟨_,rfl⟩
 obtain⟨R,hR⟩:∃ R,(levelsOf l ns).getD []=R:=⟨_,rfl⟩
 rw[hE,hR]
 have HE:=hid hE
 have HR:=hid hR
 clear hE hR
 go_enter Tryz.func72,Tryz.ntmps72
 go_wp2_with fail
 go_loopw [6,13] (fun v i wr=>∃ (k:Nat) (xs:List Int),k≤ns.length∧i=.int .i64 k∧Hid (levelsOf l (ns.take k)=some xs)∧xs.length=k∧Hid (∀ x∈xs,InI64 x)∧wr.ownsRow w.heap.size 3 1 v k (xs.flatMap cellsInt)∧Below w.heap.size w wr) (fun _ i _=>ns.length-(intOf i).toNat)
 case atStart=>exact⟨0,[],Nat.zero_le _,rfl,rfl,rfl,fun x hx=>by simp at hx,World.ownsRow_nil _ _ _ _,Below.refl _ _⟩
 case round=>
  obtain⟨k,xs,hk,rfl,HQ,hxl,HX,hown,hb⟩:=hrel
  obtain⟨w1,rfl⟩:∃ x:World,x=wr:=⟨_,rfl⟩
  obtain⟨va,vc,rfl,-⟩:=own_read hown
  have HB:=hid hb
  have HOW:=hid hown
  have HXL:=hid hxl
  clear hb hown hxl
  by_cases hlt:k<ns.length
  ·have hlt1:(k:Int)<ns.length:=by omega
   obtain⟨s,hs⟩:∃ s,ns[k]?=some s:=⟨_,lgAgV hlt⟩
   obtain⟨b,o,rfl,_,c0,_⟩:=atStr (HN.out.keep HB.out) hs
   obtain⟨hst1,hst2⟩:=levelsOf_step HQ.out hs
   have HLV:=hid (level_any bv l s w1 (HL.out.keep HB.out))
   clear hs
   cases hv:levelOf l s with
   | none=>
    rw[hv] at HLV
    have hno:=hst2 hv
    obtain rfl:E=6:=by rw[← HE.out,namesErr,hno];rfl
    obtain rfl:R=[]:=by rw[← HR.out,hno];rfl
    clear hst1 hst2 hv hno
    go_wp2_with (go_at_call 106;refine HLV.out.mono ?_;rintro e z1 ⟨rfl,hz⟩;have B1:=hid (bcomp HB.out hz);clear hz)
    go_ret2
    exact⟨_,rfl,nilRow _ _ _,B1.out⟩
   | some x=>
    rw[hv] at HLV
    have HQ2:=hid (hst1 x hv)
    have HX2:Hid (∀ z∈xs++[x],InI64 z):=fun z hz=>by
     rcases List.mem_append.1 hz with h|h
     ·exact HX.out z h
     ·simp only[List.mem_singleton] at h;subst h;exact levelOf_ok HOK.out hv
    clear hst1 hst2 hv
    go_upto_region 8 with (go_at_call 106;refine HLV.out.mono ?_;rintro e z1 ⟨rfl,hz⟩;have B1:=hid hz;clear hz)
    have HB1:=hid (bcomp HB.out B1.out)
    have hown1:=own_below HOW.out B1.out
    clear c0 HLV
    go_wp2_with (at_builtin;refine wpList_append_own _ rfl (.tmp 25) (.tmp 27) 23 rfl w.heap.size 3 i0 (.int .i64 0) 1 8 Tryz.underlying23 hi hz0 hz1 hz2 rfl (by decide) _ _ _ rfl (hown1.alloc _) ⟨z1.heap.size,0,none⟩ 1 1 (cellsInt x) rfl rfl (many_new _ _ _) ?c2 ?c3 ?c4 ?c5 ?_)
    case c2=>intro u hu;simp[cellsInt] at hu;subst hu;rfl
    case c3=>unfold maxLen;omega
    case c4=>omega
    case c5=>simp;have:=HB1.out.size;omega
    ·intro v' w4 hown' hgrow _
     have HOW2:Hid (w4.ownsRow w.heap.size 3 1 v' (k+1) ((xs++[x]).flatMap cellsInt)):=by
      show World.ownsRow _ _ _ _ _ _ _
      rw[List.flatMap_append]
      simpa using hown'
     have HB4:=hid ((HB1.out.alloc HB1.out.size (.cells (cellsInt x).toArray 3)).grown hgrow (by simp;have:=HB1.out.size;omega) (own_row_le hown1))
     have HXL2:Hid ((xs++[x]).length=k+1):=by show _=_;have:=HXL.out;simp;omega
     clear hown' hgrow hown1
     go_wp2
     go_roundw
     case rel=>exact⟨k+1,_,by omega,by go_num,HQ2,HXL2.out,HX2,HOW2.out,HB4.out⟩
     case measure=>simp[intOf];omega
  ·obtain rfl:k=ns.length:=by omega
   have hlt1:¬ (ns.length:Int)<ns.length:=by omega
   have hq:=HQ.out
   rw[List.take_length] at hq
   obtain rfl:E=0:=by rw[← HE.out,namesErr,hq];rfl
   obtain rfl:R=xs:=by rw[← HR.out,hq];rfl
   have HF:Hid (RdRow kInt (some (upFrom w.heap.size)) w1 (.slice va ns.length vc) R):=own_rows (K:=kInt) (by rw[HXL.out];exact HOW.out) (by have:=HXL.out;show R.length*8≤_;omega) HX.out
   clear hq
   go_wp2_with fail
   go_ret2
   exact⟨_,rfl,HF,HB.out⟩
def LevSaid (E:Int) (f:FlatD) (q:PolD) (b:Nat) (w':World) (v1 v2:Value):Prop:=
 (E=0→RdRow kInt (some (upFrom b)) w' v1 (chansL f q)∧RdRow kInt (some (upFrom b)) w' v2 (sitesL f q))∧(E≠0→v1=.slice none 0 0∧v2=.slice none 0 0)
theorem LevSaid.bad {E:Int} {f:FlatD} {q:PolD} {b:Nat} {w':World} (h:E≠0):LevSaid E f q b w' (.slice none 0 0) (.slice none 0 0):=⟨fun g=>absurd g h,fun _=>⟨rfl,rfl⟩⟩
theorem rulesLevels (f:FlatD) (fcv fsv fav fkv:Value) (q:PolD) (lv ov cv sv:Value) (w:World) (hF:RdFlat none w f fcv fsv fav fkv) (hP:RdPol none w q lv ov cv sv) (hL:Laid w) (hT:BitsAt w) :
  Calls Tryz.prog 47 #[flatV f fcv fsv fav fkv,polV q lv ov cv sv] w fun e w'=>∃ v1 v2,e=.returned (.tuple #[v1,v2,.int .i64 (rulesErr f q)])∧LevSaid (rulesErr f q) f q w.heap.size w' v1 v2∧Below w.heap.size w w':=by
 obtain⟨fca,fcc,rfl⟩:=hF.1.is
 obtain⟨fsa,fsc,rfl⟩:=hF.2.1.is
 obtain⟨faa,fac,rfl⟩:=hF.2.2.1.is
 obtain⟨fka,fkc,rfl⟩:=hF.2.2.2.1.is
 obtain⟨la,lc,rfl⟩:=hP.1.is
 obtain⟨oa,oc,rfl⟩:=hP.2.1.is
 obtain⟨ca,cc,rfl⟩:=hP.2.2.1.is
 obtain⟨sa,sc,rfl⟩:=hP.2.2.2.1.is
 obtain⟨E,hE⟩:∃ E,rulesErr f q=E:=⟨_,rfl⟩
 rw[hE]
 have HE:=hid hE
 have HF:=hid hF
 have HP:=hid hP
 have HLd:=hid hL
 have HT:=hid hT
 clear hE hF hP hL hT
 have hal:=((Below.refl w.heap.size w).alloc (Nat.le_refl _) (.cells #[.int .i64 f.width,.int .i64 f.regs,.slice fca f.chans.length fcc,.slice fsa f.sites.length fsc,.slice faa f.arrays.length fac,.slice fka f.code.length fkc] 26)).alloc (by simp) (.cells #[.slice la q.levels.length lc,.slice oa q.order.length oc,.slice ca q.chans.length cc,.slice sa q.sites.length sc,.bool q.sens,.int .i64 q.steps,.int .i64 q.paths,.int .i64 q.nodes,.int .i64 q.confs] 30)
 have hx:=heap2_of (w:=w) (A:=(.cells #[.int .i64 f.width,.int .i64 f.regs,.slice fca f.chans.length fcc,.slice fsa f.sites.length fsc,.slice faa f.arrays.length fac,.slice fka f.code.length fkc] 26)) (B:=(.cells #[.slice la q.levels.length lc,.slice oa q.order.length oc,.slice ca q.chans.length cc,.slice sa q.sites.length sc,.bool q.sens,.int .i64 q.steps,.int .i64 q.paths,.int .i64 q.nodes,.int .i64 q.confs] 30)) (Below.refl _ _)
 have HB0:=hid hal
 have HG0:=hid hx.1
 have HG1:=hid hx.2.1
 clear hal hx
 go_enter Tryz.func47,Tryz.ntmps47
 go_upto_region 1 with fail
 generalize (w.alloc (.cells #[.int .i64 f.width,.int .i64 f.regs,.slice fca f.chans.length fcc,.slice fsa f.sites.length fsc,.slice faa f.arrays.length fac,.slice fka f.code.length fkc] 26)).alloc (.cells #[.slice la q.levels.length lc,.slice oa q.order.length oc,.slice ca q.chans.length cc,.slice sa q.sites.length sc,.bool q.sens,.int .i64 q.steps,.int .i64 q.paths,.int .i64 q.nodes,.int .i64 q.confs] 30)=W at *
 have hsz:w.heap.size+1<W.heap.size:=(gsAgV HG1.out)
 have HFW:=hid (HF.out.keep HB0.out)
 have HPW:=hid (HP.out.keep HB0.out)
 have HLW:=hid (HLd.out.keep HB0.out)
 have HTW:=hid (HT.out.keep HB0.out)
 clear HF HP HLd HT
 have HC1:=hid (flatCheck f _ _ _ _ W HFW.out HLW.out)
 obtain⟨eF,heF⟩:∃ e,flatE f=e:=⟨_,rfl⟩
 rw[heF] at HC1
 have HEF:=hid heF
 clear heF
 have y0:=row_of HG0.out 0 (.int .i64 f.width) rfl
 have y1:=row_of HG0.out 1 (.int .i64 f.regs) rfl
 have y2:=row_of HG0.out 2 (.slice fca f.chans.length fcc) rfl
 have y3:=row_of HG0.out 3 (.slice fsa f.sites.length fsc) rfl
 have y4:=row_of HG0.out 4 (.slice faa f.arrays.length fac) rfl
 have y5:=row_of HG0.out 5 (.slice fka f.code.length fkc) rfl
 go_upto_region 2 with (go_at_call 45;refine HC1.out.mono ?_;rintro e z1 ⟨rfl,hz⟩;have B1:=hid hz;clear hz)
 have HB1:=hid (bcomp HB0.out B1.out)
 clear y0 y1 y2 y3 y4 y5 HC1
 by_cases n1:eF=0
 case neg=>
  obtain rfl:E=eF:=by rw[← HE.out,rulesErr,HEF.out,if_pos n1]
  have n1':(E != 0)=true:=by simp[n1]
  go_wp2_with fail
  go_ret3
  exact⟨_,_,rfl,LevSaid.bad n1,HB1.out⟩
 subst n1
 have HE1:Hid (E=if polErr q≠0 then polErr q else if (levelsOf q.chans f.chans).isNone then 6 else if (levelsOf q.sites f.sites).isNone then 6 else 0):=by
  show E=_;rw[← HE.out,rulesErr,HEF.out,if_neg (by simp)]
 have hok:flatOk f=true:=by
  have:=HEF.out
  unfold flatE at this
  split at this
  ·assumption
  ·cases this
 have HLENS:Hid (f.chans.length≤1000000∧f.sites.length≤1000000):=by
  have hh:=headP hok
  exact⟨by have:=hh.chans;omega,by have:=hh.sites;omega⟩
 clear HE HEF hok
 have HG2:Hid (z1.heap[w.heap.size]?=some (.cells #[.int .i64 f.width,.int .i64 f.regs,.slice fca f.chans.length fcc,.slice fsa f.sites.length fsc,.slice faa f.arrays.length fac,.slice fka f.code.length fkc] 26 (0,0))):=(B1.out.block _ (by omega)).trans HG0.out
 have HG3:Hid (z1.heap[w.heap.size+1]?=some (.cells #[.slice la q.levels.length lc,.slice oa q.order.length oc,.slice ca q.chans.length cc,.slice sa q.sites.length sc,.bool q.sens,.int .i64 q.steps,.int .i64 q.paths,.int .i64 q.nodes,.int .i64 q.confs] 30 (0,0))):=(B1.out.block _ (by omega)).trans HG1.out
 have HF1:=hid (HFW.out.keep B1.out)
 have HP1:=hid (HPW.out.keep B1.out)
 have HT1:=hid (HTW.out.keep B1.out)
 have hsz1:w.heap.size+1<z1.heap.size:=(gsAgV HG3.out)
 clear HG0 HG1 HFW HPW HLW HTW HB0
 have HC2:=hid (polCheck q _ _ _ _ z1 HP1.out HT1.out)
 obtain⟨eP,heP⟩:∃ e,polErr q=e:=⟨_,rfl⟩
 rw[heP] at HC2 HE1
 clear heP
 have p0:=row_of HG3.out 0 (.slice la q.levels.length lc) rfl
 have p1:=row_of HG3.out 1 (.slice oa q.order.length oc) rfl
 have p2:=row_of HG3.out 2 (.slice ca q.chans.length cc) rfl
 have p3:=row_of HG3.out 3 (.slice sa q.sites.length sc) rfl
 have p4:=row_of HG3.out 4 (.bool q.sens) rfl
 have p5:=row_of HG3.out 5 (.int .i64 q.steps) rfl
 have p6:=row_of HG3.out 6 (.int .i64 q.paths) rfl
 have p7:=row_of HG3.out 7 (.int .i64 q.nodes) rfl
 have p8:=row_of HG3.out 8 (.int .i64 q.confs) rfl
 go_upto_region 5 with (go_at_call 46;refine HC2.out.mono ?_;rintro e z2 ⟨rfl,hz⟩;have B2:=hid hz;clear hz)
 have HB2:=hid (bcomp HB1.out B2.out)
 clear p0 p1 p2 p3 p4 p5 p6 p7 p8 HC2
 by_cases n2:eP=0
 case neg=>
  obtain rfl:E=eP:=by rw[HE1.out,if_pos n2]
  have n1':(E != 0)=true:=by simp[n2]
  go_wp2_with fail
  go_ret3
  exact⟨_,_,rfl,LevSaid.bad n2,HB2.out⟩
 subst n2
 have HE2:Hid (E=if (levelsOf q.chans f.chans).isNone then 6 else if (levelsOf q.sites f.sites).isNone then 6 else 0):=by
  show E=_;rw[HE1.out,if_neg (by simp)]
 have HG4:Hid (z2.heap[w.heap.size]?=some (.cells #[.int .i64 f.width,.int .i64 f.regs,.slice fca f.chans.length fcc,.slice fsa f.sites.length fsc,.slice faa f.arrays.length fac,.slice fka f.code.length fkc] 26 (0,0))):=(B2.out.block _ (by omega)).trans HG2.out
 have HG5:Hid (z2.heap[w.heap.size+1]?=some (.cells #[.slice la q.levels.length lc,.slice oa q.order.length oc,.slice ca q.chans.length cc,.slice sa q.sites.length sc,.bool q.sens,.int .i64 q.steps,.int .i64 q.paths,.int .i64 q.nodes,.int .i64 q.confs] 30 (0,0))):=(B2.out.block _ (by omega)).trans HG3.out
 have HF2:=hid (HF1.out.keep B2.out)
 have HP2:=hid (HP1.out.keep B2.out)
 have hsz2:w.heap.size+1<z2.heap.size:=(gsAgV HG5.out)
 clear HG2 HG3 HF1 HP1 HT1 HB1 HE1
 have HBS2:Hid (w.heap.size≤z2.heap.size):=HB2.out.size
 have HC3:=hid (levels_any _ _ q.chans f.chans z2 HP2.out.2.2.1 HF2.out.1 HLENS.out.1)
 obtain⟨eC,heC⟩:∃ e,namesErr q.chans f.chans=e:=⟨_,rfl⟩
 have hC0:eC=0 ∨ eC=6:=by rw[← heC,namesErr];split <;> simp
 have HEC:Hid (eC=if (levelsOf q.chans f.chans).isNone then 6 else 0):=heC.symm
 rw[heC] at HC3
 clear heC
 have p0:=row_of HG5.out 0 (.slice la q.levels.length lc) rfl
 have p1:=row_of HG5.out 1 (.slice oa q.order.length oc) rfl
 have p2:=row_of HG5.out 2 (.slice ca q.chans.length cc) rfl
 have p3:=row_of HG5.out 3 (.slice sa q.sites.length sc) rfl
 have p4:=row_of HG5.out 4 (.bool q.sens) rfl
 have p5:=row_of HG5.out 5 (.int .i64 q.steps) rfl
 have p6:=row_of HG5.out 6 (.int .i64 q.paths) rfl
 have p7:=row_of HG5.out 7 (.int .i64 q.nodes) rfl
 have p8:=row_of HG5.out 8 (.int .i64 q.confs) rfl
 have y2:=row_of HG4.out 2 (.slice fca f.chans.length fcc) rfl
 go_upto_region 8 with (go_at_call 72;refine HC3.out.mono ?_;rintro e z3 ⟨v1,rfl,HV1,hz⟩;have B3:=hid hz;clear hz)
 have HB3:=hid (bcomp HB2.out B3.out)
 clear p0 p1 p2 p3 p4 p5 p6 p7 p8 y2 HC3
 rcases hC0 with rfl|rfl
 case inr=>
  obtain rfl:E=6:=by
   rw[HE2.out]
   cases hc:(levelsOf q.chans f.chans).isNone with
   | true=>rfl
   | false=>
    have h9:=HEC.out
    rw[hc] at h9
    cases h9
  go_wp2_with fail
  go_ret3
  exact⟨_,_,rfl,LevSaid.bad (by decide),HB3.out⟩
 have hcn:(levelsOf q.chans f.chans).isNone=false:=by
  cases hc:(levelsOf q.chans f.chans).isNone with
  | true=>
   have h9:=HEC.out
   rw[hc] at h9
   cases h9
  | false=>rfl
 have HE3:Hid (E=namesErr q.sites f.sites):=by show E=_;rw[HE2.out,hcn];rfl
 have HG6:Hid (z3.heap[w.heap.size]?=some (.cells #[.int .i64 f.width,.int .i64 f.regs,.slice fca f.chans.length fcc,.slice fsa f.sites.length fsc,.slice faa f.arrays.length fac,.slice fka f.code.length fkc] 26 (0,0))):=(B3.out.block _ (by omega)).trans HG4.out
 have HG7:Hid (z3.heap[w.heap.size+1]?=some (.cells #[.slice la q.levels.length lc,.slice oa q.order.length oc,.slice ca q.chans.length cc,.slice sa q.sites.length sc,.bool q.sens,.int .i64 q.steps,.int .i64 q.paths,.int .i64 q.nodes,.int .i64 q.confs] 30 (0,0))):=(B3.out.block _ (by omega)).trans HG5.out
 have HF3:=hid (HF2.out.keep B3.out)
 have HP3:=hid (HP2.out.keep B3.out)
 clear HG4 HG5 HF2 HP2 HB2 HE2 hcn HEC
 have HBS3:Hid (w.heap.size≤z3.heap.size):=HB3.out.size
 have HC4:=hid (levels_any _ _ q.sites f.sites z3 HP3.out.2.2.2.1 HF3.out.2.1 HLENS.out.2)
 have hS0:E=0 ∨ E=6:=by rw[HE3.out,namesErr];split <;> simp
 rw[← HE3.out] at HC4
 clear HE3
 have p0:=row_of HG7.out 0 (.slice la q.levels.length lc) rfl
 have p1:=row_of HG7.out 1 (.slice oa q.order.length oc) rfl
 have p2:=row_of HG7.out 2 (.slice ca q.chans.length cc) rfl
 have p3:=row_of HG7.out 3 (.slice sa q.sites.length sc) rfl
 have p4:=row_of HG7.out 4 (.bool q.sens) rfl
 have p5:=row_of HG7.out 5 (.int .i64 q.steps) rfl
 have p6:=row_of HG7.out 6 (.int .i64 q.paths) rfl
 have p7:=row_of HG7.out 7 (.int .i64 q.nodes) rfl
 have p8:=row_of HG7.out 8 (.int .i64 q.confs) rfl
 have y3:=row_of HG6.out 3 (.slice fsa f.sites.length fsc) rfl
 go_upto_region 11 with (go_at_call 72;refine HC4.out.mono ?_;rintro e z4 ⟨v2,rfl,HV2,hz⟩;have B4:=hid hz;clear hz)
 have HB4:=hid (bcomp HB3.out B4.out)
 clear p0 p1 p2 p3 p4 p5 p6 p7 p8 y3 HC4
 rcases hS0 with rfl|rfl
 case inr=>
  go_wp2_with fail
  go_ret3
  exact⟨_,_,rfl,LevSaid.bad (by decide),HB4.out⟩
 have hbs2:=HBS2.out
 have hbs3:=HBS3.out
 go_wp2_with fail
 go_ret3
 exact⟨v1,v2,rfl,⟨fun _=>⟨(HV1.out.keep B4.out).up hbs2,HV2.out.up hbs3⟩,fun h=>absurd rfl h⟩,HB4.out⟩
abbrev sideV (v0:Value) (f:FlatD) (fcv fsv fav fkv:Value) (q:PolD) (lv ov cv sv cl sl:Value):Value:=.agg #[v0,.int .i64 f.width,.int .i64 f.regs,fcv,fsv,fav,fkv,lv,ov,cv,sv,.bool q.sens,.int .i64 q.steps,.int .i64 q.paths,.int .i64 q.nodes,.int .i64 q.confs,cl,sl]
abbrev sideZ:Array Value:=#[.pointer none,.int .i64 0,.int .i64 0,.slice none 0 0,.slice none 0 0,.slice none 0 0,.slice none 0 0,.slice none 0 0,.slice none 0 0,.slice none 0 0,.slice none 0 0,.bool false,.int .i64 0,.int .i64 0,.int .i64 0,.int .i64 0,.slice none 0 0,.slice none 0 0]
def MadeSaid (E:Int) (f:FlatD) (fcv fsv fav fkv:Value) (q:PolD) (lv ov cv sv:Value) (w':World) (S:Value):Prop:=
 (E≠0∧S=.agg sideZ) ∨ (E=0∧∃ p cla clc sla slc,S=sideV (.pointer (some ⟨p,0,none⟩)) f fcv fsv fav fkv q lv ov cv sv (.slice cla f.chans.length clc) (.slice sla f.sites.length slc)∧LatAt w' (.pointer (some ⟨p,0,none⟩)) (sideLat q) ∧
  RdRow kInt none w' (.slice cla f.chans.length clc) (chansL f q)∧RdRow kInt none w' (.slice sla f.sites.length slc) (sitesL f q))
theorem pol_lat {q:PolD} (h:polErr q=0):latErr q.levels.length q.order=0:=by
 unfold polErr at h
 split at h
 ·cases h
 split at h
 ·cases h
 split at h
 ·contradiction
 split at h
 ·contradiction
 next hl=>omega
theorem turnLat {w:World} {p b:Nat} {L:LatD} {cs cs':Array Value} {T:TypeId} (h:LatAt w (.pointer (some ⟨p,0,none⟩)) L) (hb:w.heap[b]?=some (.cells cs T (0,0))) (hT:T≠105):LatAt (w.setRow b cs') (.pointer (some ⟨p,0,none⟩)) L:=by
 obtain⟨q,e,hq,h1,h2⟩:=h
 refine⟨q,e,?_,h1,h2⟩
 have hne:q≠b:=fun e=>by subst e;rw[hq] at hb;cases hb;exact hT rfl
 exact (setRow_other _ _ _ _ hne).trans hq
theorem turnRow {α:Type} {K:Kind α} {w:World} {n b:Nat} {v:Value} {l:List α} {cs':Array Value} (h:RdRow K (some (upFrom n)) w v l) (hb:b<n):RdRow K none (w.setRow b cs') v l:=
 (h.same (g':=upFrom n) (fun b' hg _=>setRow_other _ _ _ _ (by have:n≤b':=hg;omega)) (fun _ _ h=>h)).forget
theorem flatE_ok {f:FlatD} (h:flatE f=0):flatOk f=true:=by
 unfold flatE at h
 split at h
 ·assumption
 ·cases h
theorem made_any (f:FlatD) (fcv fsv fav fkv:Value) (q:PolD) (lv ov cv sv:Value) (w:World) (hF:RdFlat none w f fcv fsv fav fkv) (hP:RdPol none w q lv ov cv sv) (hL:Laid w) (hT:BitsAt w) :
  Calls Tryz.prog 27 #[flatV f fcv fsv fav fkv,polV q lv ov cv sv] w fun e w'=>∃ S,e=.returned (.tuple #[S,.int .i64 (sideErr f q)])∧MadeSaid (sideErr f q) f fcv fsv fav fkv q lv ov cv sv w' S∧Below w.heap.size w w':=by
 obtain⟨fca,fcc,rfl⟩:=hF.1.is
 obtain⟨fsa,fsc,rfl⟩:=hF.2.1.is
 obtain⟨faa,fac,rfl⟩:=hF.2.2.1.is
 obtain⟨fka,fkc,rfl⟩:=hF.2.2.2.1.is
 obtain⟨la,lc,rfl⟩:=hP.1.is
 obtain⟨oa,oc,rfl⟩:=hP.2.1.is
 obtain⟨ca,cc,rfl⟩:=hP.2.2.1.is
 obtain⟨sa,sc,rfl⟩:=hP.2.2.2.1.is
 obtain⟨E,hE⟩:∃ E,sideErr f q=E:=⟨_,rfl⟩
 rw[hE]
 have HE:=hid hE
 have HF:=hid hF
 have HP:=hid hP
 have HLd:=hid hL
 have HT:=hid hT
 clear hE hF hP hL hT
 have hal:=(((Below.refl w.heap.size w).alloc (Nat.le_refl _) (.cells #[.int .i64 f.width,.int .i64 f.regs,.slice fca f.chans.length fcc,.slice fsa f.sites.length fsc,.slice faa f.arrays.length fac,.slice fka f.code.length fkc] 26)).alloc (by simp) (.cells #[.slice la q.levels.length lc,.slice oa q.order.length oc,.slice ca q.chans.length cc,.slice sa q.sites.length sc,.bool q.sens,.int .i64 q.steps,.int .i64 q.paths,.int .i64 q.nodes,.int .i64 q.confs] 30)).alloc (by simp;omega) (.cells #[.pointer none,.int .i64 0,.int .i64 0,.slice none 0 0,.slice none 0 0,.slice none 0 0,.slice none 0 0,.slice none 0 0,.slice none 0 0,.slice none 0 0,.slice none 0 0,.bool false,.int .i64 0,.int .i64 0,.int .i64 0,.int .i64 0,.slice none 0 0,.slice none 0 0] 64)
 have hx:=heap2_of (w:=w) (A:=(.cells #[.int .i64 f.width,.int .i64 f.regs,.slice fca f.chans.length fcc,.slice fsa f.sites.length fsc,.slice faa f.arrays.length fac,.slice fka f.code.length fkc] 26)) (B:=(.cells #[.slice la q.levels.length lc,.slice oa q.order.length oc,.slice ca q.chans.length cc,.slice sa q.sites.length sc,.bool q.sens,.int .i64 q.steps,.int .i64 q.paths,.int .i64 q.nodes,.int .i64 q.confs] 30)) (wr:=((w.alloc (.cells #[.int .i64 f.width,.int .i64 f.regs,.slice fca f.chans.length fcc,.slice fsa f.sites.length fsc,.slice faa f.arrays.length fac,.slice fka f.code.length fkc] 26)).alloc (.cells #[.slice la q.levels.length lc,.slice oa q.order.length oc,.slice ca q.chans.length cc,.slice sa q.sites.length sc,.bool q.sens,.int .i64 q.steps,.int .i64 q.paths,.int .i64 q.nodes,.int .i64 q.confs] 30)).alloc (.cells #[.pointer none,.int .i64 0,.int .i64 0,.slice none 0 0,.slice none 0 0,.slice none 0 0,.slice none 0 0,.slice none 0 0,.slice none 0 0,.slice none 0 0,.slice none 0 0,.bool false,.int .i64 0,.int .i64 0,.int .i64 0,.int .i64 0,.slice none 0 0,.slice none 0 0] 64)) ((Below.refl _ _).alloc (Nat.le_refl _) _)
 have HB0:=hid hal
 have HG0:=hid hx.1
 have HG1:=hid hx.2.1
 have HG2:Hid ((((w.alloc (.cells #[.int .i64 f.width,.int .i64 f.regs,.slice fca f.chans.length fcc,.slice fsa f.sites.length fsc,.slice faa f.arrays.length fac,.slice fka f.code.length fkc] 26)).alloc (.cells #[.slice la q.levels.length lc,.slice oa q.order.length oc,.slice ca q.chans.length cc,.slice sa q.sites.length sc,.bool q.sens,.int .i64 q.steps,.int .i64 q.paths,.int .i64 q.nodes,.int .i64 q.confs] 30)).alloc (.cells #[.pointer none,.int .i64 0,.int .i64 0,.slice none 0 0,.slice none 0 0,.slice none 0 0,.slice none 0 0,.slice none 0 0,.slice none 0 0,.slice none 0 0,.slice none 0 0,.bool false,.int .i64 0,.int .i64 0,.int .i64 0,.int .i64 0,.slice none 0 0,.slice none 0 0] 64)).heap[w.heap.size+1+1]?=some (.cells #[.pointer none,.int .i64 0,.int .i64 0,.slice none 0 0,.slice none 0 0,.slice none 0 0,.slice none 0 0,.slice none 0 0,.slice none 0 0,.slice none 0 0,.slice none 0 0,.bool false,.int .i64 0,.int .i64 0,.int .i64 0,.int .i64 0,.slice none 0 0,.slice none 0 0] 64 (0,0))):=by
  show _=_
  have:=heap_alloc_new ((w.alloc (.cells #[.int .i64 f.width,.int .i64 f.regs,.slice fca f.chans.length fcc,.slice fsa f.sites.length fsc,.slice faa f.arrays.length fac,.slice fka f.code.length fkc] 26)).alloc (.cells #[.slice la q.levels.length lc,.slice oa q.order.length oc,.slice ca q.chans.length cc,.slice sa q.sites.length sc,.bool q.sens,.int .i64 q.steps,.int .i64 q.paths,.int .i64 q.nodes,.int .i64 q.confs] 30)) (.cells #[.pointer none,.int .i64 0,.int .i64 0,.slice none 0 0,.slice none 0 0,.slice none 0 0,.slice none 0 0,.slice none 0 0,.slice none 0 0,.slice none 0 0,.slice none 0 0,.bool false,.int .i64 0,.int .i64 0,.int .i64 0,.int .i64 0,.slice none 0 0,.slice none 0 0] 64)
  simpa using this
 clear hal hx
 go_enter Tryz.func27,Tryz.ntmps27
 go_upto_region 1 with fail
 generalize ((w.alloc (.cells #[.int .i64 f.width,.int .i64 f.regs,.slice fca f.chans.length fcc,.slice fsa f.sites.length fsc,.slice faa f.arrays.length fac,.slice fka f.code.length fkc] 26)).alloc (.cells #[.slice la q.levels.length lc,.slice oa q.order.length oc,.slice ca q.chans.length cc,.slice sa q.sites.length sc,.bool q.sens,.int .i64 q.steps,.int .i64 q.paths,.int .i64 q.nodes,.int .i64 q.confs] 30)).alloc (.cells #[.pointer none,.int .i64 0,.int .i64 0,.slice none 0 0,.slice none 0 0,.slice none 0 0,.slice none 0 0,.slice none 0 0,.slice none 0 0,.slice none 0 0,.slice none 0 0,.bool false,.int .i64 0,.int .i64 0,.int .i64 0,.int .i64 0,.slice none 0 0,.slice none 0 0] 64)=W at *
 have hsz:w.heap.size+1+1<W.heap.size:=(gsAgV HG2.out)
 have HFW:=hid (HF.out.keep HB0.out)
 have HPW:=hid (HP.out.keep HB0.out)
 have HLW:=hid (HLd.out.keep HB0.out)
 have HTW:=hid (HT.out.keep HB0.out)
 clear HF HP HLd HT
 have HC1:=hid (flatCheck f _ _ _ _ W HFW.out HLW.out)
 obtain⟨eF,heF⟩:∃ e,flatE f=e:=⟨_,rfl⟩
 rw[heF] at HC1
 have HEF:=hid heF
 clear heF
 have y0:=row_of HG0.out 0 (.int .i64 f.width) rfl
 have y1:=row_of HG0.out 1 (.int .i64 f.regs) rfl
 have y2:=row_of HG0.out 2 (.slice fca f.chans.length fcc) rfl
 have y3:=row_of HG0.out 3 (.slice fsa f.sites.length fsc) rfl
 have y4:=row_of HG0.out 4 (.slice faa f.arrays.length fac) rfl
 have y5:=row_of HG0.out 5 (.slice fka f.code.length fkc) rfl
 by_cases n1:eF=0
 case neg=>
  obtain rfl:E=2:=by rw[← HE.out,sideErr,if_pos (.inl (by rw[HEF.out];exact n1))]
  have n1':(eF != 0)=true:=by simp[n1]
  go_upto_region 2 with (go_at_call 45;refine HC1.out.mono ?_;rintro e z1 ⟨rfl,hz⟩;have B1:=hid hz;clear hz)
  have HB1:=hid (bcomp HB0.out B1.out)
  have HG3:Hid (z1.heap[w.heap.size+1+1]?=some (.cells #[.pointer none,.int .i64 0,.int .i64 0,.slice none 0 0,.slice none 0 0,.slice none 0 0,.slice none 0 0,.slice none 0 0,.slice none 0 0,.slice none 0 0,.slice none 0 0,.bool false,.int .i64 0,.int .i64 0,.int .i64 0,.int .i64 0,.slice none 0 0,.slice none 0 0] 64 (0,0))):=(B1.out.block _ hsz).trans HG2.out
  clear y0 y1 y2 y3 y4 y5 HC1
  go_wp2_with (refine wpList_store_row rfl 64 (.tmp 4) (.tmp 18) rfl (w.heap.size+1+1) #[.pointer none,.int .i64 0,.int .i64 0,.slice none 0 0,.slice none 0 0,.slice none 0 0,.slice none 0 0,.slice none 0 0,.slice none 0 0,.slice none 0 0,.slice none 0 0,.bool false,.int .i64 0,.int .i64 0,.int .i64 0,.int .i64 0,.slice none 0 0,.slice none 0 0] rfl rfl 64 #[.pointer none,.int .i64 0,.int .i64 0,.slice none 0 0,.slice none 0 0,.slice none 0 0,.slice none 0 0,.slice none 0 0,.slice none 0 0,.slice none 0 0,.slice none 0 0,.bool false,.int .i64 0,.int .i64 0,.int .i64 0,.int .i64 0,.slice none 0 0,.slice none 0 0] ?hs1 (by as_aux_lemma=>kernel_rfl) (by as_aux_lemma=>kernel_rfl) (by as_aux_lemma=>kernel_rfl) ?_;exact HG3.out)
  refine bodyPost_ret (v:=.tuple #[.agg #[.pointer none,.int .i64 0,.int .i64 0,.slice none 0 0,.slice none 0 0,.slice none 0 0,.slice none 0 0,.slice none 0 0,.slice none 0 0,.slice none 0 0,.slice none 0 0,.bool false,.int .i64 0,.int .i64 0,.int .i64 0,.int .i64 0,.slice none 0 0,.slice none 0 0],.int .i64 2]) ?_ rfl ⟨_,rfl,.inl ⟨by decide,rfl⟩,below_row HB1.out (by omega) _⟩
  exact results_cell_two (P:=Tryz.prog) (fn:=Tryz.f27) rfl _ _ (w.heap.size+1+1) 64 #[.pointer none,.int .i64 0,.int .i64 0,.slice none 0 0,.slice none 0 0,.slice none 0 0,.slice none 0 0,.slice none 0 0,.slice none 0 0,.slice none 0 0,.slice none 0 0,.bool false,.int .i64 0,.int .i64 0,.int .i64 0,.int .i64 0,.slice none 0 0,.slice none 0 0] (0,0) _ rfl (setRow_heap _ _ _ _ _ _ HG3.out) Tryz.underlying64 rfl (by as_aux_lemma=>kernel_rfl)
 subst n1
 have hok:=flatE_ok HEF.out
 have HC2:=hid (fun (w':World) (k:Below W.heap.size W w')=>polCheck q _ _ _ _ w' (HPW.out.keep k) (HTW.out.keep k))
 obtain⟨eP,heP⟩:∃ e,polErr q=e:=⟨_,rfl⟩
 rw[heP] at HC2
 have HEP:=hid heP
 clear heP
 go_upto_if 17 with (first|(go_at_call 45;refine HC1.out.mono ?_;rintro e z1 ⟨rfl,hz⟩;have B1:=hid hz;clear hz y0 y1 y2 y3 y4 y5;have HG4:Hid (z1.heap[w.heap.size+1]?=some (.cells #[.slice la q.levels.length lc,.slice oa q.order.length oc,.slice ca q.chans.length cc,.slice sa q.sites.length sc,.bool q.sens,.int .i64 q.steps,.int .i64 q.paths,.int .i64 q.nodes,.int .i64 q.confs] 30 (0,0))):=(B1.out.block _ (by omega)).trans HG1.out;have p0:=row_of HG4.out 0 (.slice la q.levels.length lc) rfl;have p1:=row_of HG4.out 1 (.slice oa q.order.length oc) rfl;have p2:=row_of HG4.out 2 (.slice ca q.chans.length cc) rfl;have p3:=row_of HG4.out 3 (.slice sa q.sites.length sc) rfl;have p4:=row_of HG4.out 4 (.bool q.sens) rfl;have p5:=row_of HG4.out 5 (.int .i64 q.steps) rfl;have p6:=row_of HG4.out 6 (.int .i64 q.paths) rfl;have p7:=row_of HG4.out 7 (.int .i64 q.nodes) rfl;have p8:=row_of HG4.out 8 (.int .i64 q.confs) rfl)|(go_at_call 46;refine (HC2.out _ B1.out).mono ?_;rintro e z2 ⟨rfl,hz⟩;have B2:=hid (bcomp B1.out hz);clear hz p0 p1 p2 p3 p4 p5 p6 p7 p8))
 have HB2:=hid (bcomp HB0.out B2.out)
 have HG5:Hid (z2.heap[w.heap.size+1+1]?=some (.cells #[.pointer none,.int .i64 0,.int .i64 0,.slice none 0 0,.slice none 0 0,.slice none 0 0,.slice none 0 0,.slice none 0 0,.slice none 0 0,.slice none 0 0,.slice none 0 0,.bool false,.int .i64 0,.int .i64 0,.int .i64 0,.int .i64 0,.slice none 0 0,.slice none 0 0] 64 (0,0))):=(B2.out.block _ hsz).trans HG2.out
 by_cases n2:eP=0
 case neg=>
  obtain rfl:E=2:=by rw[← HE.out,sideErr,if_pos (.inr (by rw[HEP.out];exact n2))]
  have n2':(eP != 0)=true:=by simp[n2]
  go_wp2_with (refine wpList_store_row rfl 64 (.tmp 4) (.tmp 18) rfl (w.heap.size+1+1) #[.pointer none,.int .i64 0,.int .i64 0,.slice none 0 0,.slice none 0 0,.slice none 0 0,.slice none 0 0,.slice none 0 0,.slice none 0 0,.slice none 0 0,.slice none 0 0,.bool false,.int .i64 0,.int .i64 0,.int .i64 0,.int .i64 0,.slice none 0 0,.slice none 0 0] rfl rfl 64 #[.pointer none,.int .i64 0,.int .i64 0,.slice none 0 0,.slice none 0 0,.slice none 0 0,.slice none 0 0,.slice none 0 0,.slice none 0 0,.slice none 0 0,.slice none 0 0,.bool false,.int .i64 0,.int .i64 0,.int .i64 0,.int .i64 0,.slice none 0 0,.slice none 0 0] ?hs2 (by as_aux_lemma=>kernel_rfl) (by as_aux_lemma=>kernel_rfl) (by as_aux_lemma=>kernel_rfl) ?_;exact HG5.out)
  refine bodyPost_ret (v:=.tuple #[.agg #[.pointer none,.int .i64 0,.int .i64 0,.slice none 0 0,.slice none 0 0,.slice none 0 0,.slice none 0 0,.slice none 0 0,.slice none 0 0,.slice none 0 0,.slice none 0 0,.bool false,.int .i64 0,.int .i64 0,.int .i64 0,.int .i64 0,.slice none 0 0,.slice none 0 0],.int .i64 2]) ?_ rfl ⟨_,rfl,.inl ⟨by decide,rfl⟩,below_row HB2.out (by omega) _⟩
  exact results_cell_two (P:=Tryz.prog) (fn:=Tryz.f27) rfl _ _ (w.heap.size+1+1) 64 #[.pointer none,.int .i64 0,.int .i64 0,.slice none 0 0,.slice none 0 0,.slice none 0 0,.slice none 0 0,.slice none 0 0,.slice none 0 0,.slice none 0 0,.slice none 0 0,.bool false,.int .i64 0,.int .i64 0,.int .i64 0,.int .i64 0,.slice none 0 0,.slice none 0 0] (0,0) _ rfl (setRow_heap _ _ _ _ _ _ HG5.out) Tryz.underlying64 rfl (by as_aux_lemma=>kernel_rfl)
 subst n2
 have HE1:Hid (E=rulesErr f q):=by show E=_;rw[← HE.out,sideErr,if_neg (by rw[HEF.out,HEP.out];simp)]
 have HF2:=hid (HFW.out.keep B2.out)
 have HP2:=hid (HPW.out.keep B2.out)
 have HL2:=hid (HLW.out.keep B2.out)
 have HT2:=hid (HTW.out.keep B2.out)
 have HG6:Hid (z2.heap[w.heap.size]?=some (.cells #[.int .i64 f.width,.int .i64 f.regs,.slice fca f.chans.length fcc,.slice fsa f.sites.length fsc,.slice faa f.arrays.length fac,.slice fka f.code.length fkc] 26 (0,0))):=(B2.out.block _ (by omega)).trans HG0.out
 have HG7:Hid (z2.heap[w.heap.size+1]?=some (.cells #[.slice la q.levels.length lc,.slice oa q.order.length oc,.slice ca q.chans.length cc,.slice sa q.sites.length sc,.bool q.sens,.int .i64 q.steps,.int .i64 q.paths,.int .i64 q.nodes,.int .i64 q.confs] 30 (0,0))):=(B2.out.block _ (by omega)).trans HG1.out
 have hsz2:w.heap.size+1+1<z2.heap.size:=(gsAgV HG5.out)
 clear HG0 HG1 HG2 HG4 HFW HPW HLW HTW HC1 HC2 B1 HB0
 have hRL:=rulesLevels f _ _ _ _ q _ _ _ _ z2 HF2.out HP2.out HL2.out HT2.out
 rw[← HE1.out] at hRL
 have HRL:=hid hRL
 clear hRL
 have y0:=row_of HG6.out 0 (.int .i64 f.width) rfl
 have y1:=row_of HG6.out 1 (.int .i64 f.regs) rfl
 have y2:=row_of HG6.out 2 (.slice fca f.chans.length fcc) rfl
 have y3:=row_of HG6.out 3 (.slice fsa f.sites.length fsc) rfl
 have y4:=row_of HG6.out 4 (.slice faa f.arrays.length fac) rfl
 have y5:=row_of HG6.out 5 (.slice fka f.code.length fkc) rfl
 have p0:=row_of HG7.out 0 (.slice la q.levels.length lc) rfl
 have p1:=row_of HG7.out 1 (.slice oa q.order.length oc) rfl
 have p2:=row_of HG7.out 2 (.slice ca q.chans.length cc) rfl
 have p3:=row_of HG7.out 3 (.slice sa q.sites.length sc) rfl
 have p4:=row_of HG7.out 4 (.bool q.sens) rfl
 have p5:=row_of HG7.out 5 (.int .i64 q.steps) rfl
 have p6:=row_of HG7.out 6 (.int .i64 q.paths) rfl
 have p7:=row_of HG7.out 7 (.int .i64 q.nodes) rfl
 have p8:=row_of HG7.out 8 (.int .i64 q.confs) rfl
 go_upto_region 4 with (go_at_call 47;refine HRL.out.mono ?_;rintro e z3 ⟨v1,v2,rfl,hs,hz⟩;have HS3:=hid hs;have B3:=hid hz;clear hz hs)
 clear y0 y1 y2 y3 y4 y5 p0 p1 p2 p3 p4 p5 p6 p7 p8 HRL
 have HB3:=hid (bcomp HB2.out B3.out)
 have HG8:Hid (z3.heap[w.heap.size+1+1]?=some (.cells #[.pointer none,.int .i64 0,.int .i64 0,.slice none 0 0,.slice none 0 0,.slice none 0 0,.slice none 0 0,.slice none 0 0,.slice none 0 0,.slice none 0 0,.slice none 0 0,.bool false,.int .i64 0,.int .i64 0,.int .i64 0,.int .i64 0,.slice none 0 0,.slice none 0 0] 64 (0,0))):=(B3.out.block _ hsz2).trans HG5.out
 by_cases n3:E=0
 case neg=>
  have n3':(E != 0)=true:=by simp[n3]
  go_wp2_with (refine wpList_store_row rfl 64 (.tmp 4) (.tmp 28) rfl (w.heap.size+1+1) #[.pointer none,.int .i64 0,.int .i64 0,.slice none 0 0,.slice none 0 0,.slice none 0 0,.slice none 0 0,.slice none 0 0,.slice none 0 0,.slice none 0 0,.slice none 0 0,.bool false,.int .i64 0,.int .i64 0,.int .i64 0,.int .i64 0,.slice none 0 0,.slice none 0 0] rfl rfl 64 #[.pointer none,.int .i64 0,.int .i64 0,.slice none 0 0,.slice none 0 0,.slice none 0 0,.slice none 0 0,.slice none 0 0,.slice none 0 0,.slice none 0 0,.slice none 0 0,.bool false,.int .i64 0,.int .i64 0,.int .i64 0,.int .i64 0,.slice none 0 0,.slice none 0 0] ?hs3 (by as_aux_lemma=>kernel_rfl) (by as_aux_lemma=>kernel_rfl) (by as_aux_lemma=>kernel_rfl) ?_;exact HG8.out)
  refine bodyPost_ret (v:=.tuple #[.agg #[.pointer none,.int .i64 0,.int .i64 0,.slice none 0 0,.slice none 0 0,.slice none 0 0,.slice none 0 0,.slice none 0 0,.slice none 0 0,.slice none 0 0,.slice none 0 0,.bool false,.int .i64 0,.int .i64 0,.int .i64 0,.int .i64 0,.slice none 0 0,.slice none 0 0],.int .i64 E]) ?_ rfl ⟨_,rfl,.inl ⟨n3,rfl⟩,below_row HB3.out (by omega) _⟩
  exact results_cell_two (P:=Tryz.prog) (fn:=Tryz.f27) rfl _ _ (w.heap.size+1+1) 64 #[.pointer none,.int .i64 0,.int .i64 0,.slice none 0 0,.slice none 0 0,.slice none 0 0,.slice none 0 0,.slice none 0 0,.slice none 0 0,.slice none 0 0,.slice none 0 0,.bool false,.int .i64 0,.int .i64 0,.int .i64 0,.int .i64 0,.slice none 0 0,.slice none 0 0] (0,0) _ rfl (setRow_heap _ _ _ _ _ _ HG8.out) Tryz.underlying64 rfl (by as_aux_lemma=>kernel_rfl)
 subst n3
 have hSP:=sideP HE.out
 have HR1:=hid (HS3.out.1 rfl).1
 have HR2:=hid (HS3.out.1 rfl).2
 obtain⟨cla,clc,hv1⟩:=HR1.out.is
 obtain⟨sla,slc,hv2⟩:=HR2.out.is
 rw[hSP.cl] at hv1
 rw[hSP.sl] at hv2
 subst hv1
 subst hv2
 have HG9:Hid (z3.heap[w.heap.size]?=some (.cells #[.int .i64 f.width,.int .i64 f.regs,.slice fca f.chans.length fcc,.slice fsa f.sites.length fsc,.slice faa f.arrays.length fac,.slice fka f.code.length fkc] 26 (0,0))):=(B3.out.block _ (by omega)).trans HG6.out
 have HG10:Hid (z3.heap[w.heap.size+1]?=some (.cells #[.slice la q.levels.length lc,.slice oa q.order.length oc,.slice ca q.chans.length cc,.slice sa q.sites.length sc,.bool q.sens,.int .i64 q.steps,.int .i64 q.paths,.int .i64 q.nodes,.int .i64 q.confs] 30 (0,0))):=(B3.out.block _ (by omega)).trans HG7.out
 have hsz3:w.heap.size+1+1<z3.heap.size:=(gsAgV HG8.out)
 have hLN:=latNew q.levels.length _ q.order z3 ⟨by have:=hSP.lv2;omega,by have:=hSP.lv2;omega⟩ (HP2.out.2.1.keep B3.out) (HT2.out.keep B3.out)
 rw[hSP.lat] at hLN
 have HLN:=hid hLN
 clear hLN HG6 HG7 HS3
 have p0:=row_of HG10.out 0 (.slice la q.levels.length lc) rfl
 have p1:=row_of HG10.out 1 (.slice oa q.order.length oc) rfl
 have p2:=row_of HG10.out 2 (.slice ca q.chans.length cc) rfl
 have p3:=row_of HG10.out 3 (.slice sa q.sites.length sc) rfl
 have p4:=row_of HG10.out 4 (.bool q.sens) rfl
 have p5:=row_of HG10.out 5 (.int .i64 q.steps) rfl
 have p6:=row_of HG10.out 6 (.int .i64 q.paths) rfl
 have p7:=row_of HG10.out 7 (.int .i64 q.nodes) rfl
 have p8:=row_of HG10.out 8 (.int .i64 q.confs) rfl
 go_upto_region 7 with (go_at_call 48;refine HLN.out.mono ?_;rintro e z4 ⟨v0,rfl,hs,hz⟩;have HS4:=hid (hs.1 rfl);have B4:=hid hz;clear hz hs)
 clear p0 p1 p2 p3 p4 p5 p6 p7 p8 HLN
 obtain⟨p,rfl,-⟩:=id HS4.out
 have HB4:=hid (bcomp HB3.out B4.out)
 have HG11:Hid (z4.heap[w.heap.size]?=some (.cells #[.int .i64 f.width,.int .i64 f.regs,.slice fca f.chans.length fcc,.slice fsa f.sites.length fsc,.slice faa f.arrays.length fac,.slice fka f.code.length fkc] 26 (0,0))):=(B4.out.block _ (by omega)).trans HG9.out
 have HG12:Hid (z4.heap[w.heap.size+1]?=some (.cells #[.slice la q.levels.length lc,.slice oa q.order.length oc,.slice ca q.chans.length cc,.slice sa q.sites.length sc,.bool q.sens,.int .i64 q.steps,.int .i64 q.paths,.int .i64 q.nodes,.int .i64 q.confs] 30 (0,0))):=(B4.out.block _ (by omega)).trans HG10.out
 have HG13:Hid (z4.heap[w.heap.size+1+1]?=some (.cells #[.pointer none,.int .i64 0,.int .i64 0,.slice none 0 0,.slice none 0 0,.slice none 0 0,.slice none 0 0,.slice none 0 0,.slice none 0 0,.slice none 0 0,.slice none 0 0,.bool false,.int .i64 0,.int .i64 0,.int .i64 0,.int .i64 0,.slice none 0 0,.slice none 0 0] 64 (0,0))):=(B4.out.block _ hsz3).trans HG8.out
 have HR3:=hid (HR1.out.keep B4.out)
 have HR4:=hid (HR2.out.keep B4.out)
 clear HG9 HG10 hSP
 have y0:=row_of HG11.out 0 (.int .i64 f.width) rfl
 have y1:=row_of HG11.out 1 (.int .i64 f.regs) rfl
 have y2:=row_of HG11.out 2 (.slice fca f.chans.length fcc) rfl
 have y3:=row_of HG11.out 3 (.slice fsa f.sites.length fsc) rfl
 have y4:=row_of HG11.out 4 (.slice faa f.arrays.length fac) rfl
 have y5:=row_of HG11.out 5 (.slice fka f.code.length fkc) rfl
 have p0:=row_of HG12.out 0 (.slice la q.levels.length lc) rfl
 have p1:=row_of HG12.out 1 (.slice oa q.order.length oc) rfl
 have p2:=row_of HG12.out 2 (.slice ca q.chans.length cc) rfl
 have p3:=row_of HG12.out 3 (.slice sa q.sites.length sc) rfl
 have p4:=row_of HG12.out 4 (.bool q.sens) rfl
 have p5:=row_of HG12.out 5 (.int .i64 q.steps) rfl
 have p6:=row_of HG12.out 6 (.int .i64 q.paths) rfl
 have p7:=row_of HG12.out 7 (.int .i64 q.nodes) rfl
 have p8:=row_of HG12.out 8 (.int .i64 q.confs) rfl
 go_wp2_with (refine wpList_store_row rfl 64 (.tmp 4) (.tmp 44) rfl (w.heap.size+1+1) #[.pointer (some ⟨p,0,none⟩),.int .i64 f.width,.int .i64 f.regs,.slice fca f.chans.length fcc,.slice fsa f.sites.length fsc,.slice faa f.arrays.length fac,.slice fka f.code.length fkc,.slice la q.levels.length lc,.slice oa q.order.length oc,.slice ca q.chans.length cc,.slice sa q.sites.length sc,.bool q.sens,.int .i64 q.steps,.int .i64 q.paths,.int .i64 q.nodes,.int .i64 q.confs,.slice cla f.chans.length clc,.slice sla f.sites.length slc] rfl rfl 64 #[.pointer none,.int .i64 0,.int .i64 0,.slice none 0 0,.slice none 0 0,.slice none 0 0,.slice none 0 0,.slice none 0 0,.slice none 0 0,.slice none 0 0,.slice none 0 0,.bool false,.int .i64 0,.int .i64 0,.int .i64 0,.int .i64 0,.slice none 0 0,.slice none 0 0] ?hs4 (by as_aux_lemma=>kernel_rfl) (by as_aux_lemma=>kernel_rfl) (by as_aux_lemma=>kernel_rfl) ?_;exact HG13.out)
 have HFIN:Hid (MadeSaid 0 f (.slice fca f.chans.length fcc) (.slice fsa f.sites.length fsc) (.slice faa f.arrays.length fac) (.slice fka f.code.length fkc) q (.slice la q.levels.length lc) (.slice oa q.order.length oc) (.slice ca q.chans.length cc) (.slice sa q.sites.length sc) (z4.setRow (w.heap.size+1+1) #[.pointer (some ⟨p,0,none⟩),.int .i64 f.width,.int .i64 f.regs,.slice fca f.chans.length fcc,.slice fsa f.sites.length fsc,.slice faa f.arrays.length fac,.slice fka f.code.length fkc,.slice la q.levels.length lc,.slice oa q.order.length oc,.slice ca q.chans.length cc,.slice sa q.sites.length sc,.bool q.sens,.int .i64 q.steps,.int .i64 q.paths,.int .i64 q.nodes,.int .i64 q.confs,.slice cla f.chans.length clc,.slice sla f.sites.length slc]) (.agg #[.pointer (some ⟨p,0,none⟩),.int .i64 f.width,.int .i64 f.regs,.slice fca f.chans.length fcc,.slice fsa f.sites.length fsc,.slice faa f.arrays.length fac,.slice fka f.code.length fkc,.slice la q.levels.length lc,.slice oa q.order.length oc,.slice ca q.chans.length cc,.slice sa q.sites.length sc,.bool q.sens,.int .i64 q.steps,.int .i64 q.paths,.int .i64 q.nodes,.int .i64 q.confs,.slice cla f.chans.length clc,.slice sla f.sites.length slc])):=by
  refine .inr ⟨rfl,p,cla,clc,sla,slc,rfl,?_,?_,?_⟩
  ·exact turnLat HS4.out HG13.out (by decide)
  ·exact turnRow HR3.out hsz2
  ·exact turnRow HR4.out hsz2
 refine bodyPost_ret (v:=.tuple #[.agg #[.pointer (some ⟨p,0,none⟩),.int .i64 f.width,.int .i64 f.regs,.slice fca f.chans.length fcc,.slice fsa f.sites.length fsc,.slice faa f.arrays.length fac,.slice fka f.code.length fkc,.slice la q.levels.length lc,.slice oa q.order.length oc,.slice ca q.chans.length cc,.slice sa q.sites.length sc,.bool q.sens,.int .i64 q.steps,.int .i64 q.paths,.int .i64 q.nodes,.int .i64 q.confs,.slice cla f.chans.length clc,.slice sla f.sites.length slc],.int .i64 0]) ?_ rfl ⟨_,rfl,HFIN.out,below_row HB4.out (by omega) _⟩
 exact results_cell_two (P:=Tryz.prog) (fn:=Tryz.f27) rfl _ _ (w.heap.size+1+1) 64 #[.pointer (some ⟨p,0,none⟩),.int .i64 f.width,.int .i64 f.regs,.slice fca f.chans.length fcc,.slice fsa f.sites.length fsc,.slice faa f.arrays.length fac,.slice fka f.code.length fkc,.slice la q.levels.length lc,.slice oa q.order.length oc,.slice ca q.chans.length cc,.slice sa q.sites.length sc,.bool q.sens,.int .i64 q.steps,.int .i64 q.paths,.int .i64 q.nodes,.int .i64 q.confs,.slice cla f.chans.length clc,.slice sla f.sites.length slc] (0,0) _ rfl (setRow_heap _ _ _ _ _ _ HG13.out) Tryz.underlying64 rfl (by as_aux_lemma=>kernel_rfl)
open Go.ChangeShapes Go.WideShapes Go.ChangeAt Go.RowKit Go.Maps
def MapF (D:DataW Unit) (f:Int→Option Int):Prop:=∀ i:Int,Maps.has D (.int .i64 i)=(f i).isSome∧D.atKey (.int .i64 i) (.lit (.int .u64 0))=.lit (.int .u64 ((f i).getD 0))
theorem mapF_none:MapF (.map []) (fun _=>none):=fun i=>⟨rfl,rfl⟩
theorem litNe {i k:Int} (h:i≠k):Lit.int .i64 i≠Lit.int .i64 k:=fun e=>h (by cases e;rfl)
theorem MapF.put {D:DataW Unit} {f:Int→Option Int} (h:MapF D f) (hD:IsMap D) (k x:Int):MapF (D.put (.int .i64 k) (.lit (.int .u64 x))) (fun i=>if i=k then some x else f i):=by
 intro i
 by_cases e:i=k
 ·subst e
  simp only[if_true]
  have hk:WideAt.IsKeyLit (.int .i64 i):=trivial
  exact⟨has_put_same hD hk _,atKey_put_same hD hk _ _⟩
 ·simp only[if_neg e]
  rw[has_put_other (litNe e),atKey_put_other (litNe e)]
  exact h i
theorem MapF.del {D:DataW Unit} {f:Int→Option Int} (h:MapF D f) (k:Int):MapF (D.del (.int .i64 k)) (fun i=>if i=k then none else f i):=by
 intro i
 by_cases e:i=k
 ·subst e
  simp only[if_true]
  exact⟨has_del_same,atKey_del_same _⟩
 ·simp only[if_neg e]
  rw[has_del_other (litNe e),atKey_del_other (litNe e)]
  exact h i
def fA (A:List Int) (lo hi:Nat):Int→Option Int:=fun i=>if (lo:Int)≤i∧i<hi then A[i.toNat]? else none
theorem fA_none (A:List Int):fA A 0 0=fun _=>none:=by funext i;unfold fA;rw[if_neg (by omega)]
theorem fA_put {A:List Int} {k:Nat} {x:Int} (hx:A[k]?=some x):(fun i=>if i=(k:Int) then some x else fA A 0 k i)=fA A 0 (k+1):=by
 funext i
 unfold fA
 by_cases e:i=(k:Int)
 ·subst e
  rw[if_pos rfl,if_pos (by omega),Int.toNat_natCast,hx]
 ·rw[if_neg e]
  by_cases h:(0:Int)≤i∧i<k
  ·rw[if_pos (by simpa using h),if_pos (by omega)]
  ·rw[if_neg (by simpa using h),if_neg (by omega)]
theorem fA_del (A:List Int) (j n:Nat):(fun i=>if i=(j:Int) then none else fA A j n i)=fA A (j+1) n:=by
 funext i
 unfold fA
 by_cases e:i=(j:Int)
 ·subst e
  rw[if_pos rfl,if_neg (by omega)]
 ·rw[if_neg e]
  by_cases h:(j:Int)≤i∧i<n
  ·rw[if_pos h,if_pos (by omega)]
  ·rw[if_neg h,if_neg (by omega)]
theorem fA_at (A:List Int) (j:Nat):(fA A j A.length j).getD 0=A.getD j 0:=by
 unfold fA
 rw[List.getD_eq_getElem?_getD]
 by_cases h:j<A.length
 ·rw[if_pos (by omega),Int.toNat_natCast]
 ·rw[if_neg (by omega),List.getElem?_eq_none (by omega)]
theorem fA_some {A:List Int} {lo hi:Nat} {x c:Int} (h:fA A lo hi x=some c):∃ j:Nat,x=j∧lo≤j∧j<hi∧A[j]?=some c:=by
 unfold fA at h
 split at h
 ·next hx=>exact⟨x.toNat,by omega,by omega,by omega,h⟩
 ·cases h
theorem fA_have {A:List Int} {lo hi j:Nat} (h1:lo≤j) (h2:j<hi):fA A lo hi j=A[j]?:=by
 unfold fA;rw[if_pos (by omega),Int.toNat_natCast]
theorem inpAt_get (A:List (List Int)) (c k:Nat):inpAt A c k=(A.getD c []).getD k 0:=by
 unfold inpAt inAt
 rw[List.getD_eq_getElem?_getD,List.getD_eq_getElem?_getD]
 cases A[c]? <;> rfl
def sameL (A B:List Int):Bool:=allN (max A.length B.length) fun k=>A.getD k 0==B.getD k 0
theorem sameL_chan (A B:List (List Int)) (c:Nat):chanSame A B c=sameL (A.getD c []) (B.getD c []):=by
 unfold chanSame sameL lenAt
 congr 1
 funext k
 rw[inpAt_get,inpAt_get]
theorem getD_past {A:List Int} {j:Nat} (h:A.length≤j):A.getD j 0=0:=by rw[List.getD_eq_getElem?_getD,List.getElem?_eq_none h];rfl
theorem sameL_yes {A B:List Int} (h1:∀ j,j<B.length→A.getD j 0=B.getD j 0) (h2:∀ j,B.length≤j→j<A.length→A.getD j 0=0):sameL A B=true:=by
 unfold sameL
 rw[allN_iff]
 intro j hj
 by_cases h:j<B.length
 ·rw[h1 j h];exact beq_self_eq_true _
 ·rw[h2 j (by omega) (by omega),getD_past (show B.length≤j by omega)];rfl
theorem sameL_no {A B:List Int} {j:Nat} (h:A.getD j 0≠B.getD j 0):sameL A B=false:=by
 unfold sameL
 rw[allN_false]
 refine⟨j,?_,by simpa using h⟩
 by_cases h1:j<max A.length B.length
 ·exact h1
 ·exact absurd ((getD_past (show A.length≤j by omega)).trans (getD_past (show B.length≤j by omega)).symm) h
def Zeros (f:Int→Option Int) (left:Lit→Bool):Prop:=∀ i c,f i=some c→left (.int .i64 i)=true ∨ c=0
theorem zeros_start {D:DataW Unit} {f:Int→Option Int} (h:MapF D f):Zeros f (Maps.has D):=fun i c hi=>.inl (by rw[(h i).1,hi];rfl)
theorem zeros_step {D:DataW Unit} {f:Int→Option Int} {left:Lit→Bool} (h:MapF D f) (hz:Zeros f left) {x c:Int} (hat:D.atKey (.int .i64 x) (.lit (.int .u64 0))=.lit (.int .u64 c)) (hc:c=0):Zeros f (fun z=>left z&&!z.sameKey (.int .i64 x)):=by
 intro i d hi
 by_cases e:i=x
 ·subst e
  have:=(h i).2
  rw[hat,hi] at this
  simp only[Option.getD_some,DataW.lit.injEq,Lit.int.injEq,true_and] at this
  exact .inr (by rw[← this,hc])
 ·rcases hz i d hi with h1|h1
  ·left
   simp only[h1,Bool.true_and]
   have:(Lit.int .i64 i).sameKey (.int .i64 x)=false:=sameKey_ne (litNe e)
   simp[this]
  ·exact .inr h1
theorem mapF_get {D:DataW Unit} {f:Int→Option Int} (h:MapF D f) {x c:Int} (hat:D.atKey (.int .i64 x) (.lit (.int .u64 0))=.lit (.int .u64 c)):(f x).getD 0=c:=by
 have:=(h x).2
 rw[hat] at this
 simp only[DataW.lit.injEq,Lit.int.injEq,true_and] at this
 exact this.symm
theorem lawI:Keyed Tryz.prog 3:=int_keyed Tryz.underlying3
theorem zeroU (w:World):(zeroValue 58).run Tryz.prog w=.ok (.int .u64 0) w:=by kernel_rfl
theorem allN_take {n:Nat} {f:Nat→Bool} (h:∀ i,i<n→f i=true):allN n f=true:=allN_iff.2 h
theorem inputs_any (L:LatD) (v0 lvs av bv:Value) (level:Int) (levels:List Int) (A B:List (List Int)) (w:World) (h:LatAt w v0 L) (hlv:InI64 level) (hr:RdRow kInt none w lvs levels) (hlen:levels.length≤1000000) (ha:RdLists none w av A) (hb:RdLists none w bv B) :
  Calls Tryz.prog 50 #[v0,.int .i64 level,lvs,av,bv] w fun e w'=>e=.returned (.tuple #[.bool (inpErr L level levels A B==0&&inpSame L level levels A B),.int .i64 (inpErr L level levels A B)])∧Below w.heap.size w w':=by
 obtain⟨la,lc,rfl⟩:=hr.is
 obtain⟨aa,ac,rfl⟩:=ha.is
 obtain⟨ba,bc,rfl⟩:=hb.is
 have hal:A.length*24≤140737488351232:=ha.size
 have hbl:B.length*24≤140737488351232:=hb.size
 have hmm:=@run_makeMap Tryz.prog
 obtain⟨E,hE⟩:∃ E,inpErr L level levels A B=E:=⟨_,rfl⟩
 obtain⟨S,hS⟩:∃ S,inpSame L level levels A B=S:=⟨_,rfl⟩
 rw[hE,hS]
 have HE:=hid hE
 have HS:=hid hS
 have HL:=hid h
 have HR:=hid hr
 have HA:=hid ha
 have HB:=hid hb
 have HMY:=hid (may_any L _ _ level levels w h hlv hr hlen)
 obtain⟨K,hK⟩:∃ K,knownL L level levels=K:=⟨_,rfl⟩
 rw[hK] at HMY
 obtain⟨p,rfl,_⟩:=h
 clear hE hS hr ha hb
 go_enter Tryz.func50,Tryz.ntmps50
 cases K with
 | false=>
  obtain rfl:E=3:=by rw[← HE.out,inpErr,if_pos (.inl hK)]
  clear hK
  go_wp2_with (go_at_call 78;refine HMY.out.mono ?_;rintro e z1 ⟨rfl,hz⟩;have B1:=hid hz;clear hz)
  go_ret2
  exact⟨rfl,B1.out⟩
 | true=>
 by_cases g1:levels.length<A.length
 ·obtain rfl:E=3:=by rw[← HE.out,inpErr,if_pos (.inr (.inl g1))]
  have g1':(levels.length:Int)<A.length:=by omega
  clear hK
  go_wp2_with (go_at_call 78;refine HMY.out.mono ?_;rintro e z1 ⟨rfl,hz⟩;have B1:=hid hz;clear hz)
  go_ret2
  exact⟨rfl,B1.out⟩
 by_cases g2:levels.length<B.length
 ·obtain rfl:E=3:=by rw[← HE.out,inpErr,if_pos (.inr (.inr g2))]
  have g1':¬ (levels.length:Int)<A.length:=by omega
  have g2':(levels.length:Int)<B.length:=by omega
  clear hK
  go_wp2_with (go_at_call 78;refine HMY.out.mono ?_;rintro e z1 ⟨rfl,hz⟩;have B1:=hid hz;clear hz)
  go_ret2
  exact⟨rfl,B1.out⟩
 obtain rfl:E=0:=by rw[← HE.out,inpErr,if_neg (by simp[hK];omega)]
 have g1':¬ (levels.length:Int)<A.length:=by omega
 have g2':¬ (levels.length:Int)<B.length:=by omega
 clear hK HE
 go_upto_region 5 with (go_at_call 78;refine HMY.out.mono ?_;rintro e z1 ⟨rfl,hz⟩;have B1:=hid hz;clear hz)
 clear HMY
 have HL1:=hid (HL.out.keep B1.out)
 have HR1:=hid (HR.out.keep B1.out)
 have HA1:=hid (HA.out.keep B1.out)
 have HB1:=hid (HB.out.keep B1.out)
 clear HL HR HA HB
 have HFIN:Hid (∀ c,c<levels.length→(!leL L (levels.getD c 0) level||chanSame A B c)=false→S=false):=by
  intro c hc hf
  rw[← HS.out]
  unfold inpSame
  exact allN_false.2 ⟨c,hc,hf⟩
 go_wp2_with fail
 go_loopw [12,43] (fun _ v wr=>∃ c:Nat,c≤levels.length∧v=.int .i64 c∧Hid (∀ x,x<c→(!leL L (levels.getD x 0) level||chanSame A B x)=true)∧Below z1.heap.size z1 wr) (fun _ v _=>levels.length-(intOf v).toNat)
 case atStart=>exact⟨0,by omega,rfl,fun x hx=>by omega,Below.refl _ _⟩
 case round=>
  obtain⟨c,hc,rfl,HQ,hbw⟩:=hrel
  obtain⟨w1,rfl⟩:∃ x:World,x=wr:=⟨_,rfl⟩
  have HBW:=hid hbw
  clear hbw
  by_cases hcl:c<levels.length
  ·have hcl1:(c:Int)<levels.length:=by omega
   obtain⟨y,hy⟩:∃ y,levels[c]?=some y:=⟨_,lgAgV hcl⟩
   have hyd:levels.getD c 0=y:=by rw[List.getD_eq_getElem?_getD,hy];rfl
   obtain⟨b,o,rfl,_,c0,_⟩:=atInt (HR1.out.keep HBW.out) hy
   have HLE:=hid ((le_any L _ y level w1 (HL1.out.keep HBW.out)).mono fun e w' h=>(⟨h.1,h.2.symm⟩:_∧w1=w'))
   have HF2:=HFIN.out c hcl
   rw[hyd] at HF2
   have HF3:=hid HF2
   clear HF2
   obtain⟨V,hV⟩:∃ V,leL L y level=V:=⟨_,rfl⟩
   rw[hV] at HLE HF3
   clear hy
   cases V with
   | false=>
    have HQ2:Hid (∀ x,x<c+1→(!leL L (levels.getD x 0) level||chanSame A B x)=true):=by
     intro x hx
     by_cases e:x<c
     ·exact HQ.out x e
     ·obtain rfl:x=c:=by omega
      rw[hyd,hV];rfl
    clear hV hyd HF3
    go_wp2_with (go_at_call 79;refine HLE.out.mono ?_;rintro e w' ⟨rfl,rfl⟩)
    go_roundw
    case rel=>exact⟨c+1,by omega,by go_num,HQ2,HBW.out⟩
    case measure=>simp[intOf];omega
   | true=>
    have HQ2:Hid (sameL (A.getD c []) (B.getD c [])=true→∀ x,x<c+1→(!leL L (levels.getD x 0) level||chanSame A B x)=true):=by
     intro hs x hx
     by_cases e:x<c
     ·exact HQ.out x e
     ·obtain rfl:x=c:=by omega
      rw[hyd,hV,sameL_chan,hs];rfl
    have HF4:Hid (sameL (A.getD c []) (B.getD c [])=false→S=false):=by
     intro hs
     apply HF3.out
     rw[sameL_chan,hs];rfl
    obtain⟨LA,hLA⟩:∃ l,A.getD c []=l:=⟨_,rfl⟩
    obtain⟨LB,hLB⟩:∃ l,B.getD c []=l:=⟨_,rfl⟩
    rw[hLA,hLB] at HQ2 HF4
    have HLA:=hid hLA
    have HLB:=hid hLB
    clear hV hyd HF3 HQ hLA hLB
    go_upto_region 10 with (go_at_call 79;refine HLE.out.mono ?_;rintro e w' ⟨rfl,rfl⟩)
    clear c0 HLE
    have HM0:Hid ((w1.alloc (.map #[] 0)).ownsMap Tryz.prog 3 (plainElem (H:=Unit) Tryz.prog 58) w1.heap.size 0 (.map [])):=World.ownsMap_made _ _ _ _
    have HBA:=hid (HBW.out.alloc HBW.out.size (.map #[] 0))
    have hmb:z1.heap.size≤w1.heap.size:=HBW.out.size
    obtain⟨mb,hmb2⟩:∃ mb,w1.heap.size=mb:=⟨_,rfl⟩
    rw[hmb2] at HM0 hmb ⊢
    generalize w1.alloc (.map #[] 0)=w2 at *
    clear hmb2 HBW
    have HA2:=hid (HA1.out.keep HBA.out)
    have HB2:=hid (HB1.out.keep HBA.out)
    go_upto_if 58 with fail
    go_cut [14,15,43] from 44 to 103 (fun _ _ c43 wx=>c43=.int .i64 c∧∃ (D:DataW Unit) (n:Nat),wx.ownsMap Tryz.prog 3 (plainElem (H:=Unit) Tryz.prog 58) mb n D∧n≤LA.length∧MapF D (fA LA 0 LA.length)∧Below z1.heap.size z1 wx)
    case first=>
     by_cases hca:c<A.length
     ·have hca1:(c:Int)<A.length:=by omega
      try rw[show decide (c<A.length)=true from decide_eq_true hca]
      have hA:A[c]?=some LA:=by rw[← HLA.out,List.getD_eq_getElem?_getD,List.getElem?_eq_getElem hca];rfl
      obtain⟨b1,o1,ra,rc,rfl,_,cA0,hrow⟩:=HA1.out.at hA
      have cA:=cell_keep HBA.out cA0
      clear cA0
      have HROW:=hid hrow
      have hrl:LA.length*8≤140737488351232:=hrow.size
      clear hA hrow
      go_wp2_with fail
      clear cA
      go_loopw [14,15,64] (fun _ _ v wr=>∃ (k:Nat) (D:DataW Unit),k≤LA.length∧v=.int .i64 k∧wr.ownsMap Tryz.prog 3 (plainElem (H:=Unit) Tryz.prog 58) mb k D∧MapF D (fA LA 0 k)∧Below z1.heap.size z1 wr) (fun _ _ v _=>LA.length-(intOf v).toNat)
      case atStart=>exact⟨0,_,by omega,rfl,HM0.out,by rw[fA_none];exact mapF_none,HBA.out⟩
      case round=>
       obtain⟨k,D,hk,rfl,hown,hmf,hbk⟩:=hrel
       clear HM0 HBA HA2 HB2
       obtain⟨w3,rfl⟩:∃ x:World,x=wr:=⟨_,rfl⟩
       have HBK:=hid hbk
       have HMF:=hid hmf
       clear hbk hmf
       by_cases hkl:k<LA.length
       ·have hkl1:(k:Int)<LA.length:=by omega
        obtain⟨x,hx⟩:∃ x,LA[k]?=some x:=⟨_,lgAgV hkl⟩
        obtain⟨b2,o2,rfl,_,cx,hx0,hx1⟩:=atNum (HROW.out.keep HBK.out) hx
        have hkey:keyOf Tryz.prog 3 (.int .i64 k)=some (.int .i64 k):=keyOf_int_mk Tryz.underlying3 (WalkArith.wf_i64 ⟨by omega,by omega⟩)
        have hwf:(Lit.int .u64 x).wf=true:=by simp[Lit.wf,IntKind.min,IntKind.max,IntKind.bits,IntKind.signed];omega
        have hput:=HMF.out.put (hown.isMap) k x
        rw[fA_put hx] at hput
        have HPUT:=hid hput
        clear hput hx
        go_wp2_with (at_mapUpdate;refine wpList_mapUpdate_own _ rfl _ _ _ 139 rfl 3 58 lawI Tryz.underlying139 _ mb k _ rfl hown (by unfold maxLen;omega) _ _ _ rfl rfl hkey _ [] (plainElem_int Tryz.underlying58 hwf) ?_;intro w4 hown1 hgrow1)
        have HB4:=hid (HBK.out.grown hgrow1 HBK.out.size (fun j hj=>by cases hj;exact hmb))
        go_roundw
        case rel=>exact⟨k+1,_,by omega,by go_num,hown1,HPUT.out,HB4.out⟩
        case measure=>simp[intOf];omega
       ·obtain rfl:k=LA.length:=by omega
        have hkl1:¬ (LA.length:Int)<LA.length:=by omega
        go_wp2_with fail
        go_meet
        exact⟨rfl,D,LA.length,hown,Nat.le_refl _,HMF.out,HBK.out⟩
     ·have hca1:¬ (c:Int)<A.length:=by omega
      have hgd:LA=[]:=by rw[← HLA.out,List.getD_eq_getElem?_getD,List.getElem?_eq_none (by omega)];rfl
      have HM1:Hid (MapF (.map []) (fA LA 0 LA.length)):=by
       show MapF _ _
       rw[hgd,show ([]:List Int).length=0 from rfl,fA_none];exact mapF_none
      clear hgd
      go_wp2_with fail
      go_meet
      exact⟨rfl,_,0,HM0.out,Nat.zero_le _,HM1.out,HBA.out⟩
    case rest=>
     clear HM0 HBA HA2 HB2 w2
     obtain⟨rfl,D0,n0,hown0,hn0,hmf0,hb0⟩:=hcut
     generalize wc=w2 at *
     have HBA:=hid hb0
     have HM0:=hid hown0
     have HF0:=hid hmf0
     have hsz2:mb<w2.heap.size:=hown0.lt
     clear hb0 hown0 hmf0
     go_upto_if 76 with fail
     go_cut [16,17,43] from 44 to 103 (fun _ _ c43 wx=>c43=.int .i64 c∧∃ (D:DataW Unit) (n:Nat),wx.ownsMap Tryz.prog 3 (plainElem (H:=Unit) Tryz.prog 58) mb n D∧MapF D (fA LA LB.length LA.length)∧(∀ j,j<LB.length→LA.getD j 0=LB.getD j 0)∧Below z1.heap.size z1 wx)
     case first=>
      by_cases hcb:c<B.length
      ·have hcb1:(c:Int)<B.length:=by omega
       try rw[show decide (c<B.length)=true from decide_eq_true hcb]
       have hB:B[c]?=some LB:=by rw[← HLB.out,List.getD_eq_getElem?_getD,List.getElem?_eq_getElem hcb];rfl
       obtain⟨b1,o1,ra,rc,rfl,_,cB0,hrow⟩:=HB1.out.at hB
       have cB:=cell_keep HBA.out cB0
       clear cB0
       have HROW:=hid hrow
       have hrl:LB.length*8≤140737488351232:=hrow.size
       clear hB hrow
       go_wp2_with fail
       clear cB
       go_loopw [16,17,82] (fun _ _ v wr=>∃ (j:Nat) (D:DataW Unit),j≤LB.length∧v=.int .i64 j∧wr.ownsMap Tryz.prog 3 (plainElem (H:=Unit) Tryz.prog 58) mb n0 D∧MapF D (fA LA j LA.length)∧Hid (∀ i,i<j→LA.getD i 0=LB.getD i 0)∧Below z1.heap.size z1 wr) (fun _ _ v _=>LB.length-(intOf v).toNat)
       case atStart=>exact⟨0,_,by omega,rfl,HM0.out,HF0.out,fun i hi=>by omega,HBA.out⟩
       case round=>
        obtain⟨j,D,hj,rfl,hown,hmf,HEQ,hbk⟩:=hrel
        clear HM0 HBA HF0 hsz2
        obtain⟨w3,rfl⟩:∃ x:World,x=wr:=⟨_,rfl⟩
        have HBK:=hid hbk
        have HMF:=hid hmf
        clear hbk hmf
        by_cases hjl:j<LB.length
        ·have hjl1:(j:Int)<LB.length:=by omega
         obtain⟨x,hx⟩:∃ x,LB[j]?=some x:=⟨_,lgAgV hjl⟩
         have hxd:LB.getD j 0=x:=by rw[List.getD_eq_getElem?_getD,hx];rfl
         obtain⟨b2,o2,rfl,_,cx,hx0,hx1⟩:=atNum (HROW.out.keep HBK.out) hx
         have hkey:keyOf Tryz.prog 3 (.int .i64 j)=some (.int .i64 j):=keyOf_int_mk Tryz.underlying3 (WalkArith.wf_i64 ⟨by omega,by omega⟩)
         have hdel:=HMF.out.del j
         rw[fA_del] at hdel
         have HDEL:=hid hdel
         clear hdel hx
         go_upto_region 20 with fail
         clear cx
         obtain⟨y,hy⟩:∃ y,LA.getD j 0=y:=⟨_,rfl⟩
         have HGET:Hid (∀ d:Int,D.atKey (.int .i64 j) (.lit (.int .u64 0))=.lit (.int .u64 d)→d=y):=by
          intro d hd
          rw[← hy,← fA_at,mapF_get HMF.out hd]
         by_cases hyx:y=x
         ·have HEQ2:Hid (∀ i,i<j+1→LA.getD i 0=LB.getD i 0):=by
           intro i hi
           by_cases e:i<j
           ·exact HEQ.out i e
           ·obtain rfl:i=j:=by omega
            rw[hy,hxd,hyx]
          subst hyx
          clear hy hxd HEQ
          go_wp2_with (first
           | (at_lookup;refine wpList_lookup_own_int _ rfl _ _ 139 rfl 3 58 .u64 lawI Tryz.underlying139 Tryz.underlying58 (zeroU _) mb n0 _ rfl hown _ _ rfl hkey ?_;intro d hat hwd;obtain rfl:=HGET.out d hat)
           | (at_delete;refine wpList_delete_own _ rfl _ _ 139 3 rfl 58 lawI Tryz.underlying139 _ mb n0 _ rfl hown _ _ rfl hkey ?_;intro w4 hown1 hturn1))
          have HB4:=hid (HBK.out.grown hturn1.grown HBK.out.size (fun j hj=>by cases hj;exact hmb))
          go_roundw
          case rel=>exact⟨j+1,_,by omega,by go_num,hown1,HDEL.out,HEQ2,HB4.out⟩
          case measure=>simp[intOf];omega
         ·have hSf:S=false:=HF4.out (sameL_no (j:=j) (by rw[hy,hxd];exact hyx))
          subst hSf
          clear hy hxd HEQ HF4 HQ2 HFIN HS
          go_wp2_with (first
           | (at_lookup;refine wpList_lookup_own_int _ rfl _ _ 139 rfl 3 58 .u64 lawI Tryz.underlying139 Tryz.underlying58 (zeroU _) mb n0 _ rfl hown _ _ rfl hkey ?_;intro d hat hwd;obtain rfl:=HGET.out d hat))
          go_ret2
          exact⟨rfl,bcomp B1.out HBK.out⟩
        ·obtain rfl:j=LB.length:=by omega
         have hjl1:¬ (LB.length:Int)<LB.length:=by omega
         go_wp2_with fail
         go_meet
         exact⟨rfl,D,n0,hown,HMF.out,HEQ.out,HBK.out⟩
      ·have hcb1:¬ (c:Int)<B.length:=by omega
       have hgd:LB=[]:=by rw[← HLB.out,List.getD_eq_getElem?_getD,List.getElem?_eq_none (by omega)];rfl
       have HM1:Hid (MapF D0 (fA LA LB.length LA.length)∧∀ j,j<LB.length→LA.getD j 0=LB.getD j 0):=by
        rw[hgd]
        exact⟨HF0.out,fun j hj=>by simp at hj⟩
       clear hgd
       go_wp2_with fail
       go_meet
       exact⟨rfl,D0,n0,HM0.out,HM1.out.1,HM1.out.2,HBA.out⟩
     case rest=>
      clear HM0 HBA HF0 hsz2 hn0 w2
      obtain⟨rfl,D1,n1,hown1,hmf1,heq1,hb1⟩:=hcut
      generalize wc=w2 at *
      have HBA:=hid hb1
      have HF1:=hid hmf1
      have HEQ:=hid heq1
      clear hb1 hmf1 heq1
      obtain⟨r,hr⟩:∃ r,w2.heap.size=r:=⟨_,rfl⟩
      have hrz:z1.heap.size≤r:=by rw[← hr];exact HBA.out.size
      have HZ0:=hid (zeros_start HF1.out)
      go_wp2_with (first
       | (at_range;refine wpList_range_own _ rfl _ 139 rfl 3 58 lawI Tryz.underlying139 _ mb n1 _ rfl hown1 ?_;intro w5 hrg0 hg0 hs0))
      go_frame
      rw[hr] at hrg0 ⊢
      have HB5:=hid (HBA.out.grown hg0 HBA.out.size (fun j hj=>by cases hj))
      clear hs0 hg0 hr hown1 HBA
      go_loopw [19] (fun _ wr=>∃ (left:Lit→Bool) (cnt:Nat),wr.ranges Tryz.prog 3 (plainElem (H:=Unit) Tryz.prog 58) mb r n1 D1 left cnt∧Zeros (fA LA LB.length LA.length) left∧Below z1.heap.size z1 wr) (fun _ wr=>wr.rangeLeft mb r)
      case atStart=>exact⟨_,_,hrg0,HZ0.out,HB5.out⟩
      case round=>
       obtain⟨left,cnt,hrg,hz,hbk⟩:=hrel
       clear hrg0 HZ0 HB5
       have HBK:=hid hbk
       have HZ:=hid hz
       clear hbk hz
       go_wp2_with (first
        | (at_next;refine wpList_next_ranges_ii _ rfl _ rfl 3 58 .i64 .u64 lawI Tryz.underlying3 Tryz.underlying58 mb r n1 _ _ _ rfl hrg ?_ ?_))
       ·intro _ hl0
        have hsame:sameL LA LB=true:=by
         refine sameL_yes HEQ.out fun j h1 h2=>?_
         obtain⟨x,hx⟩:∃ x,LA[j]?=some x:=⟨_,lgAgV h2⟩
         rcases HZ.out j x (by rw[fA_have h1 h2];exact hx) with h|h
         ·rw[hl0] at h;cases h
         ·rw[List.getD_eq_getElem?_getD,hx,h];rfl
        have HQ3:=hid (HQ2.out hsame)
        clear hsame hl0 HZ HQ2 HF4 hrg
        go_wp2_with fail
        go_roundw
        case rel=>exact⟨c+1,by omega,by go_num,HQ3.out,HBK.out⟩
        case measure=>simp[intOf];omega
       ·intro x d w6 cnt1 hwx hwc hlx hat hrg1 hlt hg1 hs1 hen
        have HB6:=hid (HBK.out.grown hg1 HBK.out.size (fun j hj=>by cases hj;exact hrz))
        have HAT:=hid (hat (.lit (.int .u64 0)))
        by_cases hd:d=0
        ·have HZ2:=hid (zeros_step HF1.out HZ.out HAT.out hd)
         subst hd
         clear hat hg1 hs1 hlx
         go_wp2_with fail
         go_roundw
         case rel=>exact⟨_,cnt1,hrg1,HZ2.out,HB6.out⟩
         case measure=>rw[hrg1.left_eq,hrg.left_eq];exact hlt
        ·have hfx:fA LA LB.length LA.length x=some d:=by
          have hg:=mapF_get HF1.out HAT.out
          cases hf:fA LA LB.length LA.length x with
          | none=>rw[hf] at hg;exact absurd hg.symm hd
          | some e=>rw[hf] at hg;rw[show e=d from hg]
         obtain⟨j,rfl,h1,h2,hj⟩:=fA_some hfx
         have hSf:S=false:=HF4.out (sameL_no (j:=j) (by
          rw[List.getD_eq_getElem?_getD,hj,getD_past h1];exact hd))
         subst hSf
         have hd1:(d != 0)=true:=by simp[hd]
         clear hat hg1 hs1 hlx HZ HFIN HS HQ2 HF4 hfx hj
         go_wp2_with fail
         go_ret2
         exact⟨rfl,bcomp B1.out HB6.out⟩
  ·have hcl1:¬ (c:Int)<levels.length:=by omega
   obtain rfl:c=levels.length:=by omega
   obtain rfl:S=true:=by
    rw[← HS.out]
    unfold inpSame
    exact allN_take HQ.out
   go_wp2_with fail
   go_ret2
   exact⟨rfl,bcomp B1.out HBW.out⟩
theorem kNum_app2 (a b:List Int):a.flatMap cellsNum++b.flatMap cellsNum=(a++b).flatMap cellsNum:=by rw[List.flatMap_append]
def baseT (T:List (List Int)) (i:Nat):List (List Int):=T.take i++List.replicate (T.length-i) []
theorem baseT_len (T:List (List Int)) {i:Nat} (h:i≤T.length):(baseT T i).length=T.length:=by unfold baseT;simp;omega
theorem baseT_at (T:List (List Int)) {i:Nat} (h:i<T.length):(baseT T i)[i]?=some []:=by
 unfold baseT
 rw[List.getElem?_append_right (by simp;omega),List.length_take,Nat.min_eq_left (by omega),Nat.sub_self,List.getElem?_replicate,if_pos (by omega)]
theorem baseT_step {T:List (List Int)} {i:Nat} {l:List Int} (h:T[i]?=some l):(baseT T i).set i l=baseT T (i+1):=by
 have hi:i<T.length:=(List.getElem?_eq_some_iff.1 h).1
 unfold baseT
 rw[List.set_append_right _ _ (by simp;omega),List.length_take,Nat.min_eq_left (by omega),Nat.sub_self,show T.length-i=(T.length-(i+1))+1 by omega,List.replicate_succ,List.set_cons_zero,List.take_add_one,h]
 simp
theorem baseT_end (T:List (List Int)):baseT T T.length=T:=by unfold baseT;simp
theorem baseT_none (T:List (List Int)):baseT T 0=List.replicate T.length []:=by unfold baseT;simp
theorem baseT_self {T:List (List Int)} {i:Nat} (h:i<T.length):(baseT T i).set i []=baseT T i:=by
 apply List.ext_getElem?
 intro j
 rw[List.getElem?_set]
 split
 ·next e=>subst e;rw[if_pos (by rw[baseT_len T (by omega)];exact h),baseT_at T h]
 ·rfl
theorem OwnL.fresh {n0:Nat} {w:World} {g:Nat} (n:Nat) (hg:w.heap[g]?=some (.cells (List.replicate n (Value.slice none 0 0)).toArray 61 (0,0))) (h:n0≤g) (hn:n≤1000000):OwnL n0 w (.slice (some ⟨g,0,none⟩) n n) (List.replicate n (.slice none 0 0)) (List.replicate n []):=by
 refine⟨⟨by simp,.inr ⟨g,n,_,by simp,h,hg,by simp,by unfold maxLen;omega,by simp,by simp⟩⟩,by simp,fun j u l hj hl=>?_,fun i j u x b hi hj _ hb=>?_,fun l hl=>?_⟩
 ·rw[List.getElem?_replicate] at hj hl
  split at hj
  ·next hjn=>
   rw[if_pos hjn] at hl
   cases hj;cases hl
   exact World.ownsRow_nil _ _ _ _
  ·cases hj
 ·rw[List.getElem?_replicate] at hi
  split at hi
  ·cases hi;cases hb
  ·cases hi
 ·rw[List.mem_replicate] at hl
  rw[hl.2];simp
theorem trim_any (W:Nat) (h1:1≤W) (h2:W≤64) (av:Value) (A:List (List Int)) (w:World) (ha:RdLists none w av A) (hs:A.length≤1000000) (hz:∀ l∈A,l.length≤1000000) :
  Calls Tryz.prog 51 #[.int .i64 W,av] w fun e w'=>∃ v,e=.returned v∧RdLists none w' v (A.map fun l=>l.map fun x=>x%2 ^ W)∧Below w.heap.size w w':=by
 obtain⟨aa,ac,rfl⟩:=ha.is
 obtain⟨i1,hj,hy0,hy1,hy2⟩:=info_parts infoNum
 obtain⟨T,hT⟩:∃ T,(A.map fun l=>l.map fun x=>x%2 ^ W)=T:=⟨_,rfl⟩
 have HTL:Hid (T.length=A.length):=by show _=_;rw[← hT];simp
 have HTA:Hid (∀ (i:Nat) (l:List Int),A[i]?=some l→T[i]?=some (l.map fun x=>x%2 ^ W)):=by
  intro i l hl
  rw[← hT,List.getElem?_map,hl];rfl
 rw[hT]
 have HT:=hid hT
 have HA:=hid ha
 have HZ:=hid hz
 have HMK:=hid (mask_is W h1 h2)
 have HAM:=hid (fun (v:Int) (hv:InU64 v)=>and_mask W h1 h2 v hv)
 have hmk:=makeLists A.length (by omega)
 clear hT ha hz
 go_enter Tryz.func51,Tryz.ntmps51
 go_upto_if 15 with fail
 go_cut [5] from 12 to 47 (fun c5 wx=>c5=.int .u64 (2 ^ W-1)∧w=wx)
 case first=>
  by_cases h64:W=64
  ·subst h64
   go_wp2_with fail
   go_meet
   exact⟨congrArg (Value.int .u64) (show (18446744073709551615:Int)=2 ^ 64-1 by decide),rfl⟩
  ·have h64':((W:Int)==64)=false:=by simp;omega
   try rw[h64']
   go_wp2_with fail
   go_meet
   exact⟨by rw[HMK.out],rfl⟩
 case rest=>
  obtain⟨rfl,rfl⟩:=hcut
  obtain⟨K,hK⟩:∃ K:Int,2 ^ W-1=K:=⟨_,rfl⟩
  rw[hK] at HAM ⊢
  clear hK HMK
  have HG0:=hid (heap_alloc_new w (.cells (Array.replicate A.length (Value.slice none 0 0)) 61))
  have HB0:=hid ((Below.refl w.heap.size w).alloc (Nat.le_refl _) (.cells (Array.replicate A.length (Value.slice none 0 0)) 61))
  obtain⟨g,hg⟩:∃ g,w.heap.size=g:=⟨_,rfl⟩
  have HO0:Hid (OwnL w.heap.size (w.alloc (.cells (Array.replicate A.length (Value.slice none 0 0)) 61)) (.slice (some ⟨g,0,none⟩) A.length A.length) (List.replicate A.length (.slice none 0 0)) (baseT T 0)):=by
   show OwnL _ _ _ _ _
   rw[baseT_none,HTL.out,← hg]
   exact OwnL.fresh A.length (by rw[List.toArray_replicate];exact HG0.out) (Nat.le_refl _) hs
  go_upto_region 5 with fail
  generalize w.alloc (.cells (Array.replicate A.length (Value.slice none 0 0)) 61)=w0 at *
  try rw[hg]
  have hal:A.length*24≤140737488351232:=HA.out.size
  clear HG0 hmk hg
  go_wp2_with fail
  go_loopw [7,21] (fun _ v wr=>∃ (i:Nat) (vs:List Value),i≤A.length∧v=.int .i64 i∧Hid (vs.length=A.length)∧OwnL w.heap.size wr (.slice (some ⟨g,0,none⟩) A.length A.length) vs (baseT T i)∧Below w.heap.size w wr) (fun _ v _=>A.length-(intOf v).toNat)
  case atStart=>exact⟨0,_,by omega,rfl,(by show _=_;simp),HO0.out,HB0.out⟩
  case round=>
   obtain⟨i,vs,hi,rfl,HVL,ho,hb⟩:=hrel
   clear HO0 HB0 w0
   obtain⟨w1,rfl⟩:∃ x:World,x=wr:=⟨_,rfl⟩
   have HO1:=hid ho
   have HB1:=hid hb
   clear ho hb
   by_cases hil:i<A.length
   ·have hil1:(i:Int)<A.length:=by omega
    obtain⟨l,hl⟩:∃ l,A[i]?=some l:=⟨_,lgAgV hil⟩
    have HTI:=hid (HTA.out i l hl)
    obtain⟨b1,o1,ra,rc,rfl,-,cA,hrow⟩:=(HA.out.keep HB1.out).at hl
    have hrowW:RdRow kNum none w (.slice ra l.length rc) l:=by
     obtain⟨b2,o2,ra2,rc2,e2,_,c2,r2⟩:=HA.out.at hl
     simp only[Option.some.injEq,Addr.mk.injEq,and_true] at e2
     obtain⟨rfl,rfl⟩:=e2
     have:=(cell_keep HB1.out c2).symm.trans cA
     cases this
     exact r2
    have HROW:=hid hrowW
    have hrl:l.length≤1000000:=HZ.out l (List.mem_of_getElem? hl)
    obtain⟨tl,htl⟩:∃ tl,(l.map fun x=>x%2 ^ W)=tl:=⟨_,rfl⟩
    rw[htl] at HTI
    have HTX:Hid (∀ (k:Nat) (x:Int),l[k]?=some x→tl[k]?=some (x%2 ^ W)):=by
     intro k x hx
     rw[← htl,List.getElem?_map,hx];rfl
    have HTLL:Hid (tl.length=l.length):=by show _=_;rw[← htl];simp
    have HTI2:Hid (i<T.length):=by show _<_;rw[HTL.out];exact hil
    clear hl hrow hrowW htl
    go_wp2_with fail
    clear cA
    go_loopw [9,29] (fun _ v wr=>∃ (k:Nat) (vs:List Value),k≤l.length∧v=.int .i64 k∧Hid (vs.length=A.length)∧OwnL w.heap.size wr (.slice (some ⟨g,0,none⟩) A.length A.length) vs ((baseT T i).set i (tl.take k))∧Below w.heap.size w wr) (fun _ v _=>l.length-(intOf v).toNat)
    case atStart=>exact⟨0,vs,by omega,rfl,HVL,(by rw[List.take_zero,baseT_self HTI2.out];exact HO1.out),HB1.out⟩
    case round=>
     obtain⟨k,vs2,hk,rfl,HVL2,ho,hb⟩:=hrel
     clear HO1 HB1 w1
     obtain⟨w1,rfl⟩:∃ x:World,x=wr:=⟨_,rfl⟩
     have HO1:=hid ho
     have HB1:=hid hb
     clear ho hb
     by_cases hkl:k<l.length
     ·have hkl1:(k:Int)<l.length:=by omega
      obtain⟨x,hx⟩:∃ x,l[k]?=some x:=⟨_,lgAgV hkl⟩
      have HTK:=hid (HTX.out k x hx)
      obtain⟨b2,o2,rfl,-,cx,hxi⟩:=atNum (HROW.out.keep HB1.out) hx
      have hand:=HAM.out x hxi
      obtain⟨y,hy⟩:∃ y,x%2 ^ W=y:=⟨_,rfl⟩
      rw[hy] at hand
      have HTY:Hid (tl[k]?=some y):=by show _=_;rw[← hy];exact HTK.out
      have HYI:Hid (InU64 y):=by
       show InU64 y
       rw[← hy]
       obtain⟨m1,m2,m3⟩:=mod_in W h2 x
       exact⟨m1,by omega⟩
      obtain⟨ck,hck⟩:∃ ck,tl.take k=ck:=⟨_,rfl⟩
      have HCK:=hid hck
      have HCL:Hid (ck.length=k):=by show _=_;rw[← hck,List.length_take];have:=HTLL.out;omega
      rw[hck] at HO1
      have hat:((baseT T i).set i ck)[i]?=some ck:=List.getElem?_set_self (by rw[baseT_len T (by have:=HTI2.out;omega)];exact HTI2.out)
      have HAT:=hid hat
      obtain⟨g',gc',u',e1,hu',hcu,hfu,hur,hgn',hgl',hug⟩:=HO1.out.at hat
      rw[HVL2.out] at e1
      simp only[Value.slice.injEq,Option.some.injEq,Addr.mk.injEq,and_true,true_and] at e1
      obtain⟨rfl,rfl⟩:=e1
      obtain⟨ub,uc',rfl,-⟩:=own_read hur
      have HUR:=hid hur
      have HUV:=hid hu'
      have hck1:ck.length≤1000000:=by have:=HCL.out;omega
      have HB1S:Hid (w.heap.size≤w1.heap.size):=HB1.out.size
      clear hx hy hat hxi hfu hck
      go_wp2_with (first|(at_builtin;refine wpList_append_own_at _ rfl (.tmp 38) (.tmp 42) 61 rfl w.heap.size 58 i1 (.int .u64 0) 1 8 Tryz.underlying61 hj hy0 hy1 hy2 rfl (by decide) _ _ _ rfl (hur.alloc _) ⟨w1.heap.size,0,none⟩ 1 1 [.int .u64 y] rfl rfl (many_new _ _ _) ?c2 ?c3 ?c4 ?c5 ?_)|simp only[hand])
      case c2=>intro u hu;simp at hu;subst hu;rfl
      case c3=>unfold maxLen;omega
      case c4=>omega
      case c5=>simp;have:=HB1S.out;omega
      ·intro v' w4 hown' hgrow _ hblk
       have hkk:∀ b,b<w1.heap.size→(Value.slice ub ck.length uc').ownBlock≠some b→w4.heap[b]?=w1.heap[b]?:=fun b hbl hne=>(hgrow.block b (by simp;omega) (fun e=>hne e.symm)).trans (((Below.refl w1.heap.size w1).alloc (Nat.le_refl _) _).block b hbl)
       have hown2:w4.ownsRow w.heap.size 58 1 v' (ck++[y]).length ((ck++[y]).flatMap cellsNum):=by
        rw[← kNum_app2,List.length_append];exact hown'
       have hokl:∀ z∈ck,InU64 z:=HO1.out.ok _ (List.mem_of_getElem? HAT.out)
       have HOc0:=(HVL2.out ▸ HO1.out:OwnL w.heap.size w1 (.slice (some ⟨g,0,none⟩) vs2.length A.length) vs2 ((baseT T i).set i ck))
       have hN:=HOc0.put (i:=i) HUV.out hkk hown2 (fun b hb=>by rcases hblk with e|e;exact .inl (e ▸ hb);right;rw[hb] at e;simp at e;omega) (fun z hz=>by rcases List.mem_append.1 hz with h|h;exact hokl z h;simp at h;subst h;exact HYI.out)
       have hN2:OwnL w.heap.size (w4.setCell ⟨g,i,none⟩ v') (.slice (some ⟨g,0,none⟩) A.length A.length) (vs2.set i v') ((baseT T i).set i (tl.take (k+1))):=by
        rw[List.set_set] at hN
        rw[List.take_add_one,HTY.out,HCK.out]
        rw[HVL2.out] at hN
        exact hN
       have HN:=hid hN2
       have HBN:Hid (Below w.heap.size w (w4.setCell ⟨g,i,none⟩ v')):=((HB1.out.alloc HB1S.out (.cells #[.int .u64 y] 58)).grown hgrow (by simp;have:=HB1S.out;omega) (own_row_le hur)).setCell hgn' _
       have HVL3:Hid ((vs2.set i v').length=A.length):=by show _=_;rw[List.length_set];exact HVL2.out
       have hcur:∃ cur,w4.heap[g]?=some (.cells cur 61 (0,0)):=by
        obtain⟨cs,hr⟩:=own_row HO1.out.own (b:=g) rfl;exact⟨cs,(hkk g hgl' hug).trans hr⟩
       obtain⟨cur,hcur⟩:=hcur
       have hf4:=frozen_of_row w4 g i _ _ hcur
       have hc4:w4.cell? ⟨g,i,none⟩=some (.slice ub ck.length uc'):=by rw[World.cell?_of_block (hkk g hgl' hug)];exact hcu
       obtain⟨ub2,uc2,rfl,-⟩:=own_read hown'
       clear hown' hgrow hN hN2 hown2 hkk hblk hcur HOc0 hur hcu cx
       go_wp2_with fail
       go_roundw
       case rel=>exact⟨k+1,_,by omega,by go_num,HVL3,HN.out,HBN.out⟩
       case measure=>simp[intOf];omega
     ·obtain rfl:k=l.length:=by omega
      have hkl1:¬ (l.length:Int)<l.length:=by omega
      have HO2:Hid (OwnL w.heap.size w1 (.slice (some ⟨g,0,none⟩) A.length A.length) vs2 (baseT T (i+1))):=by
       show OwnL _ _ _ _ _
       have h9:=HO1.out
       rw[List.take_of_length_le (by rw[HTLL.out];exact Nat.le_refl _),baseT_step HTI.out] at h9
       exact h9
      go_wp2_with fail
      go_roundw
      case rel=>exact⟨i+1,vs2,by omega,by go_num,HVL2,HO2.out,HB1.out⟩
      case measure=>simp[intOf];omega
   ·obtain rfl:i=A.length:=by omega
    have hil1:¬ (A.length:Int)<A.length:=by omega
    have HF:Hid (RdLists none w1 (.slice (some ⟨g,0,none⟩) A.length A.length) T):=by
     show RdLists _ _ _ _
     have h9:=HO1.out
     rw[show baseT T A.length=T by rw[← HTL.out];exact baseT_end T] at h9
     refine (h9.rd (by rw[HTL.out];exact hs) fun l hl=>?_).forget
     rw[← HT.out] at hl
     obtain⟨l0,h0,rfl⟩:=List.mem_map.1 hl
     rw[List.length_map];exact HZ.out l0 h0
    go_wp2_with fail
    go_ret
    exact⟨_,rfl,HF.out,HB1.out⟩
def RunOpen (t:TraceD) (er:Int) (w:World) (e:Ending) (w':World):Prop:=
 ∃ a1 a2 a3 a4 a5 a6 a7 a8,e=.returned (.tuple #[.agg #[.int .u8 t.status,.int .i64 t.steps,.slice a1 t.outs.length a2,.slice a3 t.rels.length a4,.slice a5 t.brs.length a6,.slice a7 t.reads.length a8],.int .i64 er])∧RdTrace (some (upFrom w.heap.size)) w' t (.slice a1 t.outs.length a2) (.slice a3 t.rels.length a4) (.slice a5 t.brs.length a6) (.slice a7 t.reads.length a8)∧Below w.heap.size w w'
theorem runOpen {t:TraceD} {er:Int} {w w':World} {e:Ending} (h:RunSaid t er w e w'):RunOpen t er w e w':=by
 obtain⟨v1,v2,v3,v4,rfl,hr,hb⟩:=h
 obtain⟨a1,a2,rfl⟩:=hr.1.is;obtain⟨a3,a4,rfl⟩:=hr.2.1.is;obtain⟨a5,a6,rfl⟩:=hr.2.2.1.is;obtain⟨a7,a8,rfl⟩:=hr.2.2.2.1.is
 exact⟨a1,a2,a3,a4,a5,a6,a7,a8,rfl,hr,hb⟩
theorem RdTrace.turn {n b:Nat} {w:World} {t:TraceD} {ov rv bv dv:Value} {cs':Array Value} (h:RdTrace (some (upFrom n)) w t ov rv bv dv) (hb:b<n) {m:Nat} (hm:m≤n):RdTrace (some (upFrom m)) (w.setRow b cs') t ov rv bv dv:=by
 have k:∀ b',upFrom n b'→b'<w.heap.size→(w.setRow b cs').heap[b']?=w.heap[b']?:=fun b' hg _=>setRow_other _ _ _ _ (by have:n≤b':=hg;omega)
 have g:∀ b',b'<w.heap.size→upFrom n b'→upFrom m b':=fun b' _ hg=>Nat.le_trans hm hg
 exact⟨h.1.same k g,h.2.1.same k g,h.2.2.1.same k g,h.2.2.2.1.same k g,h.2.2.2.2⟩
theorem side_run (p:Nat) (f:FlatD) (fca:Option Addr) (fcc:Nat) (fsa:Option Addr) (fsc:Nat) (faa:Option Addr) (fac:Nat) (fka:Option Addr) (fkc:Nat) (q:PolD) (la:Option Addr) (lc:Nat) (oa:Option Addr) (oc:Nat) (ca:Option Addr) (cc:Nat) (sa:Option Addr) (sc:Nat) (cla:Option Addr) (cln clc:Nat) (sla:Option Addr) (sln slc:Nat) (av:Value) (A:List (List Int)) (w:World) (hF:RdFlat none w f (.slice fca f.chans.length fcc) (.slice fsa f.sites.length fsc) (.slice faa f.arrays.length fac) (.slice fka f.code.length fkc)) (hst:InI64 q.steps) (hI:RdLists none w av A) (hL:Laid w) (hn:A.length≤1000000) :
  Calls Tryz.prog 29 #[.agg #[.pointer (some ⟨p,0,none⟩),.int .i64 f.width,.int .i64 f.regs,.slice fca f.chans.length fcc,.slice fsa f.sites.length fsc,.slice faa f.arrays.length fac,.slice fka f.code.length fkc,.slice la q.levels.length lc,.slice oa q.order.length oc,.slice ca q.chans.length cc,.slice sa q.sites.length sc,.bool q.sens,.int .i64 q.steps,.int .i64 q.paths,.int .i64 q.nodes,.int .i64 q.confs,.slice cla cln clc,.slice sla sln slc],av] w (RunOpen (runT f A q.steps) (errRun f A.length q.steps) w):=by
 obtain⟨aa,ac,rfl⟩:=hI.is
 have hal:=((Below.refl w.heap.size w).alloc (Nat.le_refl _) (.cells #[.pointer (some ⟨p,0,none⟩),.int .i64 f.width,.int .i64 f.regs,.slice fca f.chans.length fcc,.slice fsa f.sites.length fsc,.slice faa f.arrays.length fac,.slice fka f.code.length fkc,.slice la q.levels.length lc,.slice oa q.order.length oc,.slice ca q.chans.length cc,.slice sa q.sites.length sc,.bool q.sens,.int .i64 q.steps,.int .i64 q.paths,.int .i64 q.nodes,.int .i64 q.confs,.slice cla cln clc,.slice sla sln slc] 64)).alloc (by simp) (.cells #[.int .u8 0,.int .i64 0,.slice none 0 0,.slice none 0 0,.slice none 0 0,.slice none 0 0] 52)
 have hx:=heap2_of (w:=w) (A:=.cells #[.pointer (some ⟨p,0,none⟩),.int .i64 f.width,.int .i64 f.regs,.slice fca f.chans.length fcc,.slice fsa f.sites.length fsc,.slice faa f.arrays.length fac,.slice fka f.code.length fkc,.slice la q.levels.length lc,.slice oa q.order.length oc,.slice ca q.chans.length cc,.slice sa q.sites.length sc,.bool q.sens,.int .i64 q.steps,.int .i64 q.paths,.int .i64 q.nodes,.int .i64 q.confs,.slice cla cln clc,.slice sla sln slc] 64) (B:=.cells #[.int .u8 0,.int .i64 0,.slice none 0 0,.slice none 0 0,.slice none 0 0,.slice none 0 0] 52) (Below.refl _ _)
 have HB0:=hid hal
 have HG0:=hid hx.1
 have HG1:=hid hx.2.1
 clear hal hx
 have hr:=fun (w':World) (k:Below w.heap.size w w')=>(machRun f _ _ _ _ _ A q.steps w' (hF.keep k) (hI.keep k) (hL.keep k) hst hn).mono fun _ _ h=>runOpen h
 obtain⟨er,her⟩:∃ er,errRun f A.length q.steps=er:=⟨_,rfl⟩
 obtain⟨t,ht⟩:∃ t,runT f A q.steps=t:=⟨_,rfl⟩
 rw[her,ht] at hr
 rw[her,ht]
 have HR:=hid hr
 clear hr her ht hF hI hL
 go_enter Tryz.func29,Tryz.ntmps29
 go_upto_region 1 with fail
 generalize (w.alloc (.cells #[.pointer (some ⟨p,0,none⟩),.int .i64 f.width,.int .i64 f.regs,.slice fca f.chans.length fcc,.slice fsa f.sites.length fsc,.slice faa f.arrays.length fac,.slice fka f.code.length fkc,.slice la q.levels.length lc,.slice oa q.order.length oc,.slice ca q.chans.length cc,.slice sa q.sites.length sc,.bool q.sens,.int .i64 q.steps,.int .i64 q.paths,.int .i64 q.nodes,.int .i64 q.confs,.slice cla cln clc,.slice sla sln slc] 64)).alloc (.cells #[.int .u8 0,.int .i64 0,.slice none 0 0,.slice none 0 0,.slice none 0 0,.slice none 0 0] 52)=W at *
 have hsz:w.heap.size+1<W.heap.size:=(gsAgV HG1.out)
 have hRW:=HR.out W HB0.out
 have HRW:=hid hRW
 clear HR hRW
 have s0:=row_of HG0.out 0 (.pointer (some ⟨p,0,none⟩)) rfl
 have s1:=row_of HG0.out 1 (.int .i64 f.width) rfl
 have s2:=row_of HG0.out 2 (.int .i64 f.regs) rfl
 have s3:=row_of HG0.out 3 (.slice fca f.chans.length fcc) rfl
 have s4:=row_of HG0.out 4 (.slice fsa f.sites.length fsc) rfl
 have s5:=row_of HG0.out 5 (.slice faa f.arrays.length fac) rfl
 have s6:=row_of HG0.out 6 (.slice fka f.code.length fkc) rfl
 have s7:=row_of HG0.out 7 (.slice la q.levels.length lc) rfl
 have s8:=row_of HG0.out 8 (.slice oa q.order.length oc) rfl
 have s9:=row_of HG0.out 9 (.slice ca q.chans.length cc) rfl
 have s10:=row_of HG0.out 10 (.slice sa q.sites.length sc) rfl
 have s11:=row_of HG0.out 11 (.bool q.sens) rfl
 have s12:=row_of HG0.out 12 (.int .i64 q.steps) rfl
 have s13:=row_of HG0.out 13 (.int .i64 q.paths) rfl
 have s14:=row_of HG0.out 14 (.int .i64 q.nodes) rfl
 have s15:=row_of HG0.out 15 (.int .i64 q.confs) rfl
 have s16:=row_of HG0.out 16 (.slice cla cln clc) rfl
 have s17:=row_of HG0.out 17 (.slice sla sln slc) rfl
 go_wp2_with (first|(go_at_call 49;refine HRW.out.mono ?_;rintro e z1 ⟨a1,a2,a3,a4,a5,a6,a7,a8,rfl,hrt,hz⟩;have HRT:=hid hrt;have B1:=hid hz;have HG2:Hid (z1.heap[w.heap.size+1]?=some (.cells #[.int .u8 0,.int .i64 0,.slice none 0 0,.slice none 0 0,.slice none 0 0,.slice none 0 0] 52 (0,0))):=(B1.out.block _ hsz).trans HG1.out;clear hz hrt s0 s1 s2 s3 s4 s5 s6 s7 s8 s9 s10 s11 s12 s13 s14 s15 s16 s17)|(refine wpList_store_row rfl 52 (.tmp 4) (.tmp 13) rfl (w.heap.size+1) #[.int .u8 t.status,.int .i64 t.steps,.slice a1 t.outs.length a2,.slice a3 t.rels.length a4,.slice a5 t.brs.length a6,.slice a7 t.reads.length a8] rfl rfl 52 #[.int .u8 0,.int .i64 0,.slice none 0 0,.slice none 0 0,.slice none 0 0,.slice none 0 0] ?hs1 (by as_aux_lemma=>kernel_rfl) (by as_aux_lemma=>kernel_rfl) (by as_aux_lemma=>kernel_rfl) ?_;exact HG2.out))
 refine bodyPost_ret (v:=.tuple #[.agg #[.int .u8 t.status,.int .i64 t.steps,.slice a1 t.outs.length a2,.slice a3 t.rels.length a4,.slice a5 t.brs.length a6,.slice a7 t.reads.length a8],.int .i64 er]) ?_ rfl ⟨a1,a2,a3,a4,a5,a6,a7,a8,rfl,HRT.out.turn hsz (by omega),below_row (bcomp HB0.out B1.out) (by omega) _⟩
 exact results_cell_two (P:=Tryz.prog) (fn:=Tryz.f29) rfl _ _ (w.heap.size+1) 52 #[.int .u8 t.status,.int .i64 t.steps,.slice a1 t.outs.length a2,.slice a3 t.rels.length a4,.slice a5 t.brs.length a6,.slice a7 t.reads.length a8] (0,0) _ rfl (setRow_heap _ _ _ _ _ _ HG2.out) Tryz.underlying52 rfl (by as_aux_lemma=>kernel_rfl)
theorem side_leaks (p:Nat) (f:FlatD) (fca:Option Addr) (fcc:Nat) (fsa:Option Addr) (fsc:Nat) (faa:Option Addr) (fac:Nat) (fka:Option Addr) (fkc:Nat) (q:PolD) (la:Option Addr) (lc:Nat) (oa:Option Addr) (oc:Nat) (ca:Option Addr) (cc:Nat) (sa:Option Addr) (sc:Nat) (cla:Option Addr) (clc:Nat) (sla:Option Addr) (slc:Nat) (level:Int) (av bv:Value) (A B:List (List Int)) (x y:TraceD) (xa1:Option Addr) (xa2:Nat) (xa3:Option Addr) (xa4:Nat) (xa5:Option Addr) (xa6:Nat) (xa7:Option Addr) (xa8:Nat) (ya1:Option Addr) (ya2:Nat) (ya3:Option Addr) (ya4:Nat) (ya5:Option Addr) (ya6:Nat) (ya7:Option Addr) (ya8:Nat) (w:World)
  (hSP:SideP f q) (h0:0≤level) (h1:level<q.levels.length) (hA:A.length≤f.chans.length) (hB:B.length≤f.chans.length) (hzA:∀ l∈A,l.length≤1000000) (hzB:∀ l∈B,l.length≤1000000)
  (hLat:LatAt w (.pointer (some ⟨p,0,none⟩)) (sideLat q)) (hc:RdRow kInt none w (.slice cla f.chans.length clc) (chansL f q)) (hs:RdRow kInt none w (.slice sla f.sites.length slc) (sitesL f q)) (ha:RdLists none w av A) (hb:RdLists none w bv B) (hx:RdTrace none w x (.slice xa1 x.outs.length xa2) (.slice xa3 x.rels.length xa4) (.slice xa5 x.brs.length xa6) (.slice xa7 x.reads.length xa8)) (hy:RdTrace none w y (.slice ya1 y.outs.length ya2) (.slice ya3 y.rels.length ya4) (.slice ya5 y.brs.length ya6) (.slice ya7 y.reads.length ya8)) :
  Calls Tryz.prog 30 #[.agg #[.pointer (some ⟨p,0,none⟩),.int .i64 f.width,.int .i64 f.regs,.slice fca f.chans.length fcc,.slice fsa f.sites.length fsc,.slice faa f.arrays.length fac,.slice fka f.code.length fkc,.slice la q.levels.length lc,.slice oa q.order.length oc,.slice ca q.chans.length cc,.slice sa q.sites.length sc,.bool q.sens,.int .i64 q.steps,.int .i64 q.paths,.int .i64 q.nodes,.int .i64 q.confs,.slice cla f.chans.length clc,.slice sla f.sites.length slc],.int .i64 level,av,bv,.agg #[.int .u8 x.status,.int .i64 x.steps,.slice xa1 x.outs.length xa2,.slice xa3 x.rels.length xa4,.slice xa5 x.brs.length xa6,.slice xa7 x.reads.length xa8],.agg #[.int .u8 y.status,.int .i64 y.steps,.slice ya1 y.outs.length ya2,.slice ya3 y.rels.length ya4,.slice ya5 y.brs.length ya6,.slice ya7 y.reads.length ya8]] w fun e w'=>e=.returned (.bool (leaks1 f q level A B x y))∧Below w.heap.size w w':=by
 obtain⟨aa,ac,rfl⟩:=ha.is
 obtain⟨ba,bc,rfl⟩:=hb.is
 have hh:=headP hSP.ok
 have hch:=hh.chans
 have hsi:=hh.sites
 have hl2:=hSP.lv2
 have hkc:=known_side (ls:=chansL f q) h0 h1 hSP.ci
 have hks:=known_side (ls:=sitesL f q) h0 h1 hSP.si
 obtain⟨WD,hWD⟩:∃ n:Nat,f.width=n:=⟨f.width.toNat,by have:=hh.w1;omega⟩
 have hw1:1≤WD:=by have:=hh.w1;omega
 have hw2:WD≤64:=by have:=hh.w2;omega
 have hlvI:InI64 level:=⟨by omega,by omega⟩
 have hcl:=hSP.cl
 have hsl:=hSP.sl
 have HTA:=hid (fun (w':World) (k:Below w.heap.size w w')=>trim_any WD hw1 hw2 _ A w' (ha.keep k) (by omega) hzA)
 have HTB:=hid (fun (w':World) (k:Below w.heap.size w w')=>trim_any WD hw1 hw2 _ B w' (hb.keep k) (by omega) hzB)
 obtain⟨TA,hTA⟩:∃ T,trimL f A=T:=⟨_,rfl⟩
 obtain⟨TB,hTB⟩:∃ T,trimL f B=T:=⟨_,rfl⟩
 have hTA2:(A.map fun l=>l.map fun x=>x%2 ^ WD)=TA:=by rw[← hTA,trimL,hWD,Int.toNat_natCast]
 have hTB2:(B.map fun l=>l.map fun x=>x%2 ^ WD)=TB:=by rw[← hTB,trimL,hWD,Int.toNat_natCast]
 rw[hTA2] at HTA
 rw[hTB2] at HTB
 have hTAl:TA.length=A.length:=by rw[← hTA2];simp
 have hTBl:TB.length=B.length:=by rw[← hTB2];simp
 have hie:inpErr (sideLat q) level (chansL f q) TA TB=0:=by rw[inpErr,if_neg];rw[hkc];simp;omega
 have HIN:=hid (fun (w':World) (va vb:Value) (k:Below w.heap.size w w') (r1:RdLists none w' va TA) (r2:RdLists none w' vb TB)=>inputs_any (sideLat q) _ _ va vb level (chansL f q) TA TB w' (hLat.keep k) hlvI (hc.keep k) (by omega) r1 r2)
 obtain⟨I,hI⟩:∃ I,inpSame (sideLat q) level (chansL f q) TA TB=I:=⟨_,rfl⟩
 rw[hie,hI,show ((0:Int)==0&&I)=I from rfl] at HIN
 have HPR:=hid (fun (w':World) (k:Below w.heap.size w w')=>premise_any (sideLat q) _ _ level (sitesL f q) q.sens x y _ _ _ _ _ _ _ _ w' (hLat.keep k) hlvI (hs.keep k) (by omega) (hx.keep k) (hy.keep k))
 have HSA:=hid (fun (w':World) (k:Below w.heap.size w w')=>same_any (sideLat q) _ _ level (chansL f q) q.sens x y _ _ _ _ _ _ _ _ w' (hLat.keep k) hlvI (hc.keep k) (by omega) (hx.keep k) (hy.keep k))
 obtain⟨Pb,hPb⟩:∃ b,premB (sideLat q) level (sitesL f q) q.sens x y=b:=⟨_,rfl⟩
 obtain⟨Sb,hSb⟩:∃ b,sameB (sideLat q) level (chansL f q) q.sens x y=b:=⟨_,rfl⟩
 rw[hPb] at HPR
 rw[hSb] at HSA
 obtain⟨V,hV⟩:∃ V,leaks1 f q level A B x y=V:=⟨_,rfl⟩
 have HV:Hid (V=(I&&Pb&&!Sb)):=by show V=_;rw[← hV,leaks1,hTA,hTB,hI,hPb,hSb]
 rw[hV]
 obtain⟨e1,hE1⟩:∃ e,viewsErr (sideLat q) level (sitesL f q) x.rels y.rels=e:=⟨_,rfl⟩
 obtain⟨e2,hE2⟩:∃ e,viewsErr (sideLat q) level (chansL f q) x.outs y.outs=e:=⟨_,rfl⟩
 rw[hE1] at HPR
 rw[hE2] at HSA
 have hal:=(((Below.refl w.heap.size w).alloc (Nat.le_refl _) (.cells #[.pointer (some ⟨p,0,none⟩),.int .i64 f.width,.int .i64 f.regs,.slice fca f.chans.length fcc,.slice fsa f.sites.length fsc,.slice faa f.arrays.length fac,.slice fka f.code.length fkc,.slice la q.levels.length lc,.slice oa q.order.length oc,.slice ca q.chans.length cc,.slice sa q.sites.length sc,.bool q.sens,.int .i64 q.steps,.int .i64 q.paths,.int .i64 q.nodes,.int .i64 q.confs,.slice cla f.chans.length clc,.slice sla f.sites.length slc] 64)).alloc (by simp) (.cells #[.int .u8 x.status,.int .i64 x.steps,.slice xa1 x.outs.length xa2,.slice xa3 x.rels.length xa4,.slice xa5 x.brs.length xa6,.slice xa7 x.reads.length xa8] 52)).alloc (by simp;omega) (.cells #[.int .u8 y.status,.int .i64 y.steps,.slice ya1 y.outs.length ya2,.slice ya3 y.rels.length ya4,.slice ya5 y.brs.length ya6,.slice ya7 y.reads.length ya8] 52)
 have hq:=heap2_of (w:=w) (A:=.cells #[.pointer (some ⟨p,0,none⟩),.int .i64 f.width,.int .i64 f.regs,.slice fca f.chans.length fcc,.slice fsa f.sites.length fsc,.slice faa f.arrays.length fac,.slice fka f.code.length fkc,.slice la q.levels.length lc,.slice oa q.order.length oc,.slice ca q.chans.length cc,.slice sa q.sites.length sc,.bool q.sens,.int .i64 q.steps,.int .i64 q.paths,.int .i64 q.nodes,.int .i64 q.confs,.slice cla f.chans.length clc,.slice sla f.sites.length slc] 64) (B:=.cells #[.int .u8 x.status,.int .i64 x.steps,.slice xa1 x.outs.length xa2,.slice xa3 x.rels.length xa4,.slice xa5 x.brs.length xa6,.slice xa7 x.reads.length xa8] 52) (wr:=((w.alloc (.cells #[.pointer (some ⟨p,0,none⟩),.int .i64 f.width,.int .i64 f.regs,.slice fca f.chans.length fcc,.slice fsa f.sites.length fsc,.slice faa f.arrays.length fac,.slice fka f.code.length fkc,.slice la q.levels.length lc,.slice oa q.order.length oc,.slice ca q.chans.length cc,.slice sa q.sites.length sc,.bool q.sens,.int .i64 q.steps,.int .i64 q.paths,.int .i64 q.nodes,.int .i64 q.confs,.slice cla f.chans.length clc,.slice sla f.sites.length slc] 64)).alloc (.cells #[.int .u8 x.status,.int .i64 x.steps,.slice xa1 x.outs.length xa2,.slice xa3 x.rels.length xa4,.slice xa5 x.brs.length xa6,.slice xa7 x.reads.length xa8] 52)).alloc (.cells #[.int .u8 y.status,.int .i64 y.steps,.slice ya1 y.outs.length ya2,.slice ya3 y.rels.length ya4,.slice ya5 y.brs.length ya6,.slice ya7 y.reads.length ya8] 52)) ((Below.refl _ _).alloc (Nat.le_refl _) _)
 have HB0:=hid hal
 have HG0:=hid hq.1
 have HG1:=hid hq.2.1
 have HG2:Hid ((((w.alloc (.cells #[.pointer (some ⟨p,0,none⟩),.int .i64 f.width,.int .i64 f.regs,.slice fca f.chans.length fcc,.slice fsa f.sites.length fsc,.slice faa f.arrays.length fac,.slice fka f.code.length fkc,.slice la q.levels.length lc,.slice oa q.order.length oc,.slice ca q.chans.length cc,.slice sa q.sites.length sc,.bool q.sens,.int .i64 q.steps,.int .i64 q.paths,.int .i64 q.nodes,.int .i64 q.confs,.slice cla f.chans.length clc,.slice sla f.sites.length slc] 64)).alloc (.cells #[.int .u8 x.status,.int .i64 x.steps,.slice xa1 x.outs.length xa2,.slice xa3 x.rels.length xa4,.slice xa5 x.brs.length xa6,.slice xa7 x.reads.length xa8] 52)).alloc (.cells #[.int .u8 y.status,.int .i64 y.steps,.slice ya1 y.outs.length ya2,.slice ya3 y.rels.length ya4,.slice ya5 y.brs.length ya6,.slice ya7 y.reads.length ya8] 52)).heap[w.heap.size+1+1]?=some (.cells #[.int .u8 y.status,.int .i64 y.steps,.slice ya1 y.outs.length ya2,.slice ya3 y.rels.length ya4,.slice ya5 y.brs.length ya6,.slice ya7 y.reads.length ya8] 52 (0,0))):=by
  show _=_
  have:=heap_alloc_new ((w.alloc (.cells #[.pointer (some ⟨p,0,none⟩),.int .i64 f.width,.int .i64 f.regs,.slice fca f.chans.length fcc,.slice fsa f.sites.length fsc,.slice faa f.arrays.length fac,.slice fka f.code.length fkc,.slice la q.levels.length lc,.slice oa q.order.length oc,.slice ca q.chans.length cc,.slice sa q.sites.length sc,.bool q.sens,.int .i64 q.steps,.int .i64 q.paths,.int .i64 q.nodes,.int .i64 q.confs,.slice cla f.chans.length clc,.slice sla f.sites.length slc] 64)).alloc (.cells #[.int .u8 x.status,.int .i64 x.steps,.slice xa1 x.outs.length xa2,.slice xa3 x.rels.length xa4,.slice xa5 x.brs.length xa6,.slice xa7 x.reads.length xa8] 52)) (.cells #[.int .u8 y.status,.int .i64 y.steps,.slice ya1 y.outs.length ya2,.slice ya3 y.rels.length ya4,.slice ya5 y.brs.length ya6,.slice ya7 y.reads.length ya8] 52)
  simpa using this
 have HWD:=hid hWD
 clear hWD hal hq hSP hA hB hzA hzB hLat hc hs ha hb hx hy hh hkc hks hTA hTB hTA2 hTB2 hTAl hTBl hie hI hPb hSb hV hE1 hE2 hcl hsl hlvI
 go_enter Tryz.func30,Tryz.ntmps30
 go_upto_region 1 with fail
 generalize ((w.alloc (.cells #[.pointer (some ⟨p,0,none⟩),.int .i64 f.width,.int .i64 f.regs,.slice fca f.chans.length fcc,.slice fsa f.sites.length fsc,.slice faa f.arrays.length fac,.slice fka f.code.length fkc,.slice la q.levels.length lc,.slice oa q.order.length oc,.slice ca q.chans.length cc,.slice sa q.sites.length sc,.bool q.sens,.int .i64 q.steps,.int .i64 q.paths,.int .i64 q.nodes,.int .i64 q.confs,.slice cla f.chans.length clc,.slice sla f.sites.length slc] 64)).alloc (.cells #[.int .u8 x.status,.int .i64 x.steps,.slice xa1 x.outs.length xa2,.slice xa3 x.rels.length xa4,.slice xa5 x.brs.length xa6,.slice xa7 x.reads.length xa8] 52)).alloc (.cells #[.int .u8 y.status,.int .i64 y.steps,.slice ya1 y.outs.length ya2,.slice ya3 y.rels.length ya4,.slice ya5 y.brs.length ya6,.slice ya7 y.reads.length ya8] 52)=W at *
 have hsz:w.heap.size+1+1<W.heap.size:=(gsAgV HG2.out)
 go_cut [13,14] from 19 to 37 (fun c13 _ wx=>c13=.bool I∧Below W.heap.size W wx)
 case first=>
  have l0:=ext_cell (row_of HG0.out 0 (.pointer (some ⟨p,0,none⟩)) rfl)
  have l1:=ext_cell (row_of HG0.out 1 (.int .i64 f.width) rfl)
  have l2:=ext_cell (row_of HG0.out 16 (.slice cla f.chans.length clc) rfl)
  rw[HWD.out] at l1
  refine wp_region_mix (.one [0,1,2,3,4,5,6,7,8,10,11,12,13] 9 (.one [] 14 (.one [] 15 (.fin [16,17,18,19,20])))) (fun j=>decide (99≤j)) (by kernel_rfl) (by kernel_rfl) rfl (by kernel_rfl) (fun _ d _ _ _ h=>by cases d <;> exact h) ?_
  have HBd:Hid (Below W.heap.size W W.drew):=(Below.refl _ _).drew
  generalize W.drew=w0 at *
  refine mix_one (by simp only[opsOf,List.filterMap_cons,List.filterMap_nil,List.getElem?_toArray,List.getElem?_cons_succ,List.getElem?_cons_zero];rfl) ⟨_,ext_of HBd.out⟩ ?_
  change wpQuiet _ _ _ _ [_,_,_,_,_,_,_,_,_,_,_,_,_] _
  (repeat (go_big_quiet_step (fail)))
  refine wpQuiet_nil ?_
  clear l0 l1 l2
  ·refine mix_step rfl ?_
   go_wp2_with (go_at_call 51;refine (HTA.out _ (bcomp HB0.out HBd.out)).mono ?_;rintro e z1 ⟨va,rfl,hr,hz⟩;have HRA:=hid hr;have B1:=hid (bcomp HBd.out hz);clear hr hz)
   refine⟨by first|exact⟨_,ext_of B1.out⟩|exact fun _=>⟨_,ext_of B1.out⟩,?_⟩
   refine mix_now ?_
   refine mix_step rfl ?_
   go_wp2_with (go_at_call 51;refine (HTB.out _ (bcomp HB0.out B1.out)).mono ?_;rintro e z2 ⟨vb,rfl,hr,hz⟩;have HRB:=hid hr;have HRA2:=hid (HRA.out.keep hz);have B2:=hid (bcomp B1.out hz);clear hr hz)
   refine⟨by first|exact⟨_,ext_of B2.out⟩|exact fun _=>⟨_,ext_of B2.out⟩,?_⟩
   refine mix_now ?_
   refine mix_step rfl ?_
   go_wp2_with (go_at_call 50;refine (HIN.out _ _ _ (bcomp HB0.out B2.out) HRA2.out HRB.out).mono ?_;rintro e z3 ⟨rfl,hz⟩;have B3:=hid (bcomp B2.out hz);clear hz)
   refine⟨by first|exact⟨_,ext_of B3.out⟩|exact fun _=>⟨_,ext_of B3.out⟩,?_⟩
   refine mix_fin (by simp only[opsOf,List.filterMap_cons,List.filterMap_nil,List.getElem?_toArray,List.getElem?_cons_succ,List.getElem?_cons_zero];rfl) ⟨_,ext_of B3.out⟩ ?_
   change wpQuiet _ _ _ _ [_,_,_,_,_] _
   (repeat (go_big_quiet_step (fail)))
   refine wpQuiet_nil ?_
   go_wp2_with fail
   go_meet
   exact⟨rfl,B3.out⟩
 case rest=>
  obtain⟨rfl,hbc⟩:=hcut
  generalize wc=W2 at *
  have B3:=hid hbc
  clear hbc
  have HG3:=hid ((B3.out.block _ (show w.heap.size<W.heap.size by omega)).trans HG0.out)
  have HG4:=hid ((B3.out.block _ (show w.heap.size+1<W.heap.size by omega)).trans HG1.out)
  have HG5:=hid ((B3.out.block _ hsz).trans HG2.out)
  have HB3:=hid (bcomp HB0.out B3.out)
  have hsz2:w.heap.size+1+1<W2.heap.size:=(gsAgV HG5.out)
  clear HG0 HG1 HG2 HTA HTB HIN
  have s0:=row_of HG3.out 0 (.pointer (some ⟨p,0,none⟩)) rfl
  have s1:=row_of HG3.out 1 (.int .i64 f.width) rfl
  have s2:=row_of HG3.out 2 (.int .i64 f.regs) rfl
  have s3:=row_of HG3.out 3 (.slice fca f.chans.length fcc) rfl
  have s4:=row_of HG3.out 4 (.slice fsa f.sites.length fsc) rfl
  have s5:=row_of HG3.out 5 (.slice faa f.arrays.length fac) rfl
  have s6:=row_of HG3.out 6 (.slice fka f.code.length fkc) rfl
  have s7:=row_of HG3.out 7 (.slice la q.levels.length lc) rfl
  have s8:=row_of HG3.out 8 (.slice oa q.order.length oc) rfl
  have s9:=row_of HG3.out 9 (.slice ca q.chans.length cc) rfl
  have s10:=row_of HG3.out 10 (.slice sa q.sites.length sc) rfl
  have s11:=row_of HG3.out 11 (.bool q.sens) rfl
  have s12:=row_of HG3.out 12 (.int .i64 q.steps) rfl
  have s13:=row_of HG3.out 13 (.int .i64 q.paths) rfl
  have s14:=row_of HG3.out 14 (.int .i64 q.nodes) rfl
  have s15:=row_of HG3.out 15 (.int .i64 q.confs) rfl
  have s16:=row_of HG3.out 16 (.slice cla f.chans.length clc) rfl
  have s17:=row_of HG3.out 17 (.slice sla f.sites.length slc) rfl
  have x0:=row_of HG4.out 0 (.int .u8 x.status) rfl
  have x1:=row_of HG4.out 1 (.int .i64 x.steps) rfl
  have x2:=row_of HG4.out 2 (.slice xa1 x.outs.length xa2) rfl
  have x3:=row_of HG4.out 3 (.slice xa3 x.rels.length xa4) rfl
  have x4:=row_of HG4.out 4 (.slice xa5 x.brs.length xa6) rfl
  have x5:=row_of HG4.out 5 (.slice xa7 x.reads.length xa8) rfl
  have y0:=row_of HG5.out 0 (.int .u8 y.status) rfl
  have y1:=row_of HG5.out 1 (.int .i64 y.steps) rfl
  have y2:=row_of HG5.out 2 (.slice ya1 y.outs.length ya2) rfl
  have y3:=row_of HG5.out 3 (.slice ya3 y.rels.length ya4) rfl
  have y4:=row_of HG5.out 4 (.slice ya5 y.brs.length ya6) rfl
  have y5:=row_of HG5.out 5 (.slice ya7 y.reads.length ya8) rfl
  go_upto_region 3 with (go_at_call 52;refine (HPR.out _ HB3.out).mono ?_;rintro e z4 ⟨rfl,hz⟩;have B4:=hid hz;clear hz)
  clear s0 s1 s2 s3 s4 s5 s6 s7 s8 s9 s10 s11 s12 s13 s14 s15 s16 s17 x0 x1 x2 x3 x4 x5 y0 y1 y2 y3 y4 y5 HPR
  have HG6:=hid ((B4.out.block _ (show w.heap.size<W2.heap.size by omega)).trans HG3.out)
  have HG7:=hid ((B4.out.block _ (show w.heap.size+1<W2.heap.size by omega)).trans HG4.out)
  have HG8:=hid ((B4.out.block _ hsz2).trans HG5.out)
  have HB4:=hid (bcomp HB3.out B4.out)
  have s0:=row_of HG6.out 0 (.pointer (some ⟨p,0,none⟩)) rfl
  have s1:=row_of HG6.out 1 (.int .i64 f.width) rfl
  have s2:=row_of HG6.out 2 (.int .i64 f.regs) rfl
  have s3:=row_of HG6.out 3 (.slice fca f.chans.length fcc) rfl
  have s4:=row_of HG6.out 4 (.slice fsa f.sites.length fsc) rfl
  have s5:=row_of HG6.out 5 (.slice faa f.arrays.length fac) rfl
  have s6:=row_of HG6.out 6 (.slice fka f.code.length fkc) rfl
  have s7:=row_of HG6.out 7 (.slice la q.levels.length lc) rfl
  have s8:=row_of HG6.out 8 (.slice oa q.order.length oc) rfl
  have s9:=row_of HG6.out 9 (.slice ca q.chans.length cc) rfl
  have s10:=row_of HG6.out 10 (.slice sa q.sites.length sc) rfl
  have s11:=row_of HG6.out 11 (.bool q.sens) rfl
  have s12:=row_of HG6.out 12 (.int .i64 q.steps) rfl
  have s13:=row_of HG6.out 13 (.int .i64 q.paths) rfl
  have s14:=row_of HG6.out 14 (.int .i64 q.nodes) rfl
  have s15:=row_of HG6.out 15 (.int .i64 q.confs) rfl
  have s16:=row_of HG6.out 16 (.slice cla f.chans.length clc) rfl
  have s17:=row_of HG6.out 17 (.slice sla f.sites.length slc) rfl
  have x0:=row_of HG7.out 0 (.int .u8 x.status) rfl
  have x1:=row_of HG7.out 1 (.int .i64 x.steps) rfl
  have x2:=row_of HG7.out 2 (.slice xa1 x.outs.length xa2) rfl
  have x3:=row_of HG7.out 3 (.slice xa3 x.rels.length xa4) rfl
  have x4:=row_of HG7.out 4 (.slice xa5 x.brs.length xa6) rfl
  have x5:=row_of HG7.out 5 (.slice xa7 x.reads.length xa8) rfl
  have y0:=row_of HG8.out 0 (.int .u8 y.status) rfl
  have y1:=row_of HG8.out 1 (.int .i64 y.steps) rfl
  have y2:=row_of HG8.out 2 (.slice ya1 y.outs.length ya2) rfl
  have y3:=row_of HG8.out 3 (.slice ya3 y.rels.length ya4) rfl
  have y4:=row_of HG8.out 4 (.slice ya5 y.brs.length ya6) rfl
  have y5:=row_of HG8.out 5 (.slice ya7 y.reads.length ya8) rfl
  go_upto_region 4 with (go_at_call 53;refine (HSA.out _ HB4.out).mono ?_;rintro e z5 ⟨rfl,hz⟩;have B5:=hid (bcomp HB4.out hz);clear hz)
  clear s0 s1 s2 s3 s4 s5 s6 s7 s8 s9 s10 s11 s12 s13 s14 s15 s16 s17 x0 x1 x2 x3 x4 x5 y0 y1 y2 y3 y4 y5 HSA
  cases I with
  | false=>
   go_wp2_with fail
   go_ret
   exact⟨by rw[HV.out];rfl,B5.out⟩
  | true=>
   cases Pb with
   | false=>
    go_wp2_with fail
    go_ret
    exact⟨by rw[HV.out];rfl,B5.out⟩
   | true=>
    go_wp2_with fail
    go_ret
    exact⟨by rw[HV.out];rfl,B5.out⟩
end Go.Proofs.YtkjkpddajjmloaaGreatDoor
