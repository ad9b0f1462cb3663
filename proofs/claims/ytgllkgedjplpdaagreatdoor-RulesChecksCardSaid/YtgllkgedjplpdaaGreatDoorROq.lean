/- A world that holds the laid tables of the group flat, and what the rows' lists of laid variables give. Condition: the row's own. -/
import Derived.Test.YtgllkgedjplpdaaGreatDoorLib
import Derived.Test.YtgllkgedjplpdaaGreatDoorForm
import Derived.Test.YtgllkgedjplpdaaGreatDoorMLd
import Derived.Test.YtgllkgedjplpdaaGreatDoorRows
import Derived.Test.YtgllkgedjplpdaaGreatDoorCards
import Derived.Test.YtgllkgedjplpdaaGreatDoorTie
import Derived.LaidLaws
import Derived.Stop.LaidErr
import Derived.LaidMore
import Derived.LaidHandle
import Derived.ChangeArms
import Derived.OpenShut
import Derived.ShutString
import Derived.SliceStrings
import Derived.SizedLaws
import Derived.ProofKit
import Derived.Carry
import Derived.Deep.DeepHandedRow
import Derived.Deep.DeepWitnessRowRef
import Derived.Test.YtgllkgedjplpdaaGreatDoorRowE
import Derived.Test.YtgllkgedjplpdaaGreatDoorAgH
import Derived.Lib.LaidTab
set_option linter.all false
set_option maxRecDepth 1000000
set_option maxHeartbeats 12800000
set_option linter.unusedVariables false
set_option linter.unusedSimpArgs false
namespace Go.Proofs.YtgllkgedjplpdaaGreatDoor
open Go.ChangeShapes Go.WideShapes Go.ChangeAt Go.RowKit
abbrev laidL : List (String × DataW Unit) := [("math/bits.deBruijn32tab", Rows.laid_math_bits_deBruijn32tab), ("weephole/prog.keywords", Rows.laid_weephole_prog_keywords), ("weephole/prog.forms", Rows.laid_weephole_prog_forms), ("weephole/flat.shapes", Rows.laid_weephole_flat_shapes)]
theorem ownKnobNone:ownKnob Tryz.prog.godebug=none:=by kernel_rfl
noncomputable def laidWorld (os:Os):World:=World.doorLaid Tryz.prog 400 os
theorem laid_met (os:Os) (args:Array Value):laidMet Tryz.prog laidL ((laidWorld os).forCall (fun _ _=>0) ⟨#[],args,[]⟩).memory:=
 laidMet_of_run' 8 (by kernel_rfl) (by kernel_rfl)
theorem laidOut_all:laidOutB Tryz.prog=true:=by kernel_rfl
theorem gKw : Tryz.prog.globalNamed "weephole/prog.keywords" = some 1 := by kernel_rfl
theorem gFo : Tryz.prog.globalNamed "weephole/prog.forms" = some 2 := by kernel_rfl
theorem tKw:(Tryz.prog.globals[1]?).map (·.type)=some 22:=by kernel_rfl
theorem cStr:Tryz.prog.cellsOf 9=1:=by kernel_rfl
def formD {H:Type} (x:Bool × Bool × Int):DataW H:=.agg [.lit (.bool x.1),.lit (.bool x.2.1),.lit (.int .i64 x.2.2)]
theorem formsData {H:Type}:(Rows.laid_weephole_prog_forms:DataW H)=.agg (formL.map formD):=rfl
def strD {H:Type} (s:ByteArray):DataW H:=.lit (.string s.data.toList)
theorem kwData {H:Type}:(Rows.laid_weephole_prog_keywords:DataW H)=.slice (kwL.map strD) []:=by rfl
theorem strD_inj {H:Type} {l m:List ByteArray} (h:(l.map strD:List (DataW H))=m.map strD):l=m:=by
 refine List.map_inj_right (fun x y e=>?_) |>.1 h
 simp only [strD,DataW.lit.injEq,Lit.string.injEq] at e
 exact ByteArray.ext (Array.toList_inj.1 e)
theorem cBool:Tryz.prog.cellsOf 4=1:=by kernel_rfl
theorem cInt:Tryz.prog.cellsOf 3=1:=by kernel_rfl
theorem three {α:Type} {l:List α} (h:l.length=3):∃ a b c,l=[a,b,c]:=by
 match l,h with
 | [a,b,c],_=>exact ⟨a,b,c,rfl⟩
theorem spot_none {W:World} {a:Addr} {v:Value} (h:W.cell? (a.add 0)=some v):∃ b o,a=⟨b,o,none⟩:=by
 obtain ⟨b,o,sp⟩:=a
 cases sp with
 | none=>exact ⟨b,o,rfl⟩
 | some z=>simp [World.cell?,Addr.add] at h;split at h <;> simp at h
theorem add_none (b o i:Nat):(⟨b,o,none⟩:Addr).add i=⟨b,o+i,none⟩:=by
 unfold Addr.add
 split
 ·rename_i h;subst h;rfl
 ·rfl
theorem tFo:(Tryz.prog.globals[2]?).map (·.type)=some 203:=by kernel_rfl
theorem cFields:Tryz.prog.cellsOf 202=3:=by kernel_rfl
theorem laid_of {W:World} (h:laidMetH Tryz.prog laidL W):Laid W:=by
 have h0:laidMet Tryz.prog laidL W:=h
 have h:=laidMet.tail h0
 obtain ⟨ps,⟨g,t,cs,fuel,p,q,hg,ht,hvar,hd,⟨g2,t2,cs2,fuel2,p2,q2,hg2,ht2,hvar2,hd2,_,_⟩,_⟩,_⟩:=h
 obtain rfl:=Option.some.inj (gKw.symm.trans hg)
 obtain rfl:=Option.some.inj (gFo.symm.trans hg2)
 obtain rfl:=Option.some.inj (tKw.symm.trans ht)
 refine ⟨?_,?_⟩
 ·rcases open_strings Tryz.underlying22 Tryz.underlying9 cStr hd with ⟨_,e⟩|⟨a,len,cap,ss,hcs,_,hlc,_,hss,e,hcell,hsz⟩
  ·rw [kwData] at e
   simp at e
  rw [kwData] at e
  simp only [Prod.mk.injEq,DataW.slice.injEq] at e
  have hl:kwL=ss.take len:=strD_inj e.1.1
  have hll:len=kwL.length:=by
   rw [hl,List.length_take]
   split at hss <;> omega
  refine ⟨.slice (some a) len cap,?_,?_⟩
  ·rw [World.var?_cell gKw hvar 0,<- Array.getElem?_toList,hcs];rfl
  ·subst hll
   refine ⟨some a,cap,rfl,⟨by decide,hlc⟩,fun i s hs=>?_⟩
   have hi:i<kwL.length:=(lE hs).1
   have hi2:i<ss.length:=by split at hss <;> omega
   have h1:=hcell i hi2
   have h2:ss.getD i ByteArray.empty=s:=by
    rw [hl,List.getElem?_take,if_pos hi] at hs
    simp [List.getD,hs]
   rw [h2] at h1
   obtain ⟨b,o,rfl⟩:=spot_none (hcell 0 (by omega))
   rw [add_none] at h1
   exact ⟨b,o,rfl,Free.none _ _ _,h1,h2 ▸ (by rw [List.getD_eq_getElem?_getD,lG hi2];exact hsz _ (List.getElem_mem hi2))⟩
 ·obtain rfl:=Option.some.inj (tFo.symm.trans ht2)
  intro k x hx
  rw [formsData] at hd2
  obtain ⟨xs,m,rfl,hxs,hlen,hxl,hx2⟩:=DataW.trod_array Tryz.underlying203 hd2
  have hk:k<13:=by have:=(lE hx).1;rw [formL_len] at this;exact this
  obtain ⟨y,hy⟩:∃ y,xs[k]?=some y:=⟨_,lG (by omega)⟩
  have h3:=hx2 k hk
  rw [hy,cFields] at h3
  have hyd:y.1=formD x:=by
   have h4:(xs.map (·.1))=formL.map formD:=by
    have:=congrArg Prod.fst hxs
    simpa using this.symm
   have h5:=congrArg (·[k]?) h4
   simp only [List.getElem?_map,hy,hx,Option.map_some,Option.some.injEq] at h5
   exact h5
  obtain ⟨zs,n,rfl,hz,hl3,hzl,hz2⟩:=DataW.trod_struct Tryz.underlying202 h3
  subst hz
  obtain ⟨z0,z1,z2,rfl⟩:=three (show zs.length=3 from hzl)
  have f0:=hz2 0 _ rfl
  have f1:=hz2 1 _ rfl
  have f2:=hz2 2 _ rfl
  obtain ⟨b0,g0,rfl⟩:=DataW.trod_bool Tryz.underlying4 f0
  obtain ⟨b1,g1,rfl⟩:=DataW.trod_bool Tryz.underlying4 f1
  obtain ⟨n2,g2,rfl,_⟩:=DataW.trod_int Tryz.underlying3 f2
  obtain ⟨x0,x1,x2⟩:=x
  simp only [formD,List.map_cons,List.map_nil,DataW.agg.injEq,List.cons.injEq,DataW.lit.injEq,Lit.bool.injEq,Lit.int.injEq,and_true,true_and] at hyd
  obtain ⟨rfl,rfl,rfl⟩:=hyd
  simp only [List.getElem_toArray,List.getElem_cons_zero,List.getElem_cons_succ,cBool,cInt] at g0 g1 g2
  have hat:∀ j v,((((cs2.toList.drop (k * 3)).take 3).drop j).take 1)=[v]->j<3->cs2[k * 3+j]?=some v:=by
   intro j v h hj
   have:=congrArg (·[0]?) h
   simpa [List.getElem?_take,List.getElem?_drop,hj] using this
  refine ⟨?_,?_,?_⟩
  ·rw [World.var?_cell gFo hvar2];exact hat 0 _ g0 (by omega)
  ·rw [World.var?_cell gFo hvar2];exact hat 1 _ g1 (by omega)
  ·rw [World.var?_cell gFo hvar2];exact hat 2 _ g2 (by omega)
theorem gSh : Tryz.prog.globalNamed "weephole/flat.shapes" = some 0 := by kernel_rfl
theorem tSh:(Tryz.prog.globals[0]?).map (·.type)=some 195:=by kernel_rfl
theorem cShape:Tryz.prog.cellsOf 194=4:=by kernel_rfl
def shapeD {H:Type} (x:Bool × Bool × Bool × Int):DataW H:=.agg [.lit (.bool x.1),.lit (.bool x.2.1),.lit (.bool x.2.2.1),.lit (.int .i64 x.2.2.2)]
theorem shapesData {H:Type}:(Rows.laid_weephole_flat_shapes:DataW H)=.agg (shapeL.map shapeD):=rfl
theorem four {α:Type} {l:List α} (h:l.length=4):∃ a b c d,l=[a,b,c,d]:=by
 match l,h with
 | [a,b,c,d],_=>exact ⟨a,b,c,d,rfl⟩
theorem shapes_of {W : World} (h : laidMet Tryz.prog [("weephole/flat.shapes", Rows.laid_weephole_flat_shapes)] W) : ∀ k x, shapeL[k]? = some x -> W.cell? ⟨0, k * 4, none⟩ = some (.bool x.1) /\ W.cell? ⟨0, k * 4 + 1, none⟩ = some (.bool x.2.1) /\ W.cell? ⟨0, k * 4 + 2, none⟩ = some (.bool x.2.2.1) /\ W.cell? ⟨0, k * 4 + 3, none⟩ = some (.int .i64 x.2.2.2) := by
 obtain ⟨ps,⟨g2,t2,cs2,fuel2,p2,q2,hg2,ht2,hvar2,hd2,_,_⟩,_⟩:=h
 obtain rfl:=Option.some.inj (gSh.symm.trans hg2)
 obtain rfl:=Option.some.inj (tSh.symm.trans ht2)
 intro k x hx
 rw [shapesData] at hd2
 obtain ⟨xs,m,rfl,hxs,hlen,hxl,hx2⟩:=DataW.trod_array Tryz.underlying195 hd2
 have hk:k<10:=(lE hx).1
 obtain ⟨y,hy⟩:∃ y,xs[k]?=some y:=⟨_,lG (by omega)⟩
 have h3:=hx2 k hk
 rw [hy,cShape] at h3
 have hyd:y.1=shapeD x:=by
  have h4:(xs.map (·.1))=shapeL.map shapeD:=by
   have:=congrArg Prod.fst hxs
   simpa using this.symm
  have h5:=congrArg (·[k]?) h4
  simp only [List.getElem?_map,hy,hx,Option.map_some,Option.some.injEq] at h5
  exact h5
 obtain ⟨zs,n,rfl,hz,hl3,hzl,hz2⟩:=DataW.trod_struct Tryz.underlying194 h3
 subst hz
 obtain ⟨z0,z1,z2,z3,rfl⟩:=four (show zs.length=4 from hzl)
 have f0:=hz2 0 _ rfl
 have f1:=hz2 1 _ rfl
 have f2:=hz2 2 _ rfl
 have f3:=hz2 3 _ rfl
 obtain ⟨b0,g0,rfl⟩:=DataW.trod_bool Tryz.underlying4 f0
 obtain ⟨b1,g1,rfl⟩:=DataW.trod_bool Tryz.underlying4 f1
 obtain ⟨b2,g2',rfl⟩:=DataW.trod_bool Tryz.underlying4 f2
 obtain ⟨n3,g3,rfl,_⟩:=DataW.trod_int Tryz.underlying3 f3
 obtain ⟨x0,x1,x2,x3⟩:=x
 simp only [shapeD,List.map_cons,List.map_nil,DataW.agg.injEq,List.cons.injEq,DataW.lit.injEq,Lit.bool.injEq,Lit.int.injEq,and_true,true_and] at hyd
 obtain ⟨rfl,rfl,rfl,rfl⟩:=hyd
 simp only [List.getElem_toArray,List.getElem_cons_zero,List.getElem_cons_succ,cBool,cInt] at g0 g1 g2' g3
 have hat:∀ j v,((((cs2.toList.drop (k * 4)).take 4).drop j).take 1)=[v]->j<4->cs2[k * 4+j]?=some v:=by
  intro j v h hj
  have:=congrArg (·[0]?) h
  simpa [List.getElem?_take,List.getElem?_drop,hj] using this
 refine ⟨?_,?_,?_,?_⟩
 ·rw [World.var?_cell gSh hvar2];exact hat 0 _ g0 (by omega)
 ·rw [World.var?_cell gSh hvar2];exact hat 1 _ g1 (by omega)
 ·rw [World.var?_cell gSh hvar2];exact hat 2 _ g2' (by omega)
 ·rw [World.var?_cell gSh hvar2];exact hat 3 _ g3 (by omega)
theorem laidM_of {W:World} (h:laidMetH Tryz.prog laidL W):LaidM W:=by
 have h:laidMet Tryz.prog laidL W:=h
 exact ⟨shapes_of h.tail.tail.tail⟩
open Go.ChangeShapes Go.WideShapes Go.ChangeAt Go.RowKit
theorem choose_list {α:Type} {R:Nat->α->Prop}:∀ (len:Nat),(∀ i,i<len->∃ x,R i x)->∃ l:List α,l.length=len/\∀ i x,l[i]?=some x->R i x
 | 0,_=>⟨[],rfl,fun i x h=>by simp at h⟩
 | n+1,h=>by
  obtain ⟨l,hl,hr⟩:=choose_list n (fun i hi=>h i (by omega))
  obtain ⟨x,hx⟩:=h n (by omega)
  refine ⟨l ++ [x],by simp [hl],fun i y hy=>?_⟩
  rw [List.getElem?_append] at hy
  split at hy
  ·exact hr i y hy
  ·have hi:=(lE hy).1
   simp at hi
   obtain rfl:i=n:=by omega
   rw [hl,Nat.sub_self] at hy
   simp at hy;subst hy;exact hx
theorem weights_all {H:Type} {P:Program} {e:TypeId}:∀ {l:List (DataW H)} {d:DataW H},d ∈ l->∀ n ∈ d.weights P e,n ∈ DataW.weightsAll P e l
 | x :: r,d,hd,n,hn=>by
  rw [DataW.weightsAll,List.mem_append]
  rcases List.mem_cons.1 hd with rfl|h
  ·exact .inl hn
  ·exact .inr (weights_all h n hn)
section
variable {H:Type} {enc:TypeId × Value->H} {P:Program} {w:World} {base:Nat} {sp:Nat->Bool} {held:Bool} {fuel:Nat} {t:TypeId} {x:DataW H × List MemPlace}
def Fits (P:Program) (t:TypeId) (d:DataW H):Prop:=∀ n ∈ d.weights P t,n<=reachBytes
theorem open_rows {e:TypeId} {sz by_:Nat} {v:Value} (ht:P.underlying t=some (.slice e)) (hce:P.cellsOf e=sz) (hby:P.bytesOf e=by_) (hp:0<sz) (h:DataW.trod enc P w base sp held fuel t [v]=some x) (hs:Fits P t x.1) :
  ∃ (a:Option Addr) (len cap n:Nat),v=.slice a len cap/\(len * by_<=reachBytes/\len<=cap)/\∀ i,i<len->∃ b o row y,a=some ⟨b,o,none⟩/\row.length=sz/\(∀ j u,row[j]?=some u->w.cell? ⟨b,o+i * sz+j,none⟩=some u)/\DataW.trod enc P w base sp held n e row=some y/\Fits P e y.1:=by
 rcases DataW.trod_slice ht h with ⟨hv,_⟩|⟨a,len,cap,elems,rest,n,_,hv,rfl,_,hlc,_,hl,hel,_,_⟩
 ·simp only [List.cons.injEq,and_true] at hv
  exact ⟨none,0,0,0,hv,by simp,fun i hi=>by omega⟩
 ·simp only [List.cons.injEq,and_true] at hv
  refine ⟨some a,len,cap,n,hv,?_,?_⟩
  ·have:=hs ((elems.length+rest.length) * P.bytesOf e) (by simp [DataW.weights,ht])
   rw [hby,Nat.add_mul,hl] at this
   exact ⟨by omega,hlc⟩
  ·have each:∀ i,i<len->∃ row y,row.length=sz/\(∀ j u,row[j]?=some u->w.cell? ((a.add (i * sz)).add j)=some u)/\DataW.trod enc P w base sp held n e row=some y/\Fits P e y.1:=by
    intro i hi
    obtain ⟨y,hy⟩:∃ y,elems[i]?=some y:=⟨_,lG (by omega)⟩
    have h1:=hel i hi
    rw [hy,hce,Option.bind_eq_some_iff] at h1
    obtain ⟨row,hr,htr⟩:=h1
    unfold World.cells? at hr
    split at hr
    ·have hrl:row.length=sz:=by simpa using Lib.mapM_length hr
     refine ⟨row,y,hrl,fun j u hu=>?_,htr,fun m hm=>hs m ?_⟩
     ·have hj:=(lE hu).1
      have hrg:(List.range sz)[j]?=some j:=List.getElem?_range (by omega)
      obtain ⟨b,hb,hf⟩:=Lib.mapM_at hr j j hrg
      rw [hu] at hb;cases hb;exact hf
     ·simp only [DataW.weights,ht,List.mem_cons,List.mem_append]
      exact .inr (.inl (weights_all (List.mem_map.2 ⟨y,List.mem_of_getElem? hy,rfl⟩) m hm))
    ·cases hr
   intro i hi
   obtain ⟨row0,y0,hl0,hc0,_,_⟩:=each 0 (by omega)
   obtain ⟨u0,hu0⟩:∃ u,row0[0]?=some u:=⟨_,lG (by omega)⟩
   have h0:=hc0 0 u0 hu0
   rw [Nat.zero_mul] at h0
   have:a.add 0=a:=rfl
   rw [this] at h0
   obtain ⟨b,o,rfl⟩:=spot_none h0
   obtain ⟨row,y,hl1,hc1,h2,h3⟩:=each i hi
   refine ⟨b,o,row,y,rfl,hl1,fun j u hu=>?_,h2,h3⟩
   have:=hc1 j u hu
   rw [add_none,add_none] at this
   exact this
theorem open_field {fs:Array Field} {row:List Value} (ht:P.underlying t=some (.struct fs)) (h:DataW.trod enc P w base sp held fuel t row=some x) (hs:Fits P t x.1) (i:Nat) (ft:TypeId) (off c:Nat) (hf:(fs[i]?).map (fun f=>(f.type,f.offset))=some (ft,off)) (hc:P.cellsOf ft=c) :
  ∃ n z,DataW.trod enc P w base sp held n ft ((row.drop off).take c)=some z/\Fits P ft z.1:=by
 obtain ⟨xs,n,_,rfl,_,hl,hx⟩:=DataW.trod_struct ht h
 obtain ⟨f,hf1,hf2⟩:=Option.map_eq_some_iff.1 hf
 simp only [Prod.mk.injEq] at hf2
 obtain ⟨rfl,rfl⟩:=hf2
 have hi:=(aE hf1).1
 obtain ⟨z,hz⟩:∃ z,xs[i]?=some z:=⟨_,lG (by omega)⟩
 refine ⟨n,z,by rw [<- hc,hx i f hf1,hz],fun m hm=>hs m ?_⟩
 simp only [DataW.weights,ht]
 exact DataW.weights_mem_each (j:=i) (by rw [List.getElem?_map,Array.getElem?_toList,hf1];rfl) (by rw [List.getElem?_map,hz];rfl) m hm
theorem row_at {row:List Value} {off:Nat} {v:Value} (h:(row.drop off).take 1=[v]):row[off]?=some v:=by
 have:=congrArg (·[0]?) h
 simpa [List.getElem?_take,List.getElem?_drop] using this
end
section
variable {H:Type} {enc:TypeId × Value->H} {w:World} {base:Nat} {sp:Nat->Bool} {held:Bool} {fuel:Nat} {x:DataW H × List MemPlace}
theorem cU8:Tryz.prog.cellsOf 5=1:=by kernel_rfl
theorem cU64:Tryz.prog.cellsOf 45=1:=by kernel_rfl
theorem cArg:Tryz.prog.cellsOf 47=2:=by kernel_rfl
theorem cArr:Tryz.prog.cellsOf 96=2:=by kernel_rfl
theorem cIns:Tryz.prog.cellsOf 50=7:=by kernel_rfl
theorem cFun:Tryz.prog.cellsOf 52=5:=by kernel_rfl
theorem cPos:Tryz.prog.cellsOf 35=2:=by kernel_rfl
theorem cLArg:Tryz.prog.cellsOf 48=1:=by kernel_rfl
theorem cLStr:Tryz.prog.cellsOf 22=1:=by kernel_rfl
theorem cLArr:Tryz.prog.cellsOf 23=1:=by kernel_rfl
theorem cLFun:Tryz.prog.cellsOf 24=1:=by kernel_rfl
theorem cLIns:Tryz.prog.cellsOf 25=1:=by kernel_rfl
theorem yStr:Tryz.prog.bytesOf 9=16:=by kernel_rfl
theorem yArg:Tryz.prog.bytesOf 47=24:=by kernel_rfl
theorem yArr:Tryz.prog.bytesOf 96=24:=by kernel_rfl
theorem yIns:Tryz.prog.bytesOf 50=80:=by kernel_rfl
theorem yFun:Tryz.prog.bytesOf 52=80:=by kernel_rfl
theorem one_cell {row:List Value} {off:Nat} (h:off<row.length):∃ v,(row.drop off).take 1=[v]/\row[off]?=some v:=by
 refine ⟨row[off],?_,lG h⟩
 rw [List.drop_eq_getElem_cons h];rfl
theorem rdStrs_of {v:Value} (h:DataW.trod enc Tryz.prog w base sp held fuel 22 [v]=some x) (hs:Fits Tryz.prog 22 x.1):∃ l,RdStrs none w v l:=by
 obtain ⟨a,len,cap,n,rfl,hb,hr⟩:=open_rows Tryz.underlying22 cStr yStr (by omega) h hs
 obtain ⟨l,hl,hR⟩:=choose_list (R:=fun i (s:ByteArray)=>∃ b o,a=some ⟨b,o,none⟩/\w.cell? ⟨b,o+i,none⟩=some (.string s)/\s.size<=maxLen) len (fun i hi=>by
  obtain ⟨b,o,row,y,ha,_,hc,ht,_⟩:=hr i hi
  obtain ⟨s,rfl,_,hz⟩:=DataW.trod_string Tryz.underlying9 ht
  exact ⟨s,b,o,ha,by have:=hc 0 _ rfl;simpa using this,hz⟩)
 subst hl
 exact ⟨l,a,cap,rfl,hb,fun i s hi=>by obtain ⟨b,o,ha,hc,hz⟩:=hR i s hi;exact ⟨b,o,ha,Free.none _ _ _,hc,hz⟩⟩
theorem wfI64 {n:Int} (h:(Lit.int .i64 n).wf=true):InI64 n:=by
 simp [Lit.wf,IntKind.min,IntKind.max,IntKind.bits,IntKind.signed] at h
 unfold InI64;omega
theorem wfU64 {n:Int} (h:(Lit.int .u64 n).wf=true):InU64 n:=by
 simp [Lit.wf,IntKind.min,IntKind.max,IntKind.bits,IntKind.signed] at h
 unfold InU64;omega
theorem wfU8 {n:Int} (h:(Lit.int .u8 n).wf=true):InU8 n:=by
 simp [Lit.wf,IntKind.min,IntKind.max,IntKind.bits,IntKind.signed] at h
 unfold InU8;omega
theorem rdArgs_of {v:Value} (h:DataW.trod enc Tryz.prog w base sp held fuel 48 [v]=some x) (hs:Fits Tryz.prog 48 x.1):∃ l,RdArgs none w v l:=by
 obtain ⟨a,len,cap,n,rfl,hb,hr⟩:=open_rows Tryz.underlying48 cArg yArg (by omega) h hs
 obtain ⟨l,hl,hR⟩:=choose_list (R:=fun i (s:ArgD)=>∃ b o,a=some ⟨b,o,none⟩/\w.cell? ⟨b,o+i * 2,none⟩=some (.string s.name)/\w.cell? ⟨b,o+i * 2+1,none⟩=some (.int .u64 s.num)/\InU64 s.num/\s.name.size<=maxLen) len (fun i hi=>by
  obtain ⟨b,o,row,y,ha,hrl,hc,ht,hf⟩:=hr i hi
  obtain ⟨n0,z0,h0,_⟩:=open_field Tryz.underlying47 ht hf 0 9 0 1 rfl cStr
  obtain ⟨n1,z1,h1,_⟩:=open_field Tryz.underlying47 ht hf 1 45 1 1 rfl cU64
  obtain ⟨s,e0,_,hz⟩:=DataW.trod_string Tryz.underlying9 h0
  obtain ⟨m,e1,_,hw⟩:=DataW.trod_int Tryz.underlying45 h1
  exact ⟨⟨s,m⟩,b,o,ha,hc 0 _ (row_at e0),hc 1 _ (row_at e1),wfU64 hw,hz⟩)
 subst hl
 exact ⟨l,a,cap,rfl,hb,fun i s hi=>by obtain ⟨b,o,ha,hc⟩:=hR i s hi;exact ⟨b,o,ha,Free.none _ _ _,hc⟩⟩
theorem rdArrs_of {v:Value} (h:DataW.trod enc Tryz.prog w base sp held fuel 23 [v]=some x) (hs:Fits Tryz.prog 23 x.1):∃ l,RdArrs none w v l:=by
 obtain ⟨a,len,cap,n,rfl,hb,hr⟩:=open_rows Tryz.underlying23 cArr yArr (by omega) h hs
 obtain ⟨l,hl,hR⟩:=choose_list (R:=fun i (s:ArrD)=>∃ b o,a=some ⟨b,o,none⟩/\w.cell? ⟨b,o+i * 2,none⟩=some (.string s.name)/\w.cell? ⟨b,o+i * 2+1,none⟩=some (.int .i64 s.size)/\InI64 s.size/\s.name.size<=maxLen) len (fun i hi=>by
  obtain ⟨b,o,row,y,ha,hrl,hc,ht,hf⟩:=hr i hi
  obtain ⟨n0,z0,h0,_⟩:=open_field Tryz.underlying96 ht hf 0 9 0 1 rfl cStr
  obtain ⟨n1,z1,h1,_⟩:=open_field Tryz.underlying96 ht hf 1 3 1 1 rfl cInt
  obtain ⟨s,e0,_,hz⟩:=DataW.trod_string Tryz.underlying9 h0
  obtain ⟨m,e1,_,hw⟩:=DataW.trod_int Tryz.underlying3 h1
  exact ⟨⟨s,m⟩,b,o,ha,hc 0 _ (row_at e0),hc 1 _ (row_at e1),wfI64 hw,hz⟩)
 subst hl
 exact ⟨l,a,cap,rfl,hb,fun i s hi=>by obtain ⟨b,o,ha,hc⟩:=hR i s hi;exact ⟨b,o,ha,Free.none _ _ _,hc⟩⟩
theorem row_at2 {row:List Value} {o c k:Nat} {v:Value} (h:(((row.drop o).take c).drop k).take 1=[v]) (hk:k<c):row[o+k]?=some v:=by
 have:=row_at h
 rw [List.getElem?_take,if_pos hk,List.getElem?_drop] at this
 exact this
theorem rdInstrs_of {v:Value} (h:DataW.trod enc Tryz.prog w base sp held fuel 25 [v]=some x) (hs:Fits Tryz.prog 25 x.1):∃ l,RdInstrs none w v l:=by
 obtain ⟨a,len,cap,n,rfl,hb,hr⟩:=open_rows Tryz.underlying25 cIns yIns (by omega) h hs
 obtain ⟨l,hl,hR⟩:=choose_list (R:=fun i (s:InstrD)=>∃ b o av,a=some ⟨b,o,none⟩/\w.cell? ⟨b,o+i * 7,none⟩=some (.int .u8 s.kind)/\w.cell? ⟨b,o+i * 7+1,none⟩=some (.int .u8 s.op) /\
  w.cell? ⟨b,o+i * 7+2,none⟩=some (.string s.dst)/\w.cell? ⟨b,o+i * 7+3,none⟩=some (.string s.name) /\
  w.cell? ⟨b,o+i * 7+4,none⟩=some av/\w.cell? ⟨b,o+i * 7+5,none⟩=some (.int .i64 s.line)/\w.cell? ⟨b,o+i * 7+6,none⟩=some (.int .i64 s.col)/\RdInstr none w s av) len (fun i hi=>by
  obtain ⟨b,o,row,y,ha,hrl,hc,ht,hf⟩:=hr i hi
  obtain ⟨n0,z0,h0,_⟩:=open_field Tryz.underlying50 ht hf 0 5 0 1 rfl cU8
  obtain ⟨n1,z1,h1,_⟩:=open_field Tryz.underlying50 ht hf 1 5 1 1 rfl cU8
  obtain ⟨n2,z2,h2,_⟩:=open_field Tryz.underlying50 ht hf 2 9 2 1 rfl cStr
  obtain ⟨n3,z3,h3,_⟩:=open_field Tryz.underlying50 ht hf 3 9 3 1 rfl cStr
  obtain ⟨n4,z4,h4,f4⟩:=open_field Tryz.underlying50 ht hf 4 48 4 1 rfl cLArg
  obtain ⟨n5,z5,h5,f5⟩:=open_field Tryz.underlying50 ht hf 5 35 5 2 rfl cPos
  obtain ⟨n6,z6,h6,_⟩:=open_field Tryz.underlying35 h5 f5 0 3 0 1 rfl cInt
  obtain ⟨n7,z7,h7,_⟩:=open_field Tryz.underlying35 h5 f5 1 3 1 1 rfl cInt
  obtain ⟨k0,e0,_,w0⟩:=DataW.trod_int Tryz.underlying5 h0
  obtain ⟨k1,e1,_,w1⟩:=DataW.trod_int Tryz.underlying5 h1
  obtain ⟨s2,e2,_,w2⟩:=DataW.trod_string Tryz.underlying9 h2
  obtain ⟨s3,e3,_,w3⟩:=DataW.trod_string Tryz.underlying9 h3
  obtain ⟨av,e4,e4'⟩:=one_cell (row:=row) (off:=4) (by omega)
  rw [e4] at h4
  obtain ⟨args,hargs⟩:=rdArgs_of h4 f4
  obtain ⟨k6,e6,_,w6⟩:=DataW.trod_int Tryz.underlying3 h6
  obtain ⟨k7,e7,_,w7⟩:=DataW.trod_int Tryz.underlying3 h7
  exact ⟨⟨k0,k1,s2,s3,args,k6,k7⟩,b,o,av,ha,hc 0 _ (row_at e0),hc 1 _ (row_at e1),hc 2 _ (row_at e2),hc 3 _ (row_at e3),hc 4 _ e4',hc 5 _ (row_at2 e6 (by omega)),hc 6 _ (row_at2 e7 (by omega)),hargs,wfU8 w0,wfU8 w1,wfI64 w6,wfI64 w7,w2,w3⟩)
 subst hl
 exact ⟨l,a,cap,rfl,hb,fun i s hi=>by obtain ⟨b,o,av,ha,hc⟩:=hR i s hi;exact ⟨b,o,av,ha,Free.none _ _ _,hc⟩⟩
theorem rdFuncs_of {v:Value} (h:DataW.trod enc Tryz.prog w base sp held fuel 24 [v]=some x) (hs:Fits Tryz.prog 24 x.1):∃ l,RdFuncs none w v l:=by
 obtain ⟨a,len,cap,n,rfl,hb,hr⟩:=open_rows Tryz.underlying24 cFun yFun (by omega) h hs
 obtain ⟨l,hl,hR⟩:=choose_list (R:=fun i (s:FuncD)=>∃ b o pv cv,a=some ⟨b,o,none⟩/\w.cell? ⟨b,o+i * 5,none⟩=some (.string s.name)/\w.cell? ⟨b,o+i * 5+1,none⟩=some pv/\w.cell? ⟨b,o+i * 5+2,none⟩=some cv /\
  w.cell? ⟨b,o+i * 5+3,none⟩=some (.int .i64 s.line)/\w.cell? ⟨b,o+i * 5+4,none⟩=some (.int .i64 s.col)/\RdFunc none w s pv cv) len (fun i hi=>by
  obtain ⟨b,o,row,y,ha,hrl,hc,ht,hf⟩:=hr i hi
  obtain ⟨n0,z0,h0,_⟩:=open_field Tryz.underlying52 ht hf 0 9 0 1 rfl cStr
  obtain ⟨n1,z1,h1,f1⟩:=open_field Tryz.underlying52 ht hf 1 22 1 1 rfl cLStr
  obtain ⟨n2,z2,h2,f2⟩:=open_field Tryz.underlying52 ht hf 2 25 2 1 rfl cLIns
  obtain ⟨n5,z5,h5,f5⟩:=open_field Tryz.underlying52 ht hf 3 35 3 2 rfl cPos
  obtain ⟨n6,z6,h6,_⟩:=open_field Tryz.underlying35 h5 f5 0 3 0 1 rfl cInt
  obtain ⟨n7,z7,h7,_⟩:=open_field Tryz.underlying35 h5 f5 1 3 1 1 rfl cInt
  obtain ⟨s0,e0,_,w0⟩:=DataW.trod_string Tryz.underlying9 h0
  obtain ⟨pv,e1,e1'⟩:=one_cell (row:=row) (off:=1) (by omega)
  rw [e1] at h1
  obtain ⟨ps,hps⟩:=rdStrs_of h1 f1
  obtain ⟨cv,e2,e2'⟩:=one_cell (row:=row) (off:=2) (by omega)
  rw [e2] at h2
  obtain ⟨cs,hcs⟩:=rdInstrs_of h2 f2
  obtain ⟨k6,e6,_,w6⟩:=DataW.trod_int Tryz.underlying3 h6
  obtain ⟨k7,e7,_,w7⟩:=DataW.trod_int Tryz.underlying3 h7
  exact ⟨⟨s0,ps,cs,k6,k7⟩,b,o,pv,cv,ha,hc 0 _ (row_at e0),hc 1 _ e1',hc 2 _ e2',hc 3 _ (row_at2 e6 (by omega)),hc 4 _ (row_at2 e7 (by omega)),hps,hcs,wfI64 w6,wfI64 w7,w0⟩)
 subst hl
 exact ⟨l,a,cap,rfl,hb,fun i s hi=>by obtain ⟨b,o,pv,cv,ha,hc⟩:=hR i s hi;exact ⟨b,o,pv,cv,ha,Free.none _ _ _,hc⟩⟩
theorem rdProg_of {cs:Array Value} (h:DataW.trod enc Tryz.prog w base sp held fuel 27 cs.toList=some x) (hs:Fits Tryz.prog 27 x.1) (hl:cs.size=5) :
  ∃ p cv av fv mv,cs=#[.int .i64 p.width,cv,av,fv,mv]/\RdProg none w p cv av fv mv:=by
 obtain ⟨n0,z0,h0,_⟩:=open_field Tryz.underlying27 h hs 0 3 0 1 rfl cInt
 obtain ⟨n1,z1,h1,f1⟩:=open_field Tryz.underlying27 h hs 1 22 1 1 rfl cLStr
 obtain ⟨n2,z2,h2,f2⟩:=open_field Tryz.underlying27 h hs 2 23 2 1 rfl cLArr
 obtain ⟨n3,z3,h3,f3⟩:=open_field Tryz.underlying27 h hs 3 24 3 1 rfl cLFun
 obtain ⟨n4,z4,h4,f4⟩:=open_field Tryz.underlying27 h hs 4 25 4 1 rfl cLIns
 obtain ⟨k,e0,_,w0⟩:=DataW.trod_int Tryz.underlying3 h0
 obtain ⟨cv,e1,e1'⟩:=one_cell (row:=cs.toList) (off:=1) (by simp;omega)
 rw [e1] at h1
 obtain ⟨chans,hc⟩:=rdStrs_of h1 f1
 obtain ⟨av,e2,e2'⟩:=one_cell (row:=cs.toList) (off:=2) (by simp;omega)
 rw [e2] at h2
 obtain ⟨arrays,ha⟩:=rdArrs_of h2 f2
 obtain ⟨fv,e3,e3'⟩:=one_cell (row:=cs.toList) (off:=3) (by simp;omega)
 rw [e3] at h3
 obtain ⟨funcs,hf⟩:=rdFuncs_of h3 f3
 obtain ⟨mv,e4,e4'⟩:=one_cell (row:=cs.toList) (off:=4) (by simp;omega)
 rw [e4] at h4
 obtain ⟨main,hm⟩:=rdInstrs_of h4 f4
 refine ⟨⟨k,chans,arrays,funcs,main⟩,cv,av,fv,mv,?_,hc,ha,hf,hm,wfI64 w0⟩
 have e0':=row_at e0
 rw [Array.getElem?_toList] at e0' e1' e2' e3' e4'
 apply Array.ext_getElem?
 intro i
 match i with
 | 0=>rw [e0'];rfl
 | 1=>rw [e1'];rfl
 | 2=>rw [e2'];rfl
 | 3=>rw [e3'];rfl
 | 4=>rw [e4'];rfl
 | i+5=>rw [Array.getElem?_eq_none (by omega),Array.getElem?_eq_none (by simp)]
end
section
variable {H:Type} {enc:TypeId × Value->H} {P:Program} {w:World} {base:Nat} {sp:Nat->Bool} {held:Bool} {fuel:Nat} {t:TypeId} {x:DataW H × List MemPlace}
theorem rdStr_of {v:Value} (h:DataW.trod enc Tryz.prog w base sp held fuel 22 [v]=some x) (hs:Fits Tryz.prog 22 x.1):∃ l,RdRow kStr none w v l:=by
 obtain ⟨a,len,cap,n,rfl,hb,hr⟩:=open_rows Tryz.underlying22 cStr yStr (by omega) h hs
 obtain ⟨l,hl,hR⟩:=choose_list (R:=fun i (s:ByteArray)=>∃ b o,a=some ⟨b,o,none⟩/\w.cell? ⟨b,o+i * 1,none⟩=some (.string s)/\s.size<=maxLen) len (fun i hi=>by
  obtain ⟨b,o,row,y,ha,_,hc,ht,_⟩:=hr i hi
  obtain ⟨s,rfl,_,hz⟩:=DataW.trod_string Tryz.underlying9 ht
  exact ⟨s,b,o,ha,by have:=hc 0 _ rfl;simpa using this,hz⟩)
 subst hl
 exact ⟨l,a,cap,rfl,hb,fun i s hi=>by obtain ⟨b,o,ha,hc,hz⟩:=hR i s hi;exact ⟨b,o,ha,Free.none _ _ _,fun j u hj=>by match j,hj with|0,hj=>simp only [cellsStr,List.getElem?_cons_zero,Option.some.injEq] at hj;subst hj;exact hc,hz⟩⟩
end
theorem gBi : Tryz.prog.globalNamed "math/bits.deBruijn32tab" = some 3 := by kernel_rfl
theorem tBi:(Tryz.prog.globals[3]?).map (·.type)=some 204:=by kernel_rfl
theorem bitsData {H:Type}:(Rows.laid_math_bits_deBruijn32tab:DataW H)=Lib.tabData .u8 (Lib.deBruijn32tab.map Int.ofNat):=rfl
theorem bitsNum:∀ j,j<32->(Lib.deBruijn32tab.map Int.ofNat).getD j 0=((Lib.deBruijn32tab.getD j 0:Nat):Int):=by decide
theorem bits_of {W:World} (h:laidMetH Tryz.prog laidL W):BitsAt W:=by
 have h1:laidMet Tryz.prog laidL W:=h
 unfold laidL at h1
 rw [bitsData] at h1
 intro j hj
 have h2:=(Lib.tabIs_of_head gBi tBi Tryz.underlying204 Tryz.underlying5 (by kernel_rfl) (by kernel_rfl) h1).cell gBi j hj
 rw [bitsNum j hj] at h2
 exact h2
def PolC (w:World) (q:PolD) (c:Array Value):Prop:=∃ lv ov cv sv,c=#[lv,ov,cv,sv,.bool q.sens,.int .i64 q.steps,.int .i64 q.paths,.int .i64 q.nodes,.int .i64 q.confs]/\RdPol none w q lv ov cv sv
section
variable {H:Type} {enc:TypeId × Value->H} {w:World} {base:Nat} {sp:Nat->Bool} {held:Bool} {fuel:Nat} {x:DataW H × List MemPlace}
theorem cPair:Tryz.prog.cellsOf 93=2:=by kernel_rfl
theorem cLPair:Tryz.prog.cellsOf 28=1:=by kernel_rfl
theorem cBind:Tryz.prog.cellsOf 54=2:=by kernel_rfl
theorem cLBind:Tryz.prog.cellsOf 29=1:=by kernel_rfl
theorem yPair:Tryz.prog.bytesOf 93=16:=by kernel_rfl
theorem yBind:Tryz.prog.bytesOf 54=24:=by kernel_rfl
theorem rdBind_of {v:Value} (h:DataW.trod enc Tryz.prog w base sp held fuel 29 [v]=some x) (hs:Fits Tryz.prog 29 x.1):∃ l,RdRow kBind none w v l:=by
 obtain ⟨a,len,cap,n,rfl,hb,hr⟩:=open_rows Tryz.underlying29 cBind yBind (by omega) h hs
 obtain ⟨l,hl,hR⟩:=choose_list (R:=fun i (s:BindD)=>∃ b o,a=some ⟨b,o,none⟩/\(∀ j u,(cellsBind s)[j]?=some u->w.cell? ⟨b,o+i * 2+j,none⟩=some u)/\kBind.ok s) len (fun i hi=>by
  obtain ⟨b,o,row,y,ha,hrl,hc,ht,hf⟩:=hr i hi
  obtain ⟨n0,z0,h0,_⟩:=open_field Tryz.underlying54 ht hf 0 9 0 1 rfl cStr
  obtain ⟨n1,z1,h1,_⟩:=open_field Tryz.underlying54 ht hf 1 3 1 1 rfl cInt
  obtain ⟨v0,e0,_⟩:=one_cell (row:=row) (off:=0) (by omega)
  rw [e0] at h0
  obtain ⟨s0,hs0,_,w0⟩:=DataW.trod_string Tryz.underlying9 h0
  obtain rfl:v0=.string s0:=by simpa using hs0
  obtain ⟨k1,e1,_,w1⟩:=DataW.trod_int Tryz.underlying3 h1
  refine ⟨⟨s0,k1⟩,b,o,ha,fun j u hj=>?_,w0,wfI64 w1⟩
  match j,hj with
  | 0,hj=>simp only [cellsBind,List.getElem?_cons_zero,List.getElem?_cons_succ,Option.some.injEq] at hj;subst hj;exact hc 0 _ (row_at e0)
  | 1,hj=>simp only [cellsBind,List.getElem?_cons_zero,List.getElem?_cons_succ,Option.some.injEq] at hj;subst hj;exact hc 1 _ (row_at e1)
  | j+2,hj=>simp [cellsBind] at hj)
 subst hl
 exact ⟨l,a,cap,rfl,hb,fun i s hi=>by obtain ⟨b,o,ha,hc,hz⟩:=hR i s hi;exact ⟨b,o,ha,Free.none _ _ _,hc,hz⟩⟩
theorem rdPair_of {v:Value} (h:DataW.trod enc Tryz.prog w base sp held fuel 28 [v]=some x) (hs:Fits Tryz.prog 28 x.1):∃ l,RdRow kPair none w v l:=by
 obtain ⟨a,len,cap,n,rfl,hb,hr⟩:=open_rows Tryz.underlying28 cPair yPair (by omega) h hs
 obtain ⟨l,hl,hR⟩:=choose_list (R:=fun i (s:Int × Int)=>∃ b o,a=some ⟨b,o,none⟩/\(∀ j u,(cellsPair s)[j]?=some u->w.cell? ⟨b,o+i * 2+j,none⟩=some u)/\kPair.ok s) len (fun i hi=>by
  obtain ⟨b,o,row,y,ha,hrl,hc,ht,hf⟩:=hr i hi
  obtain ⟨xs,m,rfl,hxs,hlen,hxl,hx2⟩:=DataW.trod_array Tryz.underlying93 ht
  have each:∀ k,k<2->∃ kk:Int,(row.drop (k * 1)).take 1=[.int .i64 kk]/\InI64 kk:=by
   intro k hk
   obtain ⟨z,hz⟩:∃ z,xs[k]?=some z:=⟨_,lG (by omega)⟩
   have h3:=hx2 k hk
   rw [hz,cInt] at h3
   obtain ⟨k0,e0,_,w0⟩:=DataW.trod_int Tryz.underlying3 h3
   exact ⟨k0,e0,wfI64 w0⟩
  obtain ⟨k0,e0,w0⟩:=each 0 (by omega)
  obtain ⟨k1,e1,w1⟩:=each 1 (by omega)
  refine ⟨(k0,k1),b,o,ha,fun j u hj=>?_,w0,w1⟩
  match j,hj with
  | 0,hj=>simp only [cellsPair,List.getElem?_cons_zero,List.getElem?_cons_succ,Option.some.injEq] at hj;subst hj;exact hc 0 _ (row_at e0)
  | 1,hj=>simp only [cellsPair,List.getElem?_cons_zero,List.getElem?_cons_succ,Option.some.injEq] at hj;subst hj;exact hc 1 _ (row_at e1)
  | j+2,hj=>simp [cellsPair] at hj)
 subst hl
 exact ⟨l,a,cap,rfl,hb,fun i s hi=>by obtain ⟨b,o,ha,hc,hz⟩:=hR i s hi;exact ⟨b,o,ha,Free.none _ _ _,hc,hz⟩⟩
theorem polC_of {cs:Array Value} (h:DataW.trod enc Tryz.prog w base sp held fuel 31 cs.toList=some x) (hs:Fits Tryz.prog 31 x.1) (hl:cs.size=9):∃ q,PolC w q cs:=by
 obtain ⟨n0,z0,h0,f0⟩:=open_field Tryz.underlying31 h hs 0 22 0 1 rfl cLStr
 obtain ⟨n1,z1,h1,f1⟩:=open_field Tryz.underlying31 h hs 1 28 1 1 rfl cLPair
 obtain ⟨n2,z2,h2,f2⟩:=open_field Tryz.underlying31 h hs 2 29 2 1 rfl cLBind
 obtain ⟨n3,z3,h3,f3⟩:=open_field Tryz.underlying31 h hs 3 29 3 1 rfl cLBind
 obtain ⟨n4,z4,h4,f4⟩:=open_field Tryz.underlying31 h hs 4 4 4 1 rfl cBool
 obtain ⟨n5,z5,h5,f5⟩:=open_field Tryz.underlying31 h hs 5 3 5 1 rfl cInt
 obtain ⟨n6,z6,h6,f6⟩:=open_field Tryz.underlying31 h hs 6 3 6 1 rfl cInt
 obtain ⟨n7,z7,h7,f7⟩:=open_field Tryz.underlying31 h hs 7 3 7 1 rfl cInt
 obtain ⟨n8,z8,h8,f8⟩:=open_field Tryz.underlying31 h hs 8 3 8 1 rfl cInt
 obtain ⟨lv,e0,e0'⟩:=one_cell (row:=cs.toList) (off:=0) (by simp;omega)
 rw [e0] at h0
 obtain ⟨levels,r0⟩:=rdStr_of h0 f0
 obtain ⟨ov,e1,e1'⟩:=one_cell (row:=cs.toList) (off:=1) (by simp;omega)
 rw [e1] at h1
 obtain ⟨order,r1⟩:=rdPair_of h1 f1
 obtain ⟨cv,e2,e2'⟩:=one_cell (row:=cs.toList) (off:=2) (by simp;omega)
 rw [e2] at h2
 obtain ⟨chans,r2⟩:=rdBind_of h2 f2
 obtain ⟨sv,e3,e3'⟩:=one_cell (row:=cs.toList) (off:=3) (by simp;omega)
 rw [e3] at h3
 obtain ⟨sites,r3⟩:=rdBind_of h3 f3
 obtain ⟨b4,e4,_⟩:=DataW.trod_bool Tryz.underlying4 h4
 obtain ⟨k5,e5,_,w5⟩:=DataW.trod_int Tryz.underlying3 h5
 obtain ⟨k6,e6,_,w6⟩:=DataW.trod_int Tryz.underlying3 h6
 obtain ⟨k7,e7,_,w7⟩:=DataW.trod_int Tryz.underlying3 h7
 obtain ⟨k8,e8,_,w8⟩:=DataW.trod_int Tryz.underlying3 h8
 refine ⟨⟨levels,order,chans,sites,b4,k5,k6,k7,k8⟩,lv,ov,cv,sv,?_,r0,r1,r2,r3,wfI64 w5,wfI64 w6,wfI64 w7,wfI64 w8⟩
 have e4':=row_at e4
 have e5':=row_at e5
 have e6':=row_at e6
 have e7':=row_at e7
 have e8':=row_at e8
 rw [Array.getElem?_toList] at e0' e1' e2' e3' e4' e5' e6' e7' e8'
 apply Array.ext_getElem?
 intro i
 match i with
 | 0=>rw [e0'];rfl
 | 1=>rw [e1'];rfl
 | 2=>rw [e2'];rfl
 | 3=>rw [e3'];rfl
 | 4=>rw [e4'];rfl
 | 5=>rw [e5'];rfl
 | 6=>rw [e6'];rfl
 | 7=>rw [e7'];rfl
 | 8=>rw [e8'];rfl
 | i+9=>rw [Array.getElem?_eq_none (by omega),Array.getElem?_eq_none (by simp)]
end
end Go.Proofs.YtgllkgedjplpdaaGreatDoor
