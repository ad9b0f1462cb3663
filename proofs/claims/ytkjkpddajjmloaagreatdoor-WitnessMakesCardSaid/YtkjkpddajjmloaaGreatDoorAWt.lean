/- How a trace that comes in reads: its events, its branches. On AWl. -/
import Derived.Test.YtkjkpddajjmloaaGreatDoorAWl
set_option linter.all false
set_option maxRecDepth 1000000
set_option maxHeartbeats 6400000
namespace Go.Proofs.YtkjkpddajjmloaaGreatDoor
open Go.ChangeShapes Go.WideShapes Go.ChangeAt Go.RowKit
section
variable {H:Type} {enc:TypeId × Value→H} {w:World} {base:Nat} {sp:Nat→Bool} {held:Bool} {fuel:Nat} {x:DataW H × List MemPlace}
theorem cEv:Tryz.prog.cellsOf 163=2:=by kernel_rfl
theorem cLEv:Tryz.prog.cellsOf 49=1:=by kernel_rfl
theorem cLBool:Tryz.prog.cellsOf 50=1:=by kernel_rfl
theorem yEv:Tryz.prog.bytesOf 163=16:=by kernel_rfl
theorem yBool:Tryz.prog.bytesOf 4=1:=by kernel_rfl
theorem rdEv_of {v:Value} (h:DataW.trod enc Tryz.prog w base sp held fuel 49 [v]=some x) (hs:Fits Tryz.prog 49 x.1):∃ l,RdRow kEv none w v l:=by
 obtain⟨a,len,cap,n,rfl,hb,hr⟩:=open_rows Tryz.underlying49 cEv yEv (by omega) h hs
 obtain⟨l,hl,hR⟩:=choose_list (R:=fun i (s:EvD)=>∃ b o,a=some ⟨b,o,none⟩∧(∀ j u,(cellsEv s)[j]?=some u→w.cell? ⟨b,o+i*2+j,none⟩=some u)∧kEv.ok s) len (fun i hi=>by
  obtain⟨b,o,row,y,ha,hrl,hc,ht,hf⟩:=hr i hi
  obtain⟨n0,z0,h0,_⟩:=open_field Tryz.underlying163 ht hf 0 3 0 1 rfl cInt
  obtain⟨n1,z1,h1,_⟩:=open_field Tryz.underlying163 ht hf 1 58 1 1 rfl cU64
  obtain⟨k0,e0,_,w0⟩:=DataW.trod_int Tryz.underlying3 h0
  obtain⟨k1,e1,_,w1⟩:=DataW.trod_int Tryz.underlying58 h1
  refine⟨⟨k0,k1⟩,b,o,ha,fun j u hj=>?_,wfI64 w0,wfU64 w1⟩
  match j,hj with
  | 0,hj=>simp only[cellsEv,List.getElem?_cons_zero,List.getElem?_cons_succ,Option.some.injEq] at hj;subst hj;exact hc 0 _ (row_at e0)
  | 1,hj=>simp only[cellsEv,List.getElem?_cons_zero,List.getElem?_cons_succ,Option.some.injEq] at hj;subst hj;exact hc 1 _ (row_at e1)
  | j+2,hj=>simp[cellsEv] at hj)
 subst hl
 exact⟨l,a,cap,rfl,hb,fun i s hi=>by obtain⟨b,o,ha,hc,hz⟩:=hR i s hi;exact⟨b,o,ha,Free.none _ _ _,hc,hz⟩⟩
theorem rdBools_of {v:Value} (h:DataW.trod enc Tryz.prog w base sp held fuel 50 [v]=some x) (hs:Fits Tryz.prog 50 x.1):∃ l,RdRow kBool none w v l:=by
 obtain⟨a,len,cap,n,rfl,hb,hr⟩:=open_rows Tryz.underlying50 cBool yBool (by omega) h hs
 obtain⟨l,hl,hR⟩:=choose_list (R:=fun i (s:Bool)=>∃ b o,a=some ⟨b,o,none⟩∧w.cell? ⟨b,o+i*1,none⟩=some (.bool s)) len (fun i hi=>by
  obtain⟨b,o,row,y,ha,_,hc,ht,_⟩:=hr i hi
  obtain⟨s,rfl,_⟩:=DataW.trod_bool Tryz.underlying4 ht
  exact⟨s,b,o,ha,by have:=hc 0 _ rfl;simpa using this⟩)
 subst hl
 exact⟨l,a,cap,rfl,hb,fun i s hi=>by obtain⟨b,o,ha,hc⟩:=hR i s hi;exact⟨b,o,ha,Free.none _ _ _,fun j u hj=>by match j,hj with|0,hj=>simp only[cellsBool,List.getElem?_cons_zero,Option.some.injEq] at hj;subst hj;exact hc,trivial⟩⟩
theorem trcC_of {cs:Array Value} (h:DataW.trod enc Tryz.prog w base sp held fuel 52 cs.toList=some x) (hs:Fits Tryz.prog 52 x.1) (hl:cs.size=6):∃ t,TrcC w t cs:=by
 obtain⟨n0,z0,h0,f0⟩:=open_field Tryz.underlying52 h hs 0 5 0 1 rfl cU8
 obtain⟨n1,z1,h1,f1⟩:=open_field Tryz.underlying52 h hs 1 3 1 1 rfl cInt
 obtain⟨n2,z2,h2,f2⟩:=open_field Tryz.underlying52 h hs 2 49 2 1 rfl cLEv
 obtain⟨n3,z3,h3,f3⟩:=open_field Tryz.underlying52 h hs 3 49 3 1 rfl cLEv
 obtain⟨n4,z4,h4,f4⟩:=open_field Tryz.underlying52 h hs 4 50 4 1 rfl cLBool
 obtain⟨n5,z5,h5,f5⟩:=open_field Tryz.underlying52 h hs 5 23 5 1 rfl cLInt
 obtain⟨k0,e0,_,w0⟩:=DataW.trod_int Tryz.underlying5 h0
 obtain⟨k1,e1,_,w1⟩:=DataW.trod_int Tryz.underlying3 h1
 obtain⟨ov,e2,e2'⟩:=one_cell (row:=cs.toList) (off:=2) (by simp;omega)
 rw[e2] at h2
 obtain⟨outs,r2⟩:=rdEv_of h2 f2
 obtain⟨rv,e3,e3'⟩:=one_cell (row:=cs.toList) (off:=3) (by simp;omega)
 rw[e3] at h3
 obtain⟨rels,r3⟩:=rdEv_of h3 f3
 obtain⟨bv,e4,e4'⟩:=one_cell (row:=cs.toList) (off:=4) (by simp;omega)
 rw[e4] at h4
 obtain⟨brs,r4⟩:=rdBools_of h4 f4
 obtain⟨dv,e5,e5'⟩:=one_cell (row:=cs.toList) (off:=5) (by simp;omega)
 rw[e5] at h5
 obtain⟨reads,r5⟩:=rdInt_of h5 f5
 refine⟨⟨k0,k1,outs,rels,brs,reads⟩,ov,rv,bv,dv,?_,r2,r3,r4,r5,wfU8 w0,wfI64 w1⟩
 have e0':=row_at e0
 have e1':=row_at e1
 rw[Array.getElem?_toList] at e0' e1' e2' e3' e4' e5'
 apply Array.ext_getElem?
 intro i
 match i with
 | 0=>rw[e0'];rfl
 | 1=>rw[e1'];rfl
 | 2=>rw[e2'];rfl
 | 3=>rw[e3'];rfl
 | 4=>rw[e4'];rfl
 | 5=>rw[e5'];rfl
 | i+6=>rw[Array.getElem?_eq_none (by omega),Array.getElem?_eq_none (by simp)]
end
end Go.Proofs.YtkjkpddajjmloaaGreatDoor
