/- The kit's comparison of a flat program with itself; the walk of FlatChecks, in whatever memory it is called. Conditions: what comes in reads as a flat program; the tables are laid. -/
import Derived.Test.YtgcfdbhpophnjaaDoorFlJ
import Derived.Test.YtgcfdbhpophnjaaDoorMRc
import Derived.Test.YtgcfdbhpophnjaaDoorKMb
import Derived.Test.YtgcfdbhpophnjaaDoorFlQ
import Derived.Test.YtgcfdbhpophnjaaDoorFeP
set_option linter.all false
set_option maxRecDepth 1000000
set_option maxHeartbeats 12800000
namespace Go.Proofs.YtgcfdbhpophnjaaDoor
open Go.ChangeShapes Go.WideShapes Go.ChangeAt Go.RowKit
open Go.Lib (hid)
theorem gsFlM {α:Type} {a:Array α} {i:Nat} {v:α} (h:a[i]?=some v):i<a.size:=(Array.getElem?_eq_some_iff.1 h).1
theorem eqStr_selfL (l:List ByteArray):eqL eqStr l l=true:=eqL_selfF (fun x=>by simp[eqStr]) l
theorem eqInt_selfL (l:List Int):eqL eqInt l l=true:=eqL_selfF (fun x=>by simp[eqInt]) l
theorem eqCode_selfL (l:List CodeD):eqL eqCode l l=true:=eqL_selfF (fun x=>by simp[eqCode]) l
theorem equalFlatSelf (f:FlatD) (cv sv av kv cv' sv' av' kv':Value) (w:World) (h:RdFlat none w f cv sv av kv) (g:RdFlat none w f cv' sv' av' kv') :
  Calls Tryd.prog 13 #[flatV f cv sv av kv,flatV f cv' sv' av' kv'] w fun e w'=>e=.returned (.bool true)∧Below w.heap.size w w':=by
 obtain⟨ca,cc,rfl⟩:=h.1.is
 obtain⟨sa,sc,rfl⟩:=h.2.1.is
 obtain⟨aa,ac,rfl⟩:=h.2.2.1.is
 obtain⟨ka,kc,rfl⟩:=h.2.2.2.1.is
 obtain⟨caS,ccS,rfl⟩:=g.1.is
 obtain⟨saS,scS,rfl⟩:=g.2.1.is
 obtain⟨aaS,acS,rfl⟩:=g.2.2.1.is
 obtain⟨kaS,kcS,rfl⟩:=g.2.2.2.1.is
 have hal:=((Below.refl w.heap.size w).alloc (Nat.le_refl _) (.cells #[.int .i64 f.width,.int .i64 f.regs,.slice ca f.chans.length cc,.slice sa f.sites.length sc,.slice aa f.arrays.length ac,.slice ka f.code.length kc] 32)).alloc (by simp) (.cells #[.int .i64 f.width,.int .i64 f.regs,.slice caS f.chans.length ccS,.slice saS f.sites.length scS,.slice aaS f.arrays.length acS,.slice kaS f.code.length kcS] 32)
 have hbb:=heap2_of (w:=w) (A:=(.cells #[.int .i64 f.width,.int .i64 f.regs,.slice ca f.chans.length cc,.slice sa f.sites.length sc,.slice aa f.arrays.length ac,.slice ka f.code.length kc] 32)) (B:=(.cells #[.int .i64 f.width,.int .i64 f.regs,.slice caS f.chans.length ccS,.slice saS f.sites.length scS,.slice aaS f.arrays.length acS,.slice kaS f.code.length kcS] 32)) (Below.refl _ _)
 have HX:=hid (h.keep hal)
 have HY:=hid (g.keep hal)
 have G0:=hid hbb.1
 have G1:=hid hbb.2.1
 have HB:=hid hal
 clear hal hbb h g
 go_enter Tryd.func13,Tryd.ntmps13
 go_upto_region 1 with fail
 generalize ((w.alloc (.cells #[.int .i64 f.width,.int .i64 f.regs,.slice ca f.chans.length cc,.slice sa f.sites.length sc,.slice aa f.arrays.length ac,.slice ka f.code.length kc] 32)).alloc (.cells #[.int .i64 f.width,.int .i64 f.regs,.slice caS f.chans.length ccS,.slice saS f.sites.length scS,.slice aaS f.arrays.length acS,.slice kaS f.code.length kcS] 32))=W at *
 have hsW:w.heap.size+1<W.heap.size:=(gsFlM G1.out)
 have HK:Hid (∀ w':World,Below W.heap.size W w'→w'.heap[w.heap.size]?=W.heap[w.heap.size]?∧w'.heap[w.heap.size+1]?=W.heap[w.heap.size+1]?):=fun w' hb=>⟨hb.block _ (by omega),hb.block _ (by omega)⟩
 have hc0:=fun (w':World) (hb:Below W.heap.size W w')=>equalStr _ _ _ _ w' (HX.out.1.keep hb) (HY.out.1.keep hb)
 have hc1:=fun (w':World) (hb:Below W.heap.size W w')=>equalStr _ _ _ _ w' (HX.out.2.1.keep hb) (HY.out.2.1.keep hb)
 have hc2:=fun (w':World) (hb:Below W.heap.size W w')=>equalInt _ _ _ _ w' (HX.out.2.2.1.keep hb) (HY.out.2.2.1.keep hb)
 have hc3:=fun (w':World) (hb:Below W.heap.size W w')=>equalCode _ _ _ _ w' (HX.out.2.2.2.1.keep hb) (HY.out.2.2.2.1.keep hb)
 rw[eqStr_selfL] at hc0 hc1
 rw[eqInt_selfL] at hc2
 rw[eqCode_selfL] at hc3
 have HC0:=hid hc0
 have HC1:=hid hc1
 have HC2:=hid hc2
 have HC3:=hid hc3
 clear hc0 hc1 hc2 hc3
 have i0:=row_of G0.out 0 (.int .i64 f.width) rfl
 have j0:=row_of G1.out 0 (.int .i64 f.width) rfl
 have i1:=row_of G0.out 1 (.int .i64 f.regs) rfl
 have j1:=row_of G1.out 1 (.int .i64 f.regs) rfl
 have i2:=row_of G0.out 2 (.slice ca f.chans.length cc) rfl
 have j2:=row_of G1.out 2 (.slice caS f.chans.length ccS) rfl
 have e0:(f.width==f.width)=true:=by simp
 have e1:(f.regs==f.regs)=true:=by simp
 go_wp2_with (first|(go_at_call 22;with_reducible refine (HC0.out _ (Below.refl _ _)).mono ?_;rintro e w1 ⟨rfl,hw⟩;have B1:=hid (hw);clear hw;have i3:=row_of ((HK.out _ B1.out).1.trans G0.out) 3 (.slice sa f.sites.length sc) rfl;have j3:=row_of ((HK.out _ B1.out).2.trans G1.out) 3 (.slice saS f.sites.length scS) rfl)|(go_at_call 22;with_reducible refine (HC1.out _ B1.out).mono ?_;rintro e w2 ⟨rfl,hw⟩;have B2:=hid (bcomp B1.out hw);clear hw;have i4:=row_of ((HK.out _ B2.out).1.trans G0.out) 4 (.slice aa f.arrays.length ac) rfl;have j4:=row_of ((HK.out _ B2.out).2.trans G1.out) 4 (.slice aaS f.arrays.length acS) rfl)|(go_at_call 41;with_reducible refine (HC2.out _ B2.out).mono ?_;rintro e w3 ⟨rfl,hw⟩;have B3:=hid (bcomp B2.out hw);clear hw;have i5:=row_of ((HK.out _ B3.out).1.trans G0.out) 5 (.slice ka f.code.length kc) rfl;have j5:=row_of ((HK.out _ B3.out).2.trans G1.out) 5 (.slice kaS f.code.length kcS) rfl)|(go_at_call 42;with_reducible refine (HC3.out _ B3.out).mono ?_;rintro e w4 ⟨rfl,hw⟩;have B4:=hid (bcomp B3.out hw);clear hw))
 go_ret
 exact⟨rfl,bcomp HB.out B4.out⟩
theorem ba_inj {s t:ByteArray} (h:s.toList=t.toList):s=t:=by
 rw[ByteArray.toList_eq,ByteArray.toList_eq] at h
 cases s;cases t;simp at h;rw[h]
end Go.Proofs.YtgcfdbhpophnjaaDoor
