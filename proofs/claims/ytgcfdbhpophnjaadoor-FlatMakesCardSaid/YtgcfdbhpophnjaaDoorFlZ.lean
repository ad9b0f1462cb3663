/- The walk of FlatMakes, given the reference's Of: Of returns what the reference returns, and the program is not modified. Conditions: the argument reads as a program; the tables are laid. -/
import Derived.Test.YtgcfdbhpophnjaaDoorFlM
import Derived.Test.YtgcfdbhpophnjaaDoorFlO
import Derived.Test.YtgcfdbhpophnjaaDoorFlV
set_option linter.all false
set_option maxRecDepth 1000000
set_option maxHeartbeats 12800000
namespace Go.Proofs.YtgcfdbhpophnjaaDoor
open Go.ChangeShapes Go.WideShapes Go.ChangeAt Go.RowKit
open Go.Lib (hid)
theorem gsFlZ {α:Type} {a:Array α} {i:Nat} {v:α} (h:a[i]?=some v):i<a.size:=(Array.getElem?_eq_some_iff.1 h).1
theorem lgFlZ {α:Type} {l:List α} {i:Nat} (h:i<l.length):l[i]?=some l[i]:=List.getElem?_eq_getElem h
theorem flatMakes_of (hBody:∀ m:RMk,m.Ok→∀ n,n≤101→∀ f:Nat,f≤m.E.p.funcs.length→EnvF.Fits m.E.p n (fiR m.E.p f)→RBodyC m n f) (p:ProgD) (cv av fv mv:Value) (w:World) (h:RdProg none w p cv av fv mv) (hL:Laid w) (hM:LaidM w) :
  Calls Tryd.prog 3 #[progV p cv av fv mv] w fun e w'=>e=.returned (.bool true)∧Below w.heap.size w w':=by
 obtain⟨ac,kc,rfl,-,-⟩:=id h.1
 obtain⟨aa,ka,rfl,-,-⟩:=id h.2.1
 obtain⟨af,kf,rfl,-,-⟩:=id h.2.2.1
 obtain⟨am,km,rfl,-,-⟩:=id h.2.2.2.1
 have hb0:=(Below.refl w.heap.size w).alloc (Nat.le_refl _) (.cells #[.int .i64 p.width,.slice ac p.chans.length kc,.slice aa p.arrays.length ka,.slice af p.funcs.length kf,.slice am p.main.length km] 27)
 have hx0:=heap_alloc_new w (.cells #[.int .i64 p.width,.slice ac p.chans.length kc,.slice aa p.arrays.length ka,.slice af p.funcs.length kf,.slice am p.main.length km] 27)
 have HS:=hid (few_prog p _ _ _ _ _ (h.keep hb0))
 have HB:=hid hb0
 have HX:=hid hx0
 have HL:=hid hL
 have HM:=hid hM
 have HBODY:=hid hBody
 clear h hL hM hb0 hx0 hBody
 go_enter Tryd.func3,Tryd.ntmps3
 go_upto_region 1 with fail
 generalize w.alloc (.cells #[.int .i64 p.width,.slice ac p.chans.length kc,.slice aa p.arrays.length ka,.slice af p.funcs.length kf,.slice am p.main.length km] 27)=W at *
 obtain⟨pb,hpb⟩:∃ pb,w.heap.size=pb:=⟨_,rfl⟩
 have HPB:=hid hpb
 rw[hpb] at HX
 rw[hpb]
 clear hpb
 have c0:=row_of HX.out 0 (.int .i64 p.width) rfl
 have c1:=row_of HX.out 1 (.slice ac p.chans.length kc) rfl
 have c2:=row_of HX.out 2 (.slice aa p.arrays.length ka) rfl
 have c3:=row_of HX.out 3 (.slice af p.funcs.length kf) rfl
 have c4:=row_of HX.out 4 (.slice am p.main.length km) rfl
 obtain⟨P,hP⟩:∃ P,fewP p=P:=⟨_,rfl⟩
 have hlen:=few_size p
 rw[hP] at hlen
 have HLN:=hid hlen
 rw[hP] at HS
 clear hP hlen
 have HSC:Hid (Calls Tryd.prog 9 #[.agg #[.int .i64 p.width,.slice ac p.chans.length kc,.slice aa p.arrays.length ka,.slice af p.funcs.length kf,.slice am p.main.length km]] W fun e w'=>∃ bc lc ba la bf lf bm lm,e=.returned (.agg #[.int .i64 P.width,.slice bc P.chans.length lc,.slice ba P.arrays.length la,.slice bf P.funcs.length lf,.slice bm P.main.length lm])∧RdProg (some (upFrom W.heap.size)) w' P (.slice bc P.chans.length lc) (.slice ba P.arrays.length la) (.slice bf P.funcs.length lf) (.slice bm P.main.length lm)∧Below W.heap.size W w'):=by
  refine HS.out.mono ?_
  rintro e w' ⟨c,s,a,k,rfl,hrd,hz⟩
  obtain⟨bc,lc,rfl,-,-⟩:=id hrd.1
  obtain⟨ba,la,rfl,-,-⟩:=id hrd.2.1
  obtain⟨bf,lf,rfl,-,-⟩:=id hrd.2.2.1
  obtain⟨bm,lm,rfl,-,-⟩:=id hrd.2.2.2.1
  exact⟨bc,lc,ba,la,bf,lf,bm,lm,rfl,hrd,hz⟩
 clear HS
 go_upto_region 2 with (first|(go_at_call 9;refine HSC.out.mono ?_;rintro e W1 ⟨bc,lc,ba,la,bf,lf,bm,lm,rfl,hrd,hz⟩;have HRD:=hid hrd;have BZ:=hid hz;have HX1:=hid ((hz.block pb (gsFlZ HX.out)).trans HX.out);clear hrd hz)|(refine wpList_store_row rfl 27 (.tmp 1) (.tmp 9) rfl pb #[.int .i64 P.width,.slice bc P.chans.length lc,.slice ba P.arrays.length la,.slice bf P.funcs.length lf,.slice bm P.main.length lm] rfl rfl 27 #[.int .i64 p.width,.slice ac p.chans.length kc,.slice aa p.arrays.length ka,.slice af p.funcs.length kf,.slice am p.main.length km] ?hs0 (by as_aux_lemma=>kernel_rfl) (by as_aux_lemma=>kernel_rfl) (by as_aux_lemma=>kernel_rfl) ?_;exact HX1.out))
 try simp only[Act.put]
 have hpl:pb<W.heap.size:=(gsFlZ HX.out)
 have HX2:Hid (_=_):=setRow_heap W1 pb _ #[.int .i64 P.width,.slice bc P.chans.length lc,.slice ba P.arrays.length la,.slice bf P.funcs.length lf,.slice bm P.main.length lm] _ _ HX1.out
 have hB2:=below_row (bcomp HB.out BZ.out) (g:=pb) (by have:=HPB.out;omega) #[.int .i64 P.width,.slice bc P.chans.length lc,.slice ba P.arrays.length la,.slice bf P.funcs.length lf,.slice bm P.main.length lm]
 have HB2:=hid hB2
 have HR2:Hid (RdProg none (W1.setRow pb #[.int .i64 P.width,.slice bc P.chans.length lc,.slice ba P.arrays.length la,.slice bf P.funcs.length lf,.slice bm P.main.length lm]) P (.slice bc P.chans.length lc) (.slice ba P.arrays.length la) (.slice bf P.funcs.length lf) (.slice bm P.main.length lm)):=RdProg.forget (RdProg.same (g':=upFrom W.heap.size) HRD.out (fun b hg hb=>setRow_other _ _ _ _ (by have:W.heap.size≤b:=hg;omega)) (fun _ _ k=>k))
 have HL2:=hid (HL.out.keep hB2)
 have HM2:=hid (HM.out.keep hB2)
 clear c0 c1 c2 c3 c4 HSC HRD BZ HX1 HX HL HM hpl HPB HB hB2
 generalize W1.setRow pb #[.int .i64 P.width,.slice bc P.chans.length lc,.slice ba P.arrays.length la,.slice bf P.funcs.length lf,.slice bm P.main.length lm]=W2 at *
 obtain⟨⟨F,E⟩,hFE⟩:∃ q,flatOf P=q:=⟨_,rfl⟩
 have c0:=row_of HX2.out 0 (.int .i64 P.width) rfl
 have c1:=row_of HX2.out 1 (.slice bc P.chans.length lc) rfl
 have c2:=row_of HX2.out 2 (.slice ba P.arrays.length la) rfl
 have c3:=row_of HX2.out 3 (.slice bf P.funcs.length lf) rfl
 have c4:=row_of HX2.out 4 (.slice bm P.main.length lm) rfl
 have HCC:Hid (Calls Tryd.prog 10 #[.agg #[.int .i64 P.width,.slice bc P.chans.length lc,.slice ba P.arrays.length la,.slice bf P.funcs.length lf,.slice bm P.main.length lm]] W2 fun e w'=>∃ oc mc oa ma of1 mf om mm,e=.returned (.agg #[.int .i64 P.width,.slice oc P.chans.length mc,.slice oa P.arrays.length ma,.slice of1 P.funcs.length mf,.slice om P.main.length mm])∧RdProg none w' P (.slice oc P.chans.length mc) (.slice oa P.arrays.length ma) (.slice of1 P.funcs.length mf) (.slice om P.main.length mm)∧Below W2.heap.size W2 w'):=by
  refine (copyProg P _ _ _ _ W2 HR2.out).mono ?_
  rintro e w' ⟨c,a,f,m,n,rfl,h1,h2,h3,h4,_,hz⟩
  obtain⟨oc,mc,rfl,-,-⟩:=id h1
  obtain⟨oa,ma,rfl,-,-⟩:=id h2
  obtain⟨of1,mf,rfl,-,-⟩:=id h3
  obtain⟨om,mm,rfl,-,-⟩:=id h4
  exact⟨oc,mc,oa,ma,of1,mf,om,mm,rfl,⟨h1.forget,h2.forget,h3.forget,h4.forget,HR2.out.2.2.2.2⟩,hz⟩
 go_upto_region 3 with (first|(go_at_call 10;refine HCC.out.mono ?_;rintro e W3 ⟨oc,mc,oa,ma,of1,mf,om,mm,rfl,hrd,hz⟩;have HRD:=hid hrd;have BZ:=hid hz;have HN:=hid (heap_alloc_new W3 (.cells #[.int .i64 0,.slice none 0 0,.slice none 0 0,.slice none 0 0,.slice none 0 0] 27));clear hrd hz)|(refine wpList_store_row rfl 27 (.tmp 3) (.tmp 11) rfl W3.heap.size #[.int .i64 P.width,.slice oc P.chans.length mc,.slice oa P.arrays.length ma,.slice of1 P.funcs.length mf,.slice om P.main.length mm] rfl rfl 27 #[.int .i64 0,.slice none 0 0,.slice none 0 0,.slice none 0 0,.slice none 0 0] ?hs3 (by as_aux_lemma=>kernel_rfl) (by as_aux_lemma=>kernel_rfl) (by as_aux_lemma=>kernel_rfl) ?_;exact HN.out))
 try simp only[Act.put]
 have hal:Below W3.heap.size W3 ((W3.alloc (.cells #[.int .i64 0,.slice none 0 0,.slice none 0 0,.slice none 0 0,.slice none 0 0] 27)).setRow W3.heap.size #[.int .i64 P.width,.slice oc P.chans.length mc,.slice oa P.arrays.length ma,.slice of1 P.funcs.length mf,.slice om P.main.length mm]):=below_row ((Below.refl _ _).alloc (Nat.le_refl _) _) (Nat.le_refl _) _
 have HY5:Hid (_=_):=setRow_heap (W3.alloc (.cells #[.int .i64 0,.slice none 0 0,.slice none 0 0,.slice none 0 0,.slice none 0 0] 27)) W3.heap.size _ #[.int .i64 P.width,.slice oc P.chans.length mc,.slice oa P.arrays.length ma,.slice of1 P.funcs.length mf,.slice om P.main.length mm] _ _ HN.out
 have HB5:=hid (bcomp BZ.out hal)
 have HO5:=hid (HRD.out.keep hal)
 clear c0 c1 c2 c3 c4 HCC HN hal BZ HRD
 generalize (W3.alloc (.cells #[.int .i64 0,.slice none 0 0,.slice none 0 0,.slice none 0 0,.slice none 0 0] 27)).setRow W3.heap.size #[.int .i64 P.width,.slice oc P.chans.length mc,.slice oa P.arrays.length ma,.slice of1 P.funcs.length mf,.slice om P.main.length mm]=W5 at *
 obtain⟨ob,hob⟩:∃ ob,W3.heap.size=ob:=⟨_,rfl⟩
 rw[hob] at HY5
 rw[hob]
 clear hob
 have HR5:=hid (HR2.out.keep HB5.out)
 have HX5:=hid ((HB5.out.block pb (gsFlZ HX2.out)).trans HX2.out)
 have HL5:=hid (HL2.out.keep HB5.out)
 have HM5:=hid (HM2.out.keep HB5.out)
 have HB6:=hid (bcomp HB2.out HB5.out)
 clear HR2 HX2 HL2 HM2 HB2 HB5
 have HOF:Hid (Calls Tryd.prog 11 #[.agg #[.int .i64 P.width,.slice oc P.chans.length mc,.slice oa P.arrays.length ma,.slice of1 P.funcs.length mf,.slice om P.main.length mm]] W5 fun e w'=>∃ d1 k1 d2 k2 d3 k3 d4 k4,e=.returned (.tuple #[.agg #[.int .i64 F.width,.int .i64 F.regs,.slice d1 F.chans.length k1,.slice d2 F.sites.length k2,.slice d3 F.arrays.length k3,.slice d4 F.code.length k4],.int .i64 E])∧RdFlat none w' F (.slice d1 F.chans.length k1) (.slice d2 F.sites.length k2) (.slice d3 F.arrays.length k3) (.slice d4 F.code.length k4)∧Below W5.heap.size W5 w'):=by
  have h1:=flatOf_any P _ _ _ _ W5 HO5.out HL5.out
  rw[hFE] at h1
  refine h1.mono ?_
  rintro e w' ⟨c,s,a,k,rfl,hrd,hz⟩
  obtain⟨d1,k1,rfl⟩:=hrd.1.is
  obtain⟨d2,k2,rfl⟩:=hrd.2.1.is
  obtain⟨d3,k3,rfl⟩:=hrd.2.2.1.is
  obtain⟨d4,k4,rfl⟩:=hrd.2.2.2.1.is
  exact⟨d1,k1,d2,k2,d3,k3,d4,k4,rfl,hrd.forget,hz⟩
 have HRF:Hid (∀ z,Below W5.heap.size W5 z→Calls Tryd.prog 12 #[.agg #[.int .i64 P.width,.slice bc P.chans.length lc,.slice ba P.arrays.length la,.slice bf P.funcs.length lf,.slice bm P.main.length lm]] z fun e w'=>∃ g1 n1 g2 n2 g3 n3 g4 n4,e=.returned (.tuple #[.agg #[.int .i64 F.width,.int .i64 F.regs,.slice g1 F.chans.length n1,.slice g2 F.sites.length n2,.slice g3 F.arrays.length n3,.slice g4 F.code.length n4],.int .i64 E])∧RdFlat none w' F (.slice g1 F.chans.length n1) (.slice g2 F.sites.length n2) (.slice g3 F.arrays.length n3) (.slice g4 F.code.length n4)∧Below z.heap.size z w'):=by
  intro z hz5
  have h1:=refOf_of HBODY.out P _ _ _ _ z (HR5.out.keep hz5) HLN.out
  rw[hFE] at h1
  refine h1.mono ?_
  rintro e w' ⟨c,s,a,k,rfl,hrd,hz⟩
  obtain⟨d1,k1,rfl⟩:=hrd.1.is
  obtain⟨d2,k2,rfl⟩:=hrd.2.1.is
  obtain⟨d3,k3,rfl⟩:=hrd.2.2.1.is
  obtain⟨d4,k4,rfl⟩:=hrd.2.2.2.1.is
  exact⟨d1,k1,d2,k2,d3,k3,d4,k4,rfl,hrd.forget,hz⟩
 have dd0:=row_of HY5.out 0 (.int .i64 P.width) rfl
 have dd1:=row_of HY5.out 1 (.slice oc P.chans.length mc) rfl
 have dd2:=row_of HY5.out 2 (.slice oa P.arrays.length ma) rfl
 have dd3:=row_of HY5.out 3 (.slice of1 P.funcs.length mf) rfl
 have dd4:=row_of HY5.out 4 (.slice om P.main.length mm) rfl
 clear hFE HBODY
 go_upto_region 4 with (first|(go_at_call 11;refine HOF.out.mono ?_;rintro e W6 ⟨d1,k1,d2,k2,d3,k3,d4,k4,rfl,hrd,hz⟩;have HRD:=hid hrd;have BZ:=hid hz;have HN:=hid (heap_alloc_new W6 (.cells #[.int .i64 0,.int .i64 0,.slice none 0 0,.slice none 0 0,.slice none 0 0,.slice none 0 0] 32));clear hrd hz)|(refine wpList_store_row rfl 32 (.tmp 4) (.tmp 15) rfl W6.heap.size #[.int .i64 F.width,.int .i64 F.regs,.slice d1 F.chans.length k1,.slice d2 F.sites.length k2,.slice d3 F.arrays.length k3,.slice d4 F.code.length k4] rfl rfl 32 #[.int .i64 0,.int .i64 0,.slice none 0 0,.slice none 0 0,.slice none 0 0,.slice none 0 0] ?hs4 (by as_aux_lemma=>kernel_rfl) (by as_aux_lemma=>kernel_rfl) (by as_aux_lemma=>kernel_rfl) ?_;exact HN.out))
 try simp only[Act.put]
 have hal:Below W6.heap.size W6 ((W6.alloc (.cells #[.int .i64 0,.int .i64 0,.slice none 0 0,.slice none 0 0,.slice none 0 0,.slice none 0 0] 32)).setRow W6.heap.size #[.int .i64 F.width,.int .i64 F.regs,.slice d1 F.chans.length k1,.slice d2 F.sites.length k2,.slice d3 F.arrays.length k3,.slice d4 F.code.length k4]):=below_row ((Below.refl _ _).alloc (Nat.le_refl _) _) (Nat.le_refl _) _
 have HY7:Hid (_=_):=setRow_heap (W6.alloc (.cells #[.int .i64 0,.int .i64 0,.slice none 0 0,.slice none 0 0,.slice none 0 0,.slice none 0 0] 32)) W6.heap.size _ #[.int .i64 F.width,.int .i64 F.regs,.slice d1 F.chans.length k1,.slice d2 F.sites.length k2,.slice d3 F.arrays.length k3,.slice d4 F.code.length k4] _ _ HN.out
 have HB7:=hid (bcomp BZ.out hal)
 have HF7:=hid (HRD.out.keep hal)
 clear dd0 dd1 dd2 dd3 dd4 HOF HN hal BZ HRD
 generalize (W6.alloc (.cells #[.int .i64 0,.int .i64 0,.slice none 0 0,.slice none 0 0,.slice none 0 0,.slice none 0 0] 32)).setRow W6.heap.size #[.int .i64 F.width,.int .i64 F.regs,.slice d1 F.chans.length k1,.slice d2 F.sites.length k2,.slice d3 F.arrays.length k3,.slice d4 F.code.length k4]=W7 at *
 obtain⟨fb,hfb⟩:∃ fb,W6.heap.size=fb:=⟨_,rfl⟩
 rw[hfb] at HY7
 rw[hfb]
 clear hfb
 have HX7:=hid ((HB7.out.block pb (gsFlZ HX5.out)).trans HX5.out)
 have HO7:=hid ((HB7.out.block ob (gsFlZ HY5.out)).trans HY5.out)
 have HG:=hid (HRF.out W7 HB7.out)
 have c0:=row_of HX7.out 0 (.int .i64 P.width) rfl
 have c1:=row_of HX7.out 1 (.slice bc P.chans.length lc) rfl
 have c2:=row_of HX7.out 2 (.slice ba P.arrays.length la) rfl
 have c3:=row_of HX7.out 3 (.slice bf P.funcs.length lf) rfl
 have c4:=row_of HX7.out 4 (.slice bm P.main.length lm) rfl
 clear HRF HX5 HY5
 go_upto_region 5 with (first|(go_at_call 12;refine HG.out.mono ?_;rintro e W8 ⟨g1,n1,g2,n2,g3,n3,g4,n4,rfl,hrd,hz⟩;have HRD:=hid hrd;have BZ:=hid hz;have HN:=hid (heap_alloc_new W8 (.cells #[.int .i64 0,.int .i64 0,.slice none 0 0,.slice none 0 0,.slice none 0 0,.slice none 0 0] 32));clear hrd hz)|(refine wpList_store_row rfl 32 (.tmp 6) (.tmp 20) rfl W8.heap.size #[.int .i64 F.width,.int .i64 F.regs,.slice g1 F.chans.length n1,.slice g2 F.sites.length n2,.slice g3 F.arrays.length n3,.slice g4 F.code.length n4] rfl rfl 32 #[.int .i64 0,.int .i64 0,.slice none 0 0,.slice none 0 0,.slice none 0 0,.slice none 0 0] ?hs5 (by as_aux_lemma=>kernel_rfl) (by as_aux_lemma=>kernel_rfl) (by as_aux_lemma=>kernel_rfl) ?_;exact HN.out))
 try simp only[Act.put]
 have hal:Below W8.heap.size W8 ((W8.alloc (.cells #[.int .i64 0,.int .i64 0,.slice none 0 0,.slice none 0 0,.slice none 0 0,.slice none 0 0] 32)).setRow W8.heap.size #[.int .i64 F.width,.int .i64 F.regs,.slice g1 F.chans.length n1,.slice g2 F.sites.length n2,.slice g3 F.arrays.length n3,.slice g4 F.code.length n4]):=below_row ((Below.refl _ _).alloc (Nat.le_refl _) _) (Nat.le_refl _) _
 have HY9:Hid (_=_):=setRow_heap (W8.alloc (.cells #[.int .i64 0,.int .i64 0,.slice none 0 0,.slice none 0 0,.slice none 0 0,.slice none 0 0] 32)) W8.heap.size _ #[.int .i64 F.width,.int .i64 F.regs,.slice g1 F.chans.length n1,.slice g2 F.sites.length n2,.slice g3 F.arrays.length n3,.slice g4 F.code.length n4] _ _ HN.out
 have HB9:=hid (bcomp BZ.out hal)
 have HF9:=hid (HRD.out.keep hal)
 clear c0 c1 c2 c3 c4 HG HN hal BZ HRD
 generalize (W8.alloc (.cells #[.int .i64 0,.int .i64 0,.slice none 0 0,.slice none 0 0,.slice none 0 0,.slice none 0 0] 32)).setRow W8.heap.size #[.int .i64 F.width,.int .i64 F.regs,.slice g1 F.chans.length n1,.slice g2 F.sites.length n2,.slice g3 F.arrays.length n3,.slice g4 F.code.length n4]=W9 at *
 obtain⟨gb,hgb⟩:∃ gb,W8.heap.size=gb:=⟨_,rfl⟩
 rw[hgb] at HY9
 rw[hgb]
 clear hgb
 have HX9:=hid ((HB9.out.block pb (gsFlZ HX7.out)).trans HX7.out)
 have HO9:=hid ((HB9.out.block ob (gsFlZ HO7.out)).trans HO7.out)
 have HE9:=hid ((HB9.out.block fb (gsFlZ HY7.out)).trans HY7.out)
 have HF7b:=hid (HF7.out.keep HB9.out)
 have HBa:=hid (bcomp HB7.out HB9.out)
 have HR9:=hid (HR5.out.keep HBa.out)
 have HP9:=hid (HO5.out.keep HBa.out)
 have HL9:=hid (HL5.out.keep HBa.out)
 have HM9:=hid (HM5.out.keep HBa.out)
 have HBb:=hid (bcomp HB6.out HBa.out)
 clear HX7 HO7 HY7 HF7 HB7 HB9 HR5 HO5 HL5 HM5 HB6
 have HC1:=hid (equalFlatSelf F _ _ _ _ _ _ _ _ W9 HF7b.out HF9.out)
 have HC2:Hid (∀ z,Below W9.heap.size W9 z→Calls Tryd.prog 14 #[.agg #[.int .i64 P.width,.slice oc P.chans.length mc,.slice oa P.arrays.length ma,.slice of1 P.funcs.length mf,.slice om P.main.length mm],.agg #[.int .i64 P.width,.slice bc P.chans.length lc,.slice ba P.arrays.length la,.slice bf P.funcs.length lf,.slice bm P.main.length lm]] z fun e w'=>e=.returned (.bool true)∧Below z.heap.size z w'):=fun z hz=>by
  have h1:=equalProg P P _ _ _ _ _ _ _ _ z (HP9.out.keep hz) (HR9.out.keep hz)
  rw[eqProg_refl] at h1
  exact h1
 have HC3:Hid (∀ z,Below W9.heap.size W9 z→Calls Tryd.prog 15 #[] z fun e w'=>e=.returned (.bool true)∧Below z.heap.size z w'):=fun z hz=>awake25_any z (HL9.out.keep hz) (HM9.out.keep hz)
 have hnn:(E==E)=true:=by simp
 clear HR9 HP9 HL9 HM9 HF7b HF9
 have cx0:=row_of HX9.out 0 (.int .i64 P.width) rfl
 have cx1:=row_of HX9.out 1 (.slice bc P.chans.length lc) rfl
 have cx2:=row_of HX9.out 2 (.slice ba P.arrays.length la) rfl
 have cx3:=row_of HX9.out 3 (.slice bf P.funcs.length lf) rfl
 have cx4:=row_of HX9.out 4 (.slice bm P.main.length lm) rfl
 have dx0:=row_of HO9.out 0 (.int .i64 P.width) rfl
 have dx1:=row_of HO9.out 1 (.slice oc P.chans.length mc) rfl
 have dx2:=row_of HO9.out 2 (.slice oa P.arrays.length ma) rfl
 have dx3:=row_of HO9.out 3 (.slice of1 P.funcs.length mf) rfl
 have dx4:=row_of HO9.out 4 (.slice om P.main.length mm) rfl
 have ex0:=row_of HE9.out 0 (.int .i64 F.width) rfl
 have ex1:=row_of HE9.out 1 (.int .i64 F.regs) rfl
 have ex2:=row_of HE9.out 2 (.slice d1 F.chans.length k1) rfl
 have ex3:=row_of HE9.out 3 (.slice d2 F.sites.length k2) rfl
 have ex4:=row_of HE9.out 4 (.slice d3 F.arrays.length k3) rfl
 have ex5:=row_of HE9.out 5 (.slice d4 F.code.length k4) rfl
 have fx0:=row_of HY9.out 0 (.int .i64 F.width) rfl
 have fx1:=row_of HY9.out 1 (.int .i64 F.regs) rfl
 have fx2:=row_of HY9.out 2 (.slice g1 F.chans.length n1) rfl
 have fx3:=row_of HY9.out 3 (.slice g2 F.sites.length n2) rfl
 have fx4:=row_of HY9.out 4 (.slice g3 F.arrays.length n3) rfl
 have fx5:=row_of HY9.out 5 (.slice g4 F.code.length n4) rfl
 clear HX9 HO9 HE9 HY9
 go_wp2_with (first|(go_at_call 13;refine HC1.out.mono ?_;rintro e z1 ⟨rfl,hz1⟩;have B1:=hid hz1;have cy0:=cell_keep hz1 cx0;have cy1:=cell_keep hz1 cx1;have cy2:=cell_keep hz1 cx2;have cy3:=cell_keep hz1 cx3;have cy4:=cell_keep hz1 cx4;have dy0:=cell_keep hz1 dx0;have dy1:=cell_keep hz1 dx1;have dy2:=cell_keep hz1 dx2;have dy3:=cell_keep hz1 dx3;have dy4:=cell_keep hz1 dx4;clear hz1 cx0 cx1 cx2 cx3 cx4 dx0 dx1 dx2 dx3 dx4 ex0 ex1 ex2 ex3 ex4 ex5 fx0 fx1 fx2 fx3 fx4 fx5)|(go_at_call 14;refine (HC2.out _ B1.out).mono ?_;rintro e z2 ⟨rfl,hz2⟩;have B2:=hid (bcomp B1.out hz2);clear hz2 cy0 cy1 cy2 cy3 cy4 dy0 dy1 dy2 dy3 dy4)|(go_at_call 15;refine (HC3.out _ B2.out).mono ?_;rintro e z3 ⟨rfl,hz3⟩;have B3:=hid (bcomp B2.out hz3);clear hz3))
 go_ret
 exact⟨rfl,bcomp HBb.out B3.out⟩
open Go.ChangeMaps Go.MapKept Go.WideMaps
theorem rbody_any (m:RMk) (H:m.Ok):∀ n,n≤101→∀ f:Nat,f≤m.E.p.funcs.length→EnvF.Fits m.E.p n (fiR m.E.p f)→RBodyC m n f
 | 0,_,_,_,h=>h.elim
 | n+1,hn,f,hf,h=>rbody_step m H n (by omega) f hf h (fun g hg hfit=>rbody_any m H n (by omega) g (Nat.le_of_lt hg) (by
  obtain⟨x,hx⟩:∃ x,m.E.p.funcs[g]?=some x:=⟨_,lgFlZ hg⟩
  rw[fiR_fn hx];exact hfit))
theorem flatMakes_walk (p:ProgD) (cv av fv mv:Value) (w:World) (h:RdProg none w p cv av fv mv) (hL:Laid w) (hM:LaidM w) :
  Calls Tryd.prog 3 #[progV p cv av fv mv] w fun e w'=>e=.returned (.bool true)∧Below w.heap.size w w':=
 flatMakes_of (fun m H n hn f hf hfit=>rbody_any m H n hn f hf hfit) p cv av fv mv w h hL hM
end Go.Proofs.YtgcfdbhpophnjaaDoor
