/- The reference of layer 41: its instr takes an instruction. Conditions: the body's block and the taker's hold what is said. -/
import Derived.Test.YtfdinncgncbmfaaGreatDoorSrB
set_option linter.all false
set_option maxRecDepth 1000000
set_option maxHeartbeats 12800000
set_option linter.unusedVariables false
set_option linter.unusedSimpArgs false
namespace Go.Proofs.YtfdinncgncbmfaaGreatDoor
open Go.Maps (Keyed int_keyed)
open Go.WideShapes Go.ChangeMaps Go.MapKept Go.WideMaps Go.ChangeAt Go.RowKit Go.ChangeShapes
theorem results_cell_tmpR {P:Program} {fn:Func} {p u:Tmp} {ty:TypeId} (h:fn.results=#[.cell p ty,.tmp u]) (tmps:Array Value) (w:World) (g:Nat) (t:TypeId) (cs:Array Value) (fr:Nat × Nat) (d:TypeDesc)
  (hp:tmps.getD p undef=.pointer (some ⟨g,0,none⟩)) (hg:w.heap[g]?=some (.cells cs t fr))
  (hu:P.underlying ty=some d) (hd:(match d with|.struct _|.array _ _=>true|_=>false)=true) (hi:(P.info? ty).map (·.size)=some cs.size) :
  (results fn tmps).run P w=.ok (.tuple #[.agg cs,tmps.getD u undef]) w:=by
 have hp':tmps[p]?.getD undef=.pointer (some ⟨g,0,none⟩):=by simpa using hp
 simp [results,h,hp',asAddr,run_loadVar_row w g t ty cs fr d hg hu hd hi]
structure XR (w0 w:World) (g xb:Nat) (s:ByteArray) (k o:Int) (d nm:ByteArray) (args:List ArgD) (l:List UInt8):Prop where
 box:∃ av,w.heap[xb]?=some (.cells #[.int .u8 k,.int .u8 o,.string d,.string nm,av,.int .i64 0,.int .i64 0] 44 (0,0))∧w.ownsRow w0.heap.size 47 2 av args.length (args.flatMap argCells)
 res:w.heap[w0.heap.size]?=some (.cells #[.int .u8 0,.int .u8 0,.string ⟨#[]⟩,.string ⟨#[]⟩,.slice none 0 0,.int .i64 0,.int .i64 0] 44 (0,0))
 tk:TkL w g s l
 tr:Trn (fun k=>k=g) w0 w
 hx:w0.heap.size<xb
 hg:g<w0.heap.size
section
variable {w0 w w':World} {g xb:Nat} {s:ByteArray} {k o:Int} {d nm:ByteArray} {args:List ArgD} {l l':List UInt8}
theorem XR.took (h:XR w0 w g xb s k o d nm args l) (t:Trn (fun k=>k=g) w w') (ht:TkL w' g s l'):XR w0 w' g xb s k o d nm args l':=by
 obtain ⟨av,h1,h2⟩:=h.box
 have hx:=h.hx
 have hg:=h.hg
 exact ⟨⟨av,t.heap h1 (by omega),own_trn h2 t (fun b hb e=>by have:=own_ge h2 hb;have e':b=g:=e;omega)⟩,t.heap h.res (by omega),ht,h.tr.trans t,h.hx,h.hg⟩
theorem xr_put {i:Nat} {v:Value} {k' o':Int} {d' nm':ByteArray} (h:XR w0 w g xb s k o d nm args l) (he:∀ av,#[.int .u8 k,.int .u8 o,.string d,.string nm,av,.int .i64 0,.int .i64 0].setIfInBounds i v=#[.int .u8 k',.int .u8 o',.string d',.string nm',av,.int .i64 0,.int .i64 0]):XR w0 (w.setCell ⟨xb,i,none⟩ v) g xb s k' o' d' nm' args l:=by
 obtain ⟨av,h1,h2⟩:=h.box
 have hx:=h.hx
 have hg:=h.hg
 have hsc:=setCell_trn w ⟨xb,i,none⟩ v
 refine ⟨⟨av,?_,own_trn h2 hsc (fun b hb e=>not_own h2 h1 (by decide) (by have e':b=xb:=e;rw [← e'];exact hb))⟩,hsc.heap h.res (by show ¬ w0.heap.size=xb;omega),h.tk.at (heap_setCell_other w ⟨xb,i,none⟩ g v (by show ¬ g=xb;omega)),h.tr.step hsc (fun j hj e=>by have e':j=xb:=e;omega),h.hx,h.hg⟩
 rw [heap_setCell_same _ _ _ _ _ _ h1]
 try simp only [Nat.zero_add]
 rw [he av]
theorem XR.kind (h:XR w0 w g xb s k o d nm args l) (k':Int):XR w0 (w.setCell ⟨xb,0,none⟩ (.int .u8 k')) g xb s k' o d nm args l:=xr_put h fun _=>rfl
theorem XR.op (h:XR w0 w g xb s k o d nm args l) (o':Int):XR w0 (w.setCell ⟨xb,1,none⟩ (.int .u8 o')) g xb s k o' d nm args l:=xr_put h fun _=>rfl
theorem XR.dst (h:XR w0 w g xb s k o d nm args l) (d':ByteArray):XR w0 (w.setCell ⟨xb,2,none⟩ (.string d')) g xb s k o d' nm args l:=xr_put h fun _=>rfl
theorem XR.name (h:XR w0 w g xb s k o d nm args l) (n':ByteArray):XR w0 (w.setCell ⟨xb,3,none⟩ (.string n')) g xb s k o d n' args l:=xr_put h fun _=>rfl
theorem XR.putArgs (h:XR w0 w g xb s k o d nm args l) {v:Value} {A:List ArgD} (ho:w.ownsRow w0.heap.size 47 2 v A.length (A.flatMap argCells)):XR w0 (w.setCell ⟨xb,4,none⟩ v) g xb s k o d nm A l:=by
 obtain ⟨av,h1,h2⟩:=h.box
 have hx:=h.hx
 have hg:=h.hg
 have hsc:=setCell_trn w ⟨xb,4,none⟩ v
 refine ⟨⟨v,?_,own_trn ho hsc (fun b hb e=>not_own ho h1 (by decide) (by have e':b=xb:=e;rw [← e'];exact hb))⟩,hsc.heap h.res (by show ¬ w0.heap.size=xb;omega),h.tk.at (heap_setCell_other w ⟨xb,4,none⟩ g v (by show ¬ g=xb;omega)),h.tr.step hsc (fun j hj e=>by have e':j=xb:=e;omega),h.hx,h.hg⟩
 rw [heap_setCell_same _ _ _ _ _ _ h1]
 rfl
theorem XR.below (h:XR w0 w g xb s k o d nm args l) (b:Below w.heap.size w w'):XR w0 w' g xb s k o d nm args l:=h.took (Trn.of_below b) (h.tk.keep b)
end
theorem opds_len (par:Nat):∀ n l,(opdsS par n l).1.length=n
 | 0,l=>rfl
 | n+1,l=>by rw [opds_snoc];simp [opds_len par n l]
theorem arityR (a:Int) (h2:2≤a) (h20:a≤20) (w:World):Calls Tryz.prog 38 #[.int .u8 a] w fun e w'=>e=.returned (.tuple #[.int .i64 (if a≤3 then 1 else 2),.int .i64 0])∧w'=w:=by
 have t1:¬ 21<a:=by omega
 have t2:¬ a≤1:=by omega
 by_cases h3:a≤3
 ·rw [if_pos h3]
  go_enter Tryz.func38,Tryz.ntmps38
  go_wp2_with fail
  go_ret2
  exact ⟨rfl,rfl⟩
 ·rw [if_neg h3]
  have t3:(a == 21)=false:=by simp;omega
  go_enter Tryz.func38,Tryz.ntmps38
  go_wp2_with fail
  go_ret2
  exact ⟨rfl,rfl⟩
def MadeR (g:Nat) (s:ByteArray) (w:World) (x:InstrD × Int) (l:List UInt8) (e:Ending) (w':World):Prop:=
 ∃ av,e=.returned (.tuple #[.agg #[.int .u8 x.1.kind,.int .u8 x.1.op,.string x.1.dst,.string x.1.name,av,.int .i64 0,.int .i64 0],.int .i64 x.2])∧w'.ownsRow w.heap.size 47 2 av x.1.args.length (x.1.args.flatMap argCells)∧TkL w' g s l∧Trn (fun k=>k=g) w w'
theorem XR.done {w0 w:World} {g xb:Nat} {s:ByteArray} {k o:Int} {d nm:ByteArray} {args:List ArgD} {l:List UInt8} {cs:Array Value} (h:XR w0 w g xb s k o d nm args l):TkL (w.setRow w0.heap.size cs) g s l∧Trn (fun k=>k=g) w0 (w.setRow w0.heap.size cs)∧∀ v n (xs:List Value),w.ownsRow w0.heap.size 47 2 v n xs→(w.setRow w0.heap.size cs).ownsRow w0.heap.size 47 2 v n xs:=by
 have hg:=h.hg
 have hst:=setRow_trn (cs:=cs) h.res
 exact ⟨h.tk.at (setRow_other _ _ _ _ (by omega)),h.tr.step hst (fun i hi e=>by have e':i=w0.heap.size:=e;omega),fun v n xs ho=>own_trn ho hst (fun b hb e=>not_own ho h.res (by decide) (by have e':b=w0.heap.size:=e;rw [← e'];exact hb))⟩
theorem instrR_any (bb g:Nat) (s:ByteArray) (E:EnvS) (i:Nat) (l:List UInt8) (w:World) (hB:BdE w bb g E) (hT:TkL w g s l) (hsz:s.size≤5000) (hi:i≤90) :
  Calls Tryz.prog 15 #[.pointer (some ⟨bb,0,none⟩),.int .i64 i] w (MadeR g s w (instrS E i l).1 (instrS E i l).2):=by
 have hal:=(Below.refl w.heap.size w).alloc (Nat.le_refl _) (.cells #[.int .u8 0,.int .u8 0,.string ⟨#[]⟩,.string ⟨#[]⟩,.slice none 0 0,.int .i64 0,.int .i64 0] 44)
 have HAL:=Lib.hid hal
 have HR1:=Lib.hid (heap_alloc_new w (.cells #[.int .u8 0,.int .u8 0,.string ⟨#[]⟩,.string ⟨#[]⟩,.slice none 0 0,.int .i64 0,.int .i64 0] 44))
 have HS1:=Lib.hid (hT.keep hal)
 have HBD:=Lib.hid hB
 have hbl:bb<w.heap.size:=hB.lt
 have hgl:g<w.heap.size:=hT.lt
 clear hB hT hal
 go_enter Tryz.func15,Tryz.ntmps15
 go_upto_region 1 with fail
 generalize w.alloc (.cells #[.int .u8 0,.int .u8 0,.string ⟨#[]⟩,.string ⟨#[]⟩,.slice none 0 0,.int .i64 0,.int .i64 0] 44)=w1 at *
 obtain ⟨rb,hrb⟩:∃ x,w.heap.size=x:=⟨_,rfl⟩
 rw [hrb] at HR1 hbl hgl
 try rw [hrb]
 have HRB:=Lib.hid hrb
 obtain ⟨k,hv⟩:∃ x,(takeS 16 l).1=x:=⟨_,rfl⟩
 obtain ⟨l1,hr⟩:∃ x,(takeS 16 l).2=x:=⟨_,rfl⟩
 have hk:k<16:=by rw [← hv];exact take_small 16 l (by omega)
 have hc:=takeR_any g s l 16 w1 HS1.out hsz (by omega) (by omega)
 rw [hv,hr] at hc
 have HC:=Lib.hid hc
 have HINS:Hid (instrS E i l=makerS E i k l1):=by show _=_;unfold instrS;rw [bindS,hv,hr]
 obtain ⟨wd,ca,cc,aa,ac,fa,fc,mv,h1,-⟩:=(HBD.out.trn (Trn.of_below HAL.out)).box
 have b0:=row_of h1 0 (.pointer (some ⟨g,0,none⟩)) rfl
 clear hc hv hr h1 hrb
 go_upto_region 2 with (go_at_call 13;refine HC.out.mono ?_;rintro e w2 ⟨rfl,hs1,ht1⟩;have HS2:=Lib.hid hs1;have HT2:=Lib.hid ht1;clear hs1 ht1)
 clear b0 HC HS1
 have HR2:=Lib.hid (HT2.out.heap HR1.out (by omega))
 have HTW:Hid (Trn (fun k=>k=g) w w2):=(Trn.of_below HAL.out).trans HT2.out
 clear HR1 HT2
 obtain ⟨kr,hkr⟩:∃ x:Nat,(if (k=5 ∨ k=6)∧E.arrs=0 ∨ k=7∧E.calls=[] then 0 else k)=x:=⟨_,rfl⟩
 have HKD:=Lib.hid hkr
 have hkr16:kr<16:=by rw [← hkr];split <;> omega
 have HMK:Hid (makerS E i k l1=makerS E i kr l1):=by
  show _=_
  rw [← hkr]
  by_cases hc:(k=5 ∨ k=6)∧E.arrs=0 ∨ k=7∧E.calls=[]
  ·rw [if_pos hc]
   rcases hc with ⟨rfl|rfl,ha⟩|⟨rfl,hq⟩
   ·show loadS E l1=copiedS E l1;unfold loadS;rw [if_pos ha]
   ·show storeS E l1=copiedS E l1;unfold storeS;rw [if_pos ha]
   ·show callS E l1=copiedS E l1;unfold callS;rw [if_pos hq]
  ·rw [if_neg hc]
 have HA1:Hid (kr=5 ∨ kr=6→1≤E.arrs):=by
  show _→_
  intro h
  rw [← hkr] at h
  split at h
  ·omega
  ·rename_i hc
   rcases Nat.eq_zero_or_pos E.arrs with h0|h0
   ·exact absurd (.inl ⟨h,h0⟩) hc
   ·exact h0
 have HA7:Hid (kr=7→E.calls ≠ []):=by
  show _→_
  intro h hq
  rw [← hkr] at h
  split at h
  ·omega
  ·rename_i hc
   exact hc (.inr ⟨h,hq⟩)
 clear hkr
 obtain ⟨rmp,hrmp⟩:∃ x:Bool,decide ((k=5 ∨ k=6)∧E.arrs=0 ∨ k=7∧E.calls=[])=x:=⟨_,rfl⟩
 have HRM:=Lib.hid hrmp
 clear hrmp
 go_cut [41] from 16 to 40 (fun c41 wx=>c41=.bool rmp∧wx=w2)
 case first=>
  obtain ⟨wd,ca,cc,aa,ac,fa,fc,mv,h1,-⟩:=(HBD.out.trn HTW.out).box
  have b3:=row_of h1 3 _ rfl
  have b7:=row_of h1 7 _ rfl
  clear h1
  have hcl:E.calls=[] ∨ 0<E.calls.length:=by cases E.calls <;> simp
  obtain ⟨ea,hea⟩:∃ x,E.arrs=x:=⟨_,rfl⟩
  obtain ⟨ec,hec⟩:∃ x,E.calls.length=x:=⟨_,rfl⟩
  rw [hea] at b3
  rw [hec] at b7
  by_cases h56:k=5 ∨ k=6
  ·by_cases h0:ea=0
   ·have t0:((ea:Int) == 0)=true:=by simp;exact h0
    have hkk:rmp=true:=by rw [← HRM.out];exact decide_eq_true (.inl ⟨h56,by omega⟩)
    have HKK:=Lib.hid hkk
    have h5:((k:Int) == 5)=true ∨ (((k:Int) == 5)=false∧((k:Int) == 6)=true):=by
     rcases h56 with rfl|rfl
     ·left;rfl
     ·right;exact ⟨rfl,rfl⟩
    clear hkk h0 hea hec h56
    rcases h5 with h5|⟨h5,h6⟩
    all_goals
     go_wp2_with fail
     go_meet
     exact ⟨by rw [HKK.out],rfl⟩
   ·have t0:((ea:Int) == 0)=false:=by simp;exact h0
    have hkk:rmp=false:=by rw [← HRM.out];exact decide_eq_false (by omega)
    have HKK:=Lib.hid hkk
    have h7:((k:Int) == 7)=false:=by simp;omega
    have h5:((k:Int) == 5)=true ∨ (((k:Int) == 5)=false∧((k:Int) == 6)=true):=by
     rcases h56 with rfl|rfl
     ·left;rfl
     ·right;exact ⟨rfl,rfl⟩
    clear hkk h0 hea hec h56
    rcases h5 with h5|⟨h5,h6⟩
    all_goals
     go_wp2_with fail
     go_meet
     exact ⟨by rw [HKK.out],rfl⟩
  ·have h5:((k:Int) == 5)=false:=by simp;omega
   have h6:((k:Int) == 6)=false:=by simp;omega
   by_cases h7:k=7
   ·have h7':((k:Int) == 7)=true:=by simp;omega
    by_cases h0:ec=0
    ·have t0:((ec:Int) == 0)=true:=by simp;exact h0
     have hkk:rmp=true:=by rw [← HRM.out];exact decide_eq_true (.inr ⟨h7,by rcases hcl with h|h;exact h;omega⟩)
     have HKK:=Lib.hid hkk
     clear hkk h0 hea hec h56 h7
     go_wp2_with fail
     go_meet
     exact ⟨by rw [HKK.out],rfl⟩
    ·have t0:((ec:Int) == 0)=false:=by simp;exact h0
     have hkk:rmp=false:=by rw [← HRM.out];exact decide_eq_false (by rintro (⟨h,-⟩|⟨-,h⟩);exact h56 h;rw [h] at hec;simp at hec;omega)
     have HKK:=Lib.hid hkk
     clear hkk h0 hea hec h56 h7
     go_wp2_with fail
     go_meet
     exact ⟨by rw [HKK.out],rfl⟩
   ·have h7':((k:Int) == 7)=false:=by simp;omega
    have hkk:rmp=false:=by rw [← HRM.out];exact decide_eq_false (by omega)
    have HKK:=Lib.hid hkk
    clear hkk hea hec h56 h7
    go_wp2_with fail
    go_meet
    exact ⟨by rw [HKK.out],rfl⟩
 case rest=>
 obtain ⟨rfl,hwc⟩:=hcut
 subst hwc
 generalize wc=w2 at *
 go_upto_if 41 with fail
 go_cut [6] from 16 to 41 (fun c6 wx=>c6=.int .i64 (kr:Nat)∧wx=w2)
 case first=>
  cases rmp
  ·have hkk:kr=k:=by rw [← HKD.out,if_neg (of_decide_eq_false HRM.out)]
   have HKK:=Lib.hid hkk
   clear hkk
   go_wp2_with fail
   go_meet
   exact ⟨by rw [HKK.out],rfl⟩
  ·have hkk:kr=0:=by rw [← HKD.out,if_pos (of_decide_eq_true HRM.out)]
   have HKK:=Lib.hid hkk
   clear hkk
   go_wp2_with fail
   go_meet
   exact ⟨by rw [HKK.out];rfl,rfl⟩
 case rest=>
 obtain ⟨rfl,hwc⟩:=hcut
 subst hwc
 generalize wc=w2 at *
 go_upto_region 5 with fail
 have hal:=(Below.refl w2.heap.size w2).alloc (Nat.le_refl _) (.cells #[.int .u8 0,.int .u8 0,.string ⟨#[]⟩,.string ⟨#[]⟩,.slice none 0 0,.int .i64 0,.int .i64 0] 44)
 have hx4:=heap_alloc_new w2 (.cells #[.int .u8 0,.int .u8 0,.string ⟨#[]⟩,.string ⟨#[]⟩,.slice none 0 0,.int .i64 0,.int .i64 0] 44)
 have hwl:w.heap.size<w2.heap.size:=by have:=(Array.getElem?_eq_some_iff.1 HR2.out).1;have:=HRB.out;omega
 have H0:Hid (XR w (w2.alloc (.cells #[.int .u8 0,.int .u8 0,.string ⟨#[]⟩,.string ⟨#[]⟩,.slice none 0 0,.int .i64 0,.int .i64 0] 44)) g w2.heap.size s 0 0 ⟨#[]⟩ ⟨#[]⟩ [] l1):=⟨⟨_,hx4,World.ownsRow_nil _ _ _ _⟩,by rw [HRB.out];exact (hal.block rb (Array.getElem?_eq_some_iff.1 HR2.out).1).trans HR2.out,HS2.out.keep hal,HTW.out.trans (Trn.of_below hal),hwl,by have:=HRB.out;omega⟩
 clear hal hx4 HS2 HR2 HTW HKD hwl
 generalize w2.alloc (.cells #[.int .u8 0,.int .u8 0,.string ⟨#[]⟩,.string ⟨#[]⟩,.slice none 0 0,.int .i64 0,.int .i64 0] 44)=w4 at *
 generalize w2.heap.size=xb at *
 have h16:kr=0 ∨ kr=1 ∨ kr=2 ∨ kr=3 ∨ kr=4 ∨ kr=5 ∨ kr=6 ∨ kr=7 ∨ kr=8 ∨ kr=9 ∨ kr=10 ∨ kr=11 ∨ kr=12 ∨ kr=13 ∨ kr=14 ∨ kr=15:=by omega
 rcases h16 with hk16|hk16|hk16|hk16|hk16|hk16|hk16|hk16|hk16|hk16|hk16|hk16|hk16|hk16|hk16|hk16
 ·have hkr:kr=0:=hk16
  clear hk16
  have t0:((kr:Int) == 0)=true:=by simp;omega
  have HKR:=Lib.hid hkr
  clear hkr
  obtain ⟨d1,hd⟩:∃ x,(dstS l1).1=x:=⟨_,rfl⟩
  obtain ⟨l2,hl⟩:∃ x,(dstS l1).2=x:=⟨_,rfl⟩
  have hc:=dstR_any bb g s E l1 w4 (HBD.out.trn H0.out.tr) H0.out.tk hsz
  rw [hd,hl] at hc
  have HD1:=Lib.hid hc
  have HX1:Hid (dstS l1=(d1,l2)):=(by show _=_;rw [← hd,← hl])
  clear hc hd hl
  go_upto_region 11 with (go_at_call 36;refine HD1.out.mono ?_;rintro e z1 ⟨rfl,hs1,ht1⟩;have G1:=Lib.hid (H0.out.took ht1 hs1);clear hs1 ht1;obtain ⟨av,hbx,-⟩:=G1.out.box;have c0:=row_of hbx 0 (.int .u8 0) rfl;have f0:=frozen_of_row z1 xb 0 _ _ hbx;have c2:=row_of hbx 2 (.string ⟨#[]⟩) rfl;have f2:=frozen_of_row z1 xb 2 _ _ hbx;clear hbx)
  clear HD1
  have H1:=Lib.hid ((G1.out.kind 0).dst d1)
  generalize (z1.setCell ⟨xb,0,none⟩ (.int .u8 0)).setCell ⟨xb,2,none⟩ (.string d1)=w1 at *
  clear c0 f0 c2 f2
  obtain ⟨A2,hd⟩:∃ x,(opdsS E.par 1 l2).1=x:=⟨_,rfl⟩
  obtain ⟨l3,hl⟩:∃ x,(opdsS E.par 1 l2).2=x:=⟨_,rfl⟩
  have hc:=operandsR_any bb g s E 1 l2 w1 (HBD.out.trn H1.out.tr) H1.out.tk hsz (by omega)
  have hAl:=opds_len E.par 1 l2
  rw [hd,hl] at hc
  rw [hd] at hAl
  have HD2:=Lib.hid hc
  have HAL2:=Lib.hid hAl
  have HX2:Hid (opdsS E.par 1 l2=(A2,l3)):=(by show _=_;rw [← hd,← hl])
  have hwz:w.heap.size≤w1.heap.size:=H1.out.tr.size
  clear hc hd hl hAl
  go_upto_region 50 with (go_at_call 37;refine HD2.out.mono ?_;rintro e z2 ⟨v,rfl,ho,hs1,ht1⟩;have G2:=Lib.hid (H1.out.took ht1 hs1);have hou:=own_upS ho hwz;obtain ⟨xa2,xc2,rfl,-⟩:=own_read ho;have HO2:=Lib.hid hou;clear hs1 ht1 ho hou;obtain ⟨av,hbx,-⟩:=G2.out.box;have c4:=row_of hbx 4 (av) rfl;have f4:=frozen_of_row z2 xb 4 _ _ hbx;clear hbx)
  have HO2':Hid (z2.ownsRow w.heap.size 47 2 (.slice xa2 1 xc2) A2.length (A2.flatMap argCells)):=by show World.ownsRow _ _ _ _ _ _ _;rw [HAL2.out];exact HO2.out
  clear HD2 HO2
  have H2:=Lib.hid (G2.out.putArgs HO2'.out)
  generalize z2.setCell ⟨xb,4,none⟩ (.slice xa2 1 xc2)=w2 at *
  clear c4 f4
  obtain ⟨av,hbx,hbo⟩:=H2.out.box
  obtain ⟨ya,yc,rfl,-⟩:=own_read hbo
  have HBO:=Lib.hid hbo
  have HRS:=Lib.hid H2.out.res
  rw [HRB.out] at HRS
  have p0:=row_of hbx 0 _ rfl
  have p1:=row_of hbx 1 _ rfl
  have p2:=row_of hbx 2 _ rfl
  have p3:=row_of hbx 3 _ rfl
  have p4:=row_of hbx 4 _ rfl
  have p5:=row_of hbx 5 _ rfl
  have p6:=row_of hbx 6 _ rfl
  clear hbx hbo
  go_wp2_with (refine wpList_store_row rfl 44 (.tmp 4) (.tmp 203) rfl rb #[.int .u8 0,.int .u8 0,.string d1,.string ⟨#[]⟩,.slice ya A2.length yc,.int .i64 0,.int .i64 0] rfl rfl 44 #[.int .u8 0,.int .u8 0,.string ⟨#[]⟩,.string ⟨#[]⟩,.slice none 0 0,.int .i64 0,.int .i64 0] HRS.out (by as_aux_lemma=>kernel_rfl) (by as_aux_lemma=>kernel_rfl) (by as_aux_lemma=>kernel_rfl) ?_)
  try simp only [Act.put]
  have HRES:Hid (makerS E i k l1=(mkI 0 0 d1 ⟨#[]⟩ A2,l3)):=by
   show _=_
   rw [HMK.out]
   rw [HKR.out];show copiedS E l1=_;simp only [copiedS,bindS,HX1.out,HX2.out,pureS] <;> rfl
  obtain ⟨r1,r2,r3⟩:=H2.out.done (cs:=#[.int .u8 0,.int .u8 0,.string d1,.string ⟨#[]⟩,.slice ya A2.length yc,.int .i64 0,.int .i64 0])
  rw [HRB.out] at r1 r2
  have r4:=r3 _ _ _ HBO.out
  rw [HRB.out] at r4
  refine bodyPost_ret (results_cell_tmpR (P:=Tryz.prog) (fn:=Tryz.f15) rfl _ _ rb 44 #[.int .u8 0,.int .u8 0,.string d1,.string ⟨#[]⟩,.slice ya A2.length yc,.int .i64 0,.int .i64 0] (0,0) _ rfl (setRow_heap _ _ _ _ _ _ HRS.out) Tryz.underlying44 rfl (by as_aux_lemma=>kernel_rfl)) rfl ?_
  unfold MadeR
  rw [HINS.out,HRES.out,HRB.out]
  exact ⟨_,rfl,r4,r1,r2⟩
 ·have hkr:kr=1:=hk16
  clear hk16
  have t0:((kr:Int) == 0)=false:=by simp;omega
  have t1:((kr:Int) == 1)=true:=by simp;omega
  have HKR:=Lib.hid hkr
  clear hkr
  obtain ⟨d1,hd⟩:∃ x,(dstS l1).1=x:=⟨_,rfl⟩
  obtain ⟨l2,hl⟩:∃ x,(dstS l1).2=x:=⟨_,rfl⟩
  have hc:=dstR_any bb g s E l1 w4 (HBD.out.trn H0.out.tr) H0.out.tk hsz
  rw [hd,hl] at hc
  have HD1:=Lib.hid hc
  have HX1:Hid (dstS l1=(d1,l2)):=(by show _=_;rw [← hd,← hl])
  clear hc hd hl
  go_upto_region 17 with (go_at_call 36;refine HD1.out.mono ?_;rintro e z1 ⟨rfl,hs1,ht1⟩;have G1:=Lib.hid (H0.out.took ht1 hs1);clear hs1 ht1;obtain ⟨av,hbx,-⟩:=G1.out.box;have c0:=row_of hbx 0 (.int .u8 0) rfl;have f0:=frozen_of_row z1 xb 0 _ _ hbx;have c2:=row_of hbx 2 (.string ⟨#[]⟩) rfl;have f2:=frozen_of_row z1 xb 2 _ _ hbx;clear hbx)
  clear HD1
  have H1:=Lib.hid ((G1.out.kind 1).dst d1)
  generalize (z1.setCell ⟨xb,0,none⟩ (.int .u8 1)).setCell ⟨xb,2,none⟩ (.string d1)=w1 at *
  clear c0 f0 c2 f2
  obtain ⟨v2,hd⟩:∃ x,(takeS 19 l2).1=x:=⟨_,rfl⟩
  obtain ⟨l3,hl⟩:∃ x,(takeS 19 l2).2=x:=⟨_,rfl⟩
  have hvl2:v2<19:=by rw [← hd];exact take_small 19 l2 (by omega)
  have hc:=takeR_any g s l2 19 w1 H1.out.tk hsz (by omega) (by omega)
  rw [hd,hl] at hc
  have HX2:Hid (takeS 19 l2=(v2,l3)):=(by show _=_;rw [← hd,← hl])
  have HD2:=Lib.hid hc
  obtain ⟨wd,ca,cc,aa,ac,fa,fc,mv,h1,-⟩:=(HBD.out.trn H1.out.tr).box
  have b0:=row_of h1 0 (.pointer (some ⟨g,0,none⟩)) rfl
  have hw1:IntKind.u8.wrap (v2:Int)=(v2:Int):=by rw [IntKind.wrap_u8];exact Int.emod_eq_of_lt (by omega) (by omega)
  have hw2:IntKind.u8.wrap (2+(v2:Int))=2+(v2:Int):=by rw [IntKind.wrap_u8];exact Int.emod_eq_of_lt (by omega) (by omega)
  clear hc hd hl h1
  go_upto_region 18 with (go_at_call 13;refine HD2.out.mono ?_;rintro e z2 ⟨rfl,hs1,ht1⟩;have G2:=Lib.hid (H1.out.took ht1 hs1);clear hs1 ht1;obtain ⟨av,hbx,-⟩:=G2.out.box;have c1:=row_of hbx 1 (.int .u8 0) rfl;have f1:=frozen_of_row z2 xb 1 _ _ hbx;clear hbx)
  clear HD2 b0 hw1 hw2
  have H2:=Lib.hid (G2.out.op (2+(v2:Int)))
  generalize z2.setCell ⟨xb,1,none⟩ (.int .u8 (2+(v2:Int)))=w2 at *
  clear c1 f1
  have HAR:=Lib.hid (arityR (2+(v2:Int)) (by omega) (by omega) w2)
  obtain ⟨cnt,hcn⟩:∃ c:Nat,(if 2+v2 > 3 then 2 else 1)=c:=⟨_,rfl⟩
  have hcnt:cnt≤90:=by rw [← hcn];split <;> omega
  have HCNT:=Lib.hid hcn
  have HCZ:Hid ((if 2+(v2:Int)≤3 then (1:Int) else 2)=(cnt:Int)):=by
   show _=_
   rw [← hcn]
   by_cases h:2+v2 > 3
   ·rw [if_neg (by omega),if_pos h];rfl
   ·rw [if_pos (by omega),if_neg h];rfl
  clear hcn
  obtain ⟨av,hbx,-⟩:=H2.out.box
  have c1:=row_of hbx 1 (.int .u8 (2+(v2:Int))) rfl
  clear hbx
  go_upto_region 19 with (go_at_call 38;refine HAR.out.mono ?_;rintro e z ⟨rfl,hz⟩;subst z;rw [HCZ.out])
  clear c1 HAR
  obtain ⟨A3,hd⟩:∃ x,(opdsS E.par cnt l3).1=x:=⟨_,rfl⟩
  obtain ⟨l4,hl⟩:∃ x,(opdsS E.par cnt l3).2=x:=⟨_,rfl⟩
  have hc:=operandsR_any bb g s E cnt l3 w2 (HBD.out.trn H2.out.tr) H2.out.tk hsz hcnt
  have hAl:=opds_len E.par cnt l3
  rw [hd,hl] at hc
  rw [hd] at hAl
  have HD3:=Lib.hid hc
  have HAL3:=Lib.hid hAl
  have HX3:Hid (opdsS E.par cnt l3=(A3,l4)):=(by show _=_;rw [← hd,← hl])
  have hwz:w.heap.size≤w2.heap.size:=H2.out.tr.size
  clear hc hd hl hAl
  go_upto_region 50 with (go_at_call 37;refine HD3.out.mono ?_;rintro e z3 ⟨v,rfl,ho,hs1,ht1⟩;have G3:=Lib.hid (H2.out.took ht1 hs1);have hou:=own_upS ho hwz;obtain ⟨xa3,xc3,rfl,-⟩:=own_read ho;have HO3:=Lib.hid hou;clear hs1 ht1 ho hou;obtain ⟨av,hbx,-⟩:=G3.out.box;have c4:=row_of hbx 4 (av) rfl;have f4:=frozen_of_row z3 xb 4 _ _ hbx;clear hbx)
  have HO3':Hid (z3.ownsRow w.heap.size 47 2 (.slice xa3 cnt xc3) A3.length (A3.flatMap argCells)):=by show World.ownsRow _ _ _ _ _ _ _;rw [HAL3.out];exact HO3.out
  clear HD3 HO3
  have H3:=Lib.hid (G3.out.putArgs HO3'.out)
  generalize z3.setCell ⟨xb,4,none⟩ (.slice xa3 cnt xc3)=w3 at *
  clear c4 f4
  obtain ⟨av,hbx,hbo⟩:=H3.out.box
  obtain ⟨ya,yc,rfl,-⟩:=own_read hbo
  have HBO:=Lib.hid hbo
  have HRS:=Lib.hid H3.out.res
  rw [HRB.out] at HRS
  have p0:=row_of hbx 0 _ rfl
  have p1:=row_of hbx 1 _ rfl
  have p2:=row_of hbx 2 _ rfl
  have p3:=row_of hbx 3 _ rfl
  have p4:=row_of hbx 4 _ rfl
  have p5:=row_of hbx 5 _ rfl
  have p6:=row_of hbx 6 _ rfl
  clear hbx hbo
  go_wp2_with (refine wpList_store_row rfl 44 (.tmp 4) (.tmp 203) rfl rb #[.int .u8 1,.int .u8 (2+(v2:Int)),.string d1,.string ⟨#[]⟩,.slice ya A3.length yc,.int .i64 0,.int .i64 0] rfl rfl 44 #[.int .u8 0,.int .u8 0,.string ⟨#[]⟩,.string ⟨#[]⟩,.slice none 0 0,.int .i64 0,.int .i64 0] HRS.out (by as_aux_lemma=>kernel_rfl) (by as_aux_lemma=>kernel_rfl) (by as_aux_lemma=>kernel_rfl) ?_)
  try simp only [Act.put]
  have HRES:Hid (makerS E i k l1=(mkI 1 (2+(v2:Int)) d1 ⟨#[]⟩ A3,l4)):=by
   show _=_
   rw [HMK.out]
   rw [HKR.out];show opS E l1=_;simp only [opS,bindS,HCNT.out,HX1.out,HX2.out,HX3.out,pureS,mkI];push_cast;rfl
  obtain ⟨r1,r2,r3⟩:=H3.out.done (cs:=#[.int .u8 1,.int .u8 (2+(v2:Int)),.string d1,.string ⟨#[]⟩,.slice ya A3.length yc,.int .i64 0,.int .i64 0])
  rw [HRB.out] at r1 r2
  have r4:=r3 _ _ _ HBO.out
  rw [HRB.out] at r4
  refine bodyPost_ret (results_cell_tmpR (P:=Tryz.prog) (fn:=Tryz.f15) rfl _ _ rb 44 #[.int .u8 1,.int .u8 (2+(v2:Int)),.string d1,.string ⟨#[]⟩,.slice ya A3.length yc,.int .i64 0,.int .i64 0] (0,0) _ rfl (setRow_heap _ _ _ _ _ _ HRS.out) Tryz.underlying44 rfl (by as_aux_lemma=>kernel_rfl)) rfl ?_
  unfold MadeR
  rw [HINS.out,HRES.out,HRB.out]
  exact ⟨_,rfl,r4,r1,r2⟩
 ·have hkr:kr=2:=hk16
  clear hk16
  have t0:((kr:Int) == 0)=false:=by simp;omega
  have t1:((kr:Int) == 1)=false:=by simp;omega
  have t2:((kr:Int) == 2)=true:=by simp;omega
  have HKR:=Lib.hid hkr
  clear hkr
  obtain ⟨d1,hd⟩:∃ x,(dstS l1).1=x:=⟨_,rfl⟩
  obtain ⟨l2,hl⟩:∃ x,(dstS l1).2=x:=⟨_,rfl⟩
  have hc:=dstR_any bb g s E l1 w4 (HBD.out.trn H0.out.tr) H0.out.tk hsz
  rw [hd,hl] at hc
  have HD1:=Lib.hid hc
  have HX1:Hid (dstS l1=(d1,l2)):=(by show _=_;rw [← hd,← hl])
  clear hc hd hl
  go_upto_region 17 with (go_at_call 36;refine HD1.out.mono ?_;rintro e z1 ⟨rfl,hs1,ht1⟩;have G1:=Lib.hid (H0.out.took ht1 hs1);clear hs1 ht1;obtain ⟨av,hbx,-⟩:=G1.out.box;have c0:=row_of hbx 0 (.int .u8 0) rfl;have f0:=frozen_of_row z1 xb 0 _ _ hbx;have c2:=row_of hbx 2 (.string ⟨#[]⟩) rfl;have f2:=frozen_of_row z1 xb 2 _ _ hbx;clear hbx)
  clear HD1
  have H1:=Lib.hid ((G1.out.kind 1).dst d1)
  generalize (z1.setCell ⟨xb,0,none⟩ (.int .u8 1)).setCell ⟨xb,2,none⟩ (.string d1)=w1 at *
  clear c0 f0 c2 f2
  obtain ⟨v2,hd⟩:∃ x,(takeS 19 l2).1=x:=⟨_,rfl⟩
  obtain ⟨l3,hl⟩:∃ x,(takeS 19 l2).2=x:=⟨_,rfl⟩
  have hvl2:v2<19:=by rw [← hd];exact take_small 19 l2 (by omega)
  have hc:=takeR_any g s l2 19 w1 H1.out.tk hsz (by omega) (by omega)
  rw [hd,hl] at hc
  have HX2:Hid (takeS 19 l2=(v2,l3)):=(by show _=_;rw [← hd,← hl])
  have HD2:=Lib.hid hc
  obtain ⟨wd,ca,cc,aa,ac,fa,fc,mv,h1,-⟩:=(HBD.out.trn H1.out.tr).box
  have b0:=row_of h1 0 (.pointer (some ⟨g,0,none⟩)) rfl
  have hw1:IntKind.u8.wrap (v2:Int)=(v2:Int):=by rw [IntKind.wrap_u8];exact Int.emod_eq_of_lt (by omega) (by omega)
  have hw2:IntKind.u8.wrap (2+(v2:Int))=2+(v2:Int):=by rw [IntKind.wrap_u8];exact Int.emod_eq_of_lt (by omega) (by omega)
  clear hc hd hl h1
  go_upto_region 18 with (go_at_call 13;refine HD2.out.mono ?_;rintro e z2 ⟨rfl,hs1,ht1⟩;have G2:=Lib.hid (H1.out.took ht1 hs1);clear hs1 ht1;obtain ⟨av,hbx,-⟩:=G2.out.box;have c1:=row_of hbx 1 (.int .u8 0) rfl;have f1:=frozen_of_row z2 xb 1 _ _ hbx;clear hbx)
  clear HD2 b0 hw1 hw2
  have H2:=Lib.hid (G2.out.op (2+(v2:Int)))
  generalize z2.setCell ⟨xb,1,none⟩ (.int .u8 (2+(v2:Int)))=w2 at *
  clear c1 f1
  have HAR:=Lib.hid (arityR (2+(v2:Int)) (by omega) (by omega) w2)
  obtain ⟨cnt,hcn⟩:∃ c:Nat,(if 2+v2 > 3 then 2 else 1)=c:=⟨_,rfl⟩
  have hcnt:cnt≤90:=by rw [← hcn];split <;> omega
  have HCNT:=Lib.hid hcn
  have HCZ:Hid ((if 2+(v2:Int)≤3 then (1:Int) else 2)=(cnt:Int)):=by
   show _=_
   rw [← hcn]
   by_cases h:2+v2 > 3
   ·rw [if_neg (by omega),if_pos h];rfl
   ·rw [if_pos (by omega),if_neg h];rfl
  clear hcn
  obtain ⟨av,hbx,-⟩:=H2.out.box
  have c1:=row_of hbx 1 (.int .u8 (2+(v2:Int))) rfl
  clear hbx
  go_upto_region 19 with (go_at_call 38;refine HAR.out.mono ?_;rintro e z ⟨rfl,hz⟩;subst z;rw [HCZ.out])
  clear c1 HAR
  obtain ⟨A3,hd⟩:∃ x,(opdsS E.par cnt l3).1=x:=⟨_,rfl⟩
  obtain ⟨l4,hl⟩:∃ x,(opdsS E.par cnt l3).2=x:=⟨_,rfl⟩
  have hc:=operandsR_any bb g s E cnt l3 w2 (HBD.out.trn H2.out.tr) H2.out.tk hsz hcnt
  have hAl:=opds_len E.par cnt l3
  rw [hd,hl] at hc
  rw [hd] at hAl
  have HD3:=Lib.hid hc
  have HAL3:=Lib.hid hAl
  have HX3:Hid (opdsS E.par cnt l3=(A3,l4)):=(by show _=_;rw [← hd,← hl])
  have hwz:w.heap.size≤w2.heap.size:=H2.out.tr.size
  clear hc hd hl hAl
  go_upto_region 50 with (go_at_call 37;refine HD3.out.mono ?_;rintro e z3 ⟨v,rfl,ho,hs1,ht1⟩;have G3:=Lib.hid (H2.out.took ht1 hs1);have hou:=own_upS ho hwz;obtain ⟨xa3,xc3,rfl,-⟩:=own_read ho;have HO3:=Lib.hid hou;clear hs1 ht1 ho hou;obtain ⟨av,hbx,-⟩:=G3.out.box;have c4:=row_of hbx 4 (av) rfl;have f4:=frozen_of_row z3 xb 4 _ _ hbx;clear hbx)
  have HO3':Hid (z3.ownsRow w.heap.size 47 2 (.slice xa3 cnt xc3) A3.length (A3.flatMap argCells)):=by show World.ownsRow _ _ _ _ _ _ _;rw [HAL3.out];exact HO3.out
  clear HD3 HO3
  have H3:=Lib.hid (G3.out.putArgs HO3'.out)
  generalize z3.setCell ⟨xb,4,none⟩ (.slice xa3 cnt xc3)=w3 at *
  clear c4 f4
  obtain ⟨av,hbx,hbo⟩:=H3.out.box
  obtain ⟨ya,yc,rfl,-⟩:=own_read hbo
  have HBO:=Lib.hid hbo
  have HRS:=Lib.hid H3.out.res
  rw [HRB.out] at HRS
  have p0:=row_of hbx 0 _ rfl
  have p1:=row_of hbx 1 _ rfl
  have p2:=row_of hbx 2 _ rfl
  have p3:=row_of hbx 3 _ rfl
  have p4:=row_of hbx 4 _ rfl
  have p5:=row_of hbx 5 _ rfl
  have p6:=row_of hbx 6 _ rfl
  clear hbx hbo
  go_wp2_with (refine wpList_store_row rfl 44 (.tmp 4) (.tmp 203) rfl rb #[.int .u8 1,.int .u8 (2+(v2:Int)),.string d1,.string ⟨#[]⟩,.slice ya A3.length yc,.int .i64 0,.int .i64 0] rfl rfl 44 #[.int .u8 0,.int .u8 0,.string ⟨#[]⟩,.string ⟨#[]⟩,.slice none 0 0,.int .i64 0,.int .i64 0] HRS.out (by as_aux_lemma=>kernel_rfl) (by as_aux_lemma=>kernel_rfl) (by as_aux_lemma=>kernel_rfl) ?_)
  try simp only [Act.put]
  have HRES:Hid (makerS E i k l1=(mkI 1 (2+(v2:Int)) d1 ⟨#[]⟩ A3,l4)):=by
   show _=_
   rw [HMK.out]
   rw [HKR.out];show opS E l1=_;simp only [opS,bindS,HCNT.out,HX1.out,HX2.out,HX3.out,pureS,mkI];push_cast;rfl
  obtain ⟨r1,r2,r3⟩:=H3.out.done (cs:=#[.int .u8 1,.int .u8 (2+(v2:Int)),.string d1,.string ⟨#[]⟩,.slice ya A3.length yc,.int .i64 0,.int .i64 0])
  rw [HRB.out] at r1 r2
  have r4:=r3 _ _ _ HBO.out
  rw [HRB.out] at r4
  refine bodyPost_ret (results_cell_tmpR (P:=Tryz.prog) (fn:=Tryz.f15) rfl _ _ rb 44 #[.int .u8 1,.int .u8 (2+(v2:Int)),.string d1,.string ⟨#[]⟩,.slice ya A3.length yc,.int .i64 0,.int .i64 0] (0,0) _ rfl (setRow_heap _ _ _ _ _ _ HRS.out) Tryz.underlying44 rfl (by as_aux_lemma=>kernel_rfl)) rfl ?_
  unfold MadeR
  rw [HINS.out,HRES.out,HRB.out]
  exact ⟨_,rfl,r4,r1,r2⟩
 ·have hkr:kr=3:=hk16
  clear hk16
  have t0:((kr:Int) == 0)=false:=by simp;omega
  have t1:((kr:Int) == 1)=false:=by simp;omega
  have t2:((kr:Int) == 2)=false:=by simp;omega
  have t3:((kr:Int) == 3)=true:=by simp;omega
  have HKR:=Lib.hid hkr
  clear hkr
  obtain ⟨d1,hd⟩:∃ x,(dstS l1).1=x:=⟨_,rfl⟩
  obtain ⟨l2,hl⟩:∃ x,(dstS l1).2=x:=⟨_,rfl⟩
  have hc:=dstR_any bb g s E l1 w4 (HBD.out.trn H0.out.tr) H0.out.tk hsz
  rw [hd,hl] at hc
  have HD1:=Lib.hid hc
  have HX1:Hid (dstS l1=(d1,l2)):=(by show _=_;rw [← hd,← hl])
  clear hc hd hl
  go_upto_region 17 with (go_at_call 36;refine HD1.out.mono ?_;rintro e z1 ⟨rfl,hs1,ht1⟩;have G1:=Lib.hid (H0.out.took ht1 hs1);clear hs1 ht1;obtain ⟨av,hbx,-⟩:=G1.out.box;have c0:=row_of hbx 0 (.int .u8 0) rfl;have f0:=frozen_of_row z1 xb 0 _ _ hbx;have c2:=row_of hbx 2 (.string ⟨#[]⟩) rfl;have f2:=frozen_of_row z1 xb 2 _ _ hbx;clear hbx)
  clear HD1
  have H1:=Lib.hid ((G1.out.kind 1).dst d1)
  generalize (z1.setCell ⟨xb,0,none⟩ (.int .u8 1)).setCell ⟨xb,2,none⟩ (.string d1)=w1 at *
  clear c0 f0 c2 f2
  obtain ⟨v2,hd⟩:∃ x,(takeS 19 l2).1=x:=⟨_,rfl⟩
  obtain ⟨l3,hl⟩:∃ x,(takeS 19 l2).2=x:=⟨_,rfl⟩
  have hvl2:v2<19:=by rw [← hd];exact take_small 19 l2 (by omega)
  have hc:=takeR_any g s l2 19 w1 H1.out.tk hsz (by omega) (by omega)
  rw [hd,hl] at hc
  have HX2:Hid (takeS 19 l2=(v2,l3)):=(by show _=_;rw [← hd,← hl])
  have HD2:=Lib.hid hc
  obtain ⟨wd,ca,cc,aa,ac,fa,fc,mv,h1,-⟩:=(HBD.out.trn H1.out.tr).box
  have b0:=row_of h1 0 (.pointer (some ⟨g,0,none⟩)) rfl
  have hw1:IntKind.u8.wrap (v2:Int)=(v2:Int):=by rw [IntKind.wrap_u8];exact Int.emod_eq_of_lt (by omega) (by omega)
  have hw2:IntKind.u8.wrap (2+(v2:Int))=2+(v2:Int):=by rw [IntKind.wrap_u8];exact Int.emod_eq_of_lt (by omega) (by omega)
  clear hc hd hl h1
  go_upto_region 18 with (go_at_call 13;refine HD2.out.mono ?_;rintro e z2 ⟨rfl,hs1,ht1⟩;have G2:=Lib.hid (H1.out.took ht1 hs1);clear hs1 ht1;obtain ⟨av,hbx,-⟩:=G2.out.box;have c1:=row_of hbx 1 (.int .u8 0) rfl;have f1:=frozen_of_row z2 xb 1 _ _ hbx;clear hbx)
  clear HD2 b0 hw1 hw2
  have H2:=Lib.hid (G2.out.op (2+(v2:Int)))
  generalize z2.setCell ⟨xb,1,none⟩ (.int .u8 (2+(v2:Int)))=w2 at *
  clear c1 f1
  have HAR:=Lib.hid (arityR (2+(v2:Int)) (by omega) (by omega) w2)
  obtain ⟨cnt,hcn⟩:∃ c:Nat,(if 2+v2 > 3 then 2 else 1)=c:=⟨_,rfl⟩
  have hcnt:cnt≤90:=by rw [← hcn];split <;> omega
  have HCNT:=Lib.hid hcn
  have HCZ:Hid ((if 2+(v2:Int)≤3 then (1:Int) else 2)=(cnt:Int)):=by
   show _=_
   rw [← hcn]
   by_cases h:2+v2 > 3
   ·rw [if_neg (by omega),if_pos h];rfl
   ·rw [if_pos (by omega),if_neg h];rfl
  clear hcn
  obtain ⟨av,hbx,-⟩:=H2.out.box
  have c1:=row_of hbx 1 (.int .u8 (2+(v2:Int))) rfl
  clear hbx
  go_upto_region 19 with (go_at_call 38;refine HAR.out.mono ?_;rintro e z ⟨rfl,hz⟩;subst z;rw [HCZ.out])
  clear c1 HAR
  obtain ⟨A3,hd⟩:∃ x,(opdsS E.par cnt l3).1=x:=⟨_,rfl⟩
  obtain ⟨l4,hl⟩:∃ x,(opdsS E.par cnt l3).2=x:=⟨_,rfl⟩
  have hc:=operandsR_any bb g s E cnt l3 w2 (HBD.out.trn H2.out.tr) H2.out.tk hsz hcnt
  have hAl:=opds_len E.par cnt l3
  rw [hd,hl] at hc
  rw [hd] at hAl
  have HD3:=Lib.hid hc
  have HAL3:=Lib.hid hAl
  have HX3:Hid (opdsS E.par cnt l3=(A3,l4)):=(by show _=_;rw [← hd,← hl])
  have hwz:w.heap.size≤w2.heap.size:=H2.out.tr.size
  clear hc hd hl hAl
  go_upto_region 50 with (go_at_call 37;refine HD3.out.mono ?_;rintro e z3 ⟨v,rfl,ho,hs1,ht1⟩;have G3:=Lib.hid (H2.out.took ht1 hs1);have hou:=own_upS ho hwz;obtain ⟨xa3,xc3,rfl,-⟩:=own_read ho;have HO3:=Lib.hid hou;clear hs1 ht1 ho hou;obtain ⟨av,hbx,-⟩:=G3.out.box;have c4:=row_of hbx 4 (av) rfl;have f4:=frozen_of_row z3 xb 4 _ _ hbx;clear hbx)
  have HO3':Hid (z3.ownsRow w.heap.size 47 2 (.slice xa3 cnt xc3) A3.length (A3.flatMap argCells)):=by show World.ownsRow _ _ _ _ _ _ _;rw [HAL3.out];exact HO3.out
  clear HD3 HO3
  have H3:=Lib.hid (G3.out.putArgs HO3'.out)
  generalize z3.setCell ⟨xb,4,none⟩ (.slice xa3 cnt xc3)=w3 at *
  clear c4 f4
  obtain ⟨av,hbx,hbo⟩:=H3.out.box
  obtain ⟨ya,yc,rfl,-⟩:=own_read hbo
  have HBO:=Lib.hid hbo
  have HRS:=Lib.hid H3.out.res
  rw [HRB.out] at HRS
  have p0:=row_of hbx 0 _ rfl
  have p1:=row_of hbx 1 _ rfl
  have p2:=row_of hbx 2 _ rfl
  have p3:=row_of hbx 3 _ rfl
  have p4:=row_of hbx 4 _ rfl
  have p5:=row_of hbx 5 _ rfl
  have p6:=row_of hbx 6 _ rfl
  clear hbx hbo
  go_wp2_with (refine wpList_store_row rfl 44 (.tmp 4) (.tmp 203) rfl rb #[.int .u8 1,.int .u8 (2+(v2:Int)),.string d1,.string ⟨#[]⟩,.slice ya A3.length yc,.int .i64 0,.int .i64 0] rfl rfl 44 #[.int .u8 0,.int .u8 0,.string ⟨#[]⟩,.string ⟨#[]⟩,.slice none 0 0,.int .i64 0,.int .i64 0] HRS.out (by as_aux_lemma=>kernel_rfl) (by as_aux_lemma=>kernel_rfl) (by as_aux_lemma=>kernel_rfl) ?_)
  try simp only [Act.put]
  have HRES:Hid (makerS E i k l1=(mkI 1 (2+(v2:Int)) d1 ⟨#[]⟩ A3,l4)):=by
   show _=_
   rw [HMK.out]
   rw [HKR.out];show opS E l1=_;simp only [opS,bindS,HCNT.out,HX1.out,HX2.out,HX3.out,pureS,mkI];push_cast;rfl
  obtain ⟨r1,r2,r3⟩:=H3.out.done (cs:=#[.int .u8 1,.int .u8 (2+(v2:Int)),.string d1,.string ⟨#[]⟩,.slice ya A3.length yc,.int .i64 0,.int .i64 0])
  rw [HRB.out] at r1 r2
  have r4:=r3 _ _ _ HBO.out
  rw [HRB.out] at r4
  refine bodyPost_ret (results_cell_tmpR (P:=Tryz.prog) (fn:=Tryz.f15) rfl _ _ rb 44 #[.int .u8 1,.int .u8 (2+(v2:Int)),.string d1,.string ⟨#[]⟩,.slice ya A3.length yc,.int .i64 0,.int .i64 0] (0,0) _ rfl (setRow_heap _ _ _ _ _ _ HRS.out) Tryz.underlying44 rfl (by as_aux_lemma=>kernel_rfl)) rfl ?_
  unfold MadeR
  rw [HINS.out,HRES.out,HRB.out]
  exact ⟨_,rfl,r4,r1,r2⟩
 ·have hkr:kr=4:=hk16
  clear hk16
  have t0:((kr:Int) == 0)=false:=by simp;omega
  have t1:((kr:Int) == 1)=false:=by simp;omega
  have t2:((kr:Int) == 2)=false:=by simp;omega
  have t3:((kr:Int) == 3)=false:=by simp;omega
  have t4:((kr:Int) == 4)=true:=by simp;omega
  have HKR:=Lib.hid hkr
  clear hkr
  obtain ⟨d1,hd⟩:∃ x,(dstS l1).1=x:=⟨_,rfl⟩
  obtain ⟨l2,hl⟩:∃ x,(dstS l1).2=x:=⟨_,rfl⟩
  have hc:=dstR_any bb g s E l1 w4 (HBD.out.trn H0.out.tr) H0.out.tk hsz
  rw [hd,hl] at hc
  have HD1:=Lib.hid hc
  have HX1:Hid (dstS l1=(d1,l2)):=(by show _=_;rw [← hd,← hl])
  clear hc hd hl
  go_upto_region 17 with (go_at_call 36;refine HD1.out.mono ?_;rintro e z1 ⟨rfl,hs1,ht1⟩;have G1:=Lib.hid (H0.out.took ht1 hs1);clear hs1 ht1;obtain ⟨av,hbx,-⟩:=G1.out.box;have c0:=row_of hbx 0 (.int .u8 0) rfl;have f0:=frozen_of_row z1 xb 0 _ _ hbx;have c2:=row_of hbx 2 (.string ⟨#[]⟩) rfl;have f2:=frozen_of_row z1 xb 2 _ _ hbx;clear hbx)
  clear HD1
  have H1:=Lib.hid ((G1.out.kind 1).dst d1)
  generalize (z1.setCell ⟨xb,0,none⟩ (.int .u8 1)).setCell ⟨xb,2,none⟩ (.string d1)=w1 at *
  clear c0 f0 c2 f2
  obtain ⟨v2,hd⟩:∃ x,(takeS 19 l2).1=x:=⟨_,rfl⟩
  obtain ⟨l3,hl⟩:∃ x,(takeS 19 l2).2=x:=⟨_,rfl⟩
  have hvl2:v2<19:=by rw [← hd];exact take_small 19 l2 (by omega)
  have hc:=takeR_any g s l2 19 w1 H1.out.tk hsz (by omega) (by omega)
  rw [hd,hl] at hc
  have HX2:Hid (takeS 19 l2=(v2,l3)):=(by show _=_;rw [← hd,← hl])
  have HD2:=Lib.hid hc
  obtain ⟨wd,ca,cc,aa,ac,fa,fc,mv,h1,-⟩:=(HBD.out.trn H1.out.tr).box
  have b0:=row_of h1 0 (.pointer (some ⟨g,0,none⟩)) rfl
  have hw1:IntKind.u8.wrap (v2:Int)=(v2:Int):=by rw [IntKind.wrap_u8];exact Int.emod_eq_of_lt (by omega) (by omega)
  have hw2:IntKind.u8.wrap (2+(v2:Int))=2+(v2:Int):=by rw [IntKind.wrap_u8];exact Int.emod_eq_of_lt (by omega) (by omega)
  clear hc hd hl h1
  go_upto_region 18 with (go_at_call 13;refine HD2.out.mono ?_;rintro e z2 ⟨rfl,hs1,ht1⟩;have G2:=Lib.hid (H1.out.took ht1 hs1);clear hs1 ht1;obtain ⟨av,hbx,-⟩:=G2.out.box;have c1:=row_of hbx 1 (.int .u8 0) rfl;have f1:=frozen_of_row z2 xb 1 _ _ hbx;clear hbx)
  clear HD2 b0 hw1 hw2
  have H2:=Lib.hid (G2.out.op (2+(v2:Int)))
  generalize z2.setCell ⟨xb,1,none⟩ (.int .u8 (2+(v2:Int)))=w2 at *
  clear c1 f1
  have HAR:=Lib.hid (arityR (2+(v2:Int)) (by omega) (by omega) w2)
  obtain ⟨cnt,hcn⟩:∃ c:Nat,(if 2+v2 > 3 then 2 else 1)=c:=⟨_,rfl⟩
  have hcnt:cnt≤90:=by rw [← hcn];split <;> omega
  have HCNT:=Lib.hid hcn
  have HCZ:Hid ((if 2+(v2:Int)≤3 then (1:Int) else 2)=(cnt:Int)):=by
   show _=_
   rw [← hcn]
   by_cases h:2+v2 > 3
   ·rw [if_neg (by omega),if_pos h];rfl
   ·rw [if_pos (by omega),if_neg h];rfl
  clear hcn
  obtain ⟨av,hbx,-⟩:=H2.out.box
  have c1:=row_of hbx 1 (.int .u8 (2+(v2:Int))) rfl
  clear hbx
  go_upto_region 19 with (go_at_call 38;refine HAR.out.mono ?_;rintro e z ⟨rfl,hz⟩;subst z;rw [HCZ.out])
  clear c1 HAR
  obtain ⟨A3,hd⟩:∃ x,(opdsS E.par cnt l3).1=x:=⟨_,rfl⟩
  obtain ⟨l4,hl⟩:∃ x,(opdsS E.par cnt l3).2=x:=⟨_,rfl⟩
  have hc:=operandsR_any bb g s E cnt l3 w2 (HBD.out.trn H2.out.tr) H2.out.tk hsz hcnt
  have hAl:=opds_len E.par cnt l3
  rw [hd,hl] at hc
  rw [hd] at hAl
  have HD3:=Lib.hid hc
  have HAL3:=Lib.hid hAl
  have HX3:Hid (opdsS E.par cnt l3=(A3,l4)):=(by show _=_;rw [← hd,← hl])
  have hwz:w.heap.size≤w2.heap.size:=H2.out.tr.size
  clear hc hd hl hAl
  go_upto_region 50 with (go_at_call 37;refine HD3.out.mono ?_;rintro e z3 ⟨v,rfl,ho,hs1,ht1⟩;have G3:=Lib.hid (H2.out.took ht1 hs1);have hou:=own_upS ho hwz;obtain ⟨xa3,xc3,rfl,-⟩:=own_read ho;have HO3:=Lib.hid hou;clear hs1 ht1 ho hou;obtain ⟨av,hbx,-⟩:=G3.out.box;have c4:=row_of hbx 4 (av) rfl;have f4:=frozen_of_row z3 xb 4 _ _ hbx;clear hbx)
  have HO3':Hid (z3.ownsRow w.heap.size 47 2 (.slice xa3 cnt xc3) A3.length (A3.flatMap argCells)):=by show World.ownsRow _ _ _ _ _ _ _;rw [HAL3.out];exact HO3.out
  clear HD3 HO3
  have H3:=Lib.hid (G3.out.putArgs HO3'.out)
  generalize z3.setCell ⟨xb,4,none⟩ (.slice xa3 cnt xc3)=w3 at *
  clear c4 f4
  obtain ⟨av,hbx,hbo⟩:=H3.out.box
  obtain ⟨ya,yc,rfl,-⟩:=own_read hbo
  have HBO:=Lib.hid hbo
  have HRS:=Lib.hid H3.out.res
  rw [HRB.out] at HRS
  have p0:=row_of hbx 0 _ rfl
  have p1:=row_of hbx 1 _ rfl
  have p2:=row_of hbx 2 _ rfl
  have p3:=row_of hbx 3 _ rfl
  have p4:=row_of hbx 4 _ rfl
  have p5:=row_of hbx 5 _ rfl
  have p6:=row_of hbx 6 _ rfl
  clear hbx hbo
  go_wp2_with (refine wpList_store_row rfl 44 (.tmp 4) (.tmp 203) rfl rb #[.int .u8 1,.int .u8 (2+(v2:Int)),.string d1,.string ⟨#[]⟩,.slice ya A3.length yc,.int .i64 0,.int .i64 0] rfl rfl 44 #[.int .u8 0,.int .u8 0,.string ⟨#[]⟩,.string ⟨#[]⟩,.slice none 0 0,.int .i64 0,.int .i64 0] HRS.out (by as_aux_lemma=>kernel_rfl) (by as_aux_lemma=>kernel_rfl) (by as_aux_lemma=>kernel_rfl) ?_)
  try simp only [Act.put]
  have HRES:Hid (makerS E i k l1=(mkI 1 (2+(v2:Int)) d1 ⟨#[]⟩ A3,l4)):=by
   show _=_
   rw [HMK.out]
   rw [HKR.out];show opS E l1=_;simp only [opS,bindS,HCNT.out,HX1.out,HX2.out,HX3.out,pureS,mkI];push_cast;rfl
  obtain ⟨r1,r2,r3⟩:=H3.out.done (cs:=#[.int .u8 1,.int .u8 (2+(v2:Int)),.string d1,.string ⟨#[]⟩,.slice ya A3.length yc,.int .i64 0,.int .i64 0])
  rw [HRB.out] at r1 r2
  have r4:=r3 _ _ _ HBO.out
  rw [HRB.out] at r4
  refine bodyPost_ret (results_cell_tmpR (P:=Tryz.prog) (fn:=Tryz.f15) rfl _ _ rb 44 #[.int .u8 1,.int .u8 (2+(v2:Int)),.string d1,.string ⟨#[]⟩,.slice ya A3.length yc,.int .i64 0,.int .i64 0] (0,0) _ rfl (setRow_heap _ _ _ _ _ _ HRS.out) Tryz.underlying44 rfl (by as_aux_lemma=>kernel_rfl)) rfl ?_
  unfold MadeR
  rw [HINS.out,HRES.out,HRB.out]
  exact ⟨_,rfl,r4,r1,r2⟩
 ·have hkr:kr=5:=hk16
  clear hk16
  have t0:((kr:Int) == 0)=false:=by simp;omega
  have t1:((kr:Int) == 1)=false:=by simp;omega
  have t2:((kr:Int) == 2)=false:=by simp;omega
  have t3:((kr:Int) == 3)=false:=by simp;omega
  have t4:((kr:Int) == 4)=false:=by simp;omega
  have t5:((kr:Int) == 5)=true:=by simp;omega
  have HKR:=Lib.hid hkr
  clear hkr
  have hA1:=HA1.out (.inl HKR.out)
  obtain ⟨d1,hd⟩:∃ x,(dstS l1).1=x:=⟨_,rfl⟩
  obtain ⟨l2,hl⟩:∃ x,(dstS l1).2=x:=⟨_,rfl⟩
  have hc:=dstR_any bb g s E l1 w4 (HBD.out.trn H0.out.tr) H0.out.tk hsz
  rw [hd,hl] at hc
  have HD1:=Lib.hid hc
  have HX1:Hid (dstS l1=(d1,l2)):=(by show _=_;rw [← hd,← hl])
  clear hc hd hl
  go_upto_region 22 with (go_at_call 36;refine HD1.out.mono ?_;rintro e z1 ⟨rfl,hs1,ht1⟩;have G1:=Lib.hid (H0.out.took ht1 hs1);clear hs1 ht1;obtain ⟨av,hbx,-⟩:=G1.out.box;have c0:=row_of hbx 0 (.int .u8 0) rfl;have f0:=frozen_of_row z1 xb 0 _ _ hbx;have c2:=row_of hbx 2 (.string ⟨#[]⟩) rfl;have f2:=frozen_of_row z1 xb 2 _ _ hbx;clear hbx)
  clear HD1
  have H1:=Lib.hid ((G1.out.kind 2).dst d1)
  generalize (z1.setCell ⟨xb,0,none⟩ (.int .u8 2)).setCell ⟨xb,2,none⟩ (.string d1)=w1 at *
  clear c0 f0 c2 f2
  obtain ⟨v2,hd⟩:∃ x,(takeS E.arrs l2).1=x:=⟨_,rfl⟩
  obtain ⟨l3,hl⟩:∃ x,(takeS E.arrs l2).2=x:=⟨_,rfl⟩
  have hc:=arrayR_any bb g s E l2 w1 (HBD.out.trn H1.out.tr) H1.out.tk hsz (by omega) HBD.out.ha2
  rw [hd,hl] at hc
  have HX2:Hid (takeS E.arrs l2=(v2,l3)):=(by show _=_;rw [← hd,← hl])
  obtain ⟨n2,hn⟩:∃ x,nmS 97 v2=x:=⟨_,rfl⟩
  rw [hn] at hc
  have HD2:=Lib.hid hc
  have HN2:=Lib.hid hn
  clear hc hd hl hn
  go_upto_region 23 with (go_at_call 39;refine HD2.out.mono ?_;rintro e z2 ⟨rfl,hs1,ht1⟩;have G2:=Lib.hid (H1.out.took ht1 hs1);clear hs1 ht1;obtain ⟨av,hbx,-⟩:=G2.out.box;have c3:=row_of hbx 3 (.string ⟨#[]⟩) rfl;have f3:=frozen_of_row z2 xb 3 _ _ hbx;clear hbx)
  clear HD2
  have H2:=Lib.hid (G2.out.name n2)
  generalize z2.setCell ⟨xb,3,none⟩ (.string n2)=w2 at *
  clear c3 f3
  obtain ⟨A3,hd⟩:∃ x,(opdsS E.par 1 l3).1=x:=⟨_,rfl⟩
  obtain ⟨l4,hl⟩:∃ x,(opdsS E.par 1 l3).2=x:=⟨_,rfl⟩
  have hc:=operandsR_any bb g s E 1 l3 w2 (HBD.out.trn H2.out.tr) H2.out.tk hsz (by omega)
  have hAl:=opds_len E.par 1 l3
  rw [hd,hl] at hc
  rw [hd] at hAl
  have HD3:=Lib.hid hc
  have HAL3:=Lib.hid hAl
  have HX3:Hid (opdsS E.par 1 l3=(A3,l4)):=(by show _=_;rw [← hd,← hl])
  have hwz:w.heap.size≤w2.heap.size:=H2.out.tr.size
  clear hc hd hl hAl
  go_upto_region 50 with (go_at_call 37;refine HD3.out.mono ?_;rintro e z3 ⟨v,rfl,ho,hs1,ht1⟩;have G3:=Lib.hid (H2.out.took ht1 hs1);have hou:=own_upS ho hwz;obtain ⟨xa3,xc3,rfl,-⟩:=own_read ho;have HO3:=Lib.hid hou;clear hs1 ht1 ho hou;obtain ⟨av,hbx,-⟩:=G3.out.box;have c4:=row_of hbx 4 (av) rfl;have f4:=frozen_of_row z3 xb 4 _ _ hbx;clear hbx)
  have HO3':Hid (z3.ownsRow w.heap.size 47 2 (.slice xa3 1 xc3) A3.length (A3.flatMap argCells)):=by show World.ownsRow _ _ _ _ _ _ _;rw [HAL3.out];exact HO3.out
  clear HD3 HO3
  have H3:=Lib.hid (G3.out.putArgs HO3'.out)
  generalize z3.setCell ⟨xb,4,none⟩ (.slice xa3 1 xc3)=w3 at *
  clear c4 f4
  obtain ⟨av,hbx,hbo⟩:=H3.out.box
  obtain ⟨ya,yc,rfl,-⟩:=own_read hbo
  have HBO:=Lib.hid hbo
  have HRS:=Lib.hid H3.out.res
  rw [HRB.out] at HRS
  have p0:=row_of hbx 0 _ rfl
  have p1:=row_of hbx 1 _ rfl
  have p2:=row_of hbx 2 _ rfl
  have p3:=row_of hbx 3 _ rfl
  have p4:=row_of hbx 4 _ rfl
  have p5:=row_of hbx 5 _ rfl
  have p6:=row_of hbx 6 _ rfl
  clear hbx hbo
  go_wp2_with (refine wpList_store_row rfl 44 (.tmp 4) (.tmp 203) rfl rb #[.int .u8 2,.int .u8 0,.string d1,.string n2,.slice ya A3.length yc,.int .i64 0,.int .i64 0] rfl rfl 44 #[.int .u8 0,.int .u8 0,.string ⟨#[]⟩,.string ⟨#[]⟩,.slice none 0 0,.int .i64 0,.int .i64 0] HRS.out (by as_aux_lemma=>kernel_rfl) (by as_aux_lemma=>kernel_rfl) (by as_aux_lemma=>kernel_rfl) ?_)
  try simp only [Act.put]
  have HRES:Hid (makerS E i k l1=(mkI 2 0 d1 n2 A3,l4)):=by
   show _=_
   rw [HMK.out]
   rw [HKR.out];show loadS E l1=_;unfold loadS;rw [if_neg (by omega)];simp only [bindS,HX1.out,HX2.out,HN2.out,HX3.out,pureS] <;> rfl
  obtain ⟨r1,r2,r3⟩:=H3.out.done (cs:=#[.int .u8 2,.int .u8 0,.string d1,.string n2,.slice ya A3.length yc,.int .i64 0,.int .i64 0])
  rw [HRB.out] at r1 r2
  have r4:=r3 _ _ _ HBO.out
  rw [HRB.out] at r4
  refine bodyPost_ret (results_cell_tmpR (P:=Tryz.prog) (fn:=Tryz.f15) rfl _ _ rb 44 #[.int .u8 2,.int .u8 0,.string d1,.string n2,.slice ya A3.length yc,.int .i64 0,.int .i64 0] (0,0) _ rfl (setRow_heap _ _ _ _ _ _ HRS.out) Tryz.underlying44 rfl (by as_aux_lemma=>kernel_rfl)) rfl ?_
  unfold MadeR
  rw [HINS.out,HRES.out,HRB.out]
  exact ⟨_,rfl,r4,r1,r2⟩
 ·have hkr:kr=6:=hk16
  clear hk16
  have t0:((kr:Int) == 0)=false:=by simp;omega
  have t1:((kr:Int) == 1)=false:=by simp;omega
  have t2:((kr:Int) == 2)=false:=by simp;omega
  have t3:((kr:Int) == 3)=false:=by simp;omega
  have t4:((kr:Int) == 4)=false:=by simp;omega
  have t5:((kr:Int) == 5)=false:=by simp;omega
  have t6:((kr:Int) == 6)=true:=by simp;omega
  have HKR:=Lib.hid hkr
  clear hkr
  have hA1:=HA1.out (.inr HKR.out)
  obtain ⟨v1,hd⟩:∃ x,(takeS E.arrs l1).1=x:=⟨_,rfl⟩
  obtain ⟨l2,hl⟩:∃ x,(takeS E.arrs l1).2=x:=⟨_,rfl⟩
  have hc:=arrayR_any bb g s E l1 w4 (HBD.out.trn H0.out.tr) H0.out.tk hsz (by omega) HBD.out.ha2
  rw [hd,hl] at hc
  have HX1:Hid (takeS E.arrs l1=(v1,l2)):=(by show _=_;rw [← hd,← hl])
  obtain ⟨n1,hn⟩:∃ x,nmS 97 v1=x:=⟨_,rfl⟩
  rw [hn] at hc
  have HD1:=Lib.hid hc
  have HN1:=Lib.hid hn
  clear hc hd hl hn
  go_upto_region 26 with (go_at_call 39;refine HD1.out.mono ?_;rintro e z1 ⟨rfl,hs1,ht1⟩;have G1:=Lib.hid (H0.out.took ht1 hs1);clear hs1 ht1;obtain ⟨av,hbx,-⟩:=G1.out.box;have c0:=row_of hbx 0 (.int .u8 0) rfl;have f0:=frozen_of_row z1 xb 0 _ _ hbx;have c3:=row_of hbx 3 (.string ⟨#[]⟩) rfl;have f3:=frozen_of_row z1 xb 3 _ _ hbx;clear hbx)
  clear HD1
  have H1:=Lib.hid ((G1.out.kind 3).name n1)
  generalize (z1.setCell ⟨xb,0,none⟩ (.int .u8 3)).setCell ⟨xb,3,none⟩ (.string n1)=w1 at *
  clear c0 f0 c3 f3
  obtain ⟨A2,hd⟩:∃ x,(opdsS E.par 2 l2).1=x:=⟨_,rfl⟩
  obtain ⟨l3,hl⟩:∃ x,(opdsS E.par 2 l2).2=x:=⟨_,rfl⟩
  have hc:=operandsR_any bb g s E 2 l2 w1 (HBD.out.trn H1.out.tr) H1.out.tk hsz (by omega)
  have hAl:=opds_len E.par 2 l2
  rw [hd,hl] at hc
  rw [hd] at hAl
  have HD2:=Lib.hid hc
  have HAL2:=Lib.hid hAl
  have HX2:Hid (opdsS E.par 2 l2=(A2,l3)):=(by show _=_;rw [← hd,← hl])
  have hwz:w.heap.size≤w1.heap.size:=H1.out.tr.size
  clear hc hd hl hAl
  go_upto_region 50 with (go_at_call 37;refine HD2.out.mono ?_;rintro e z2 ⟨v,rfl,ho,hs1,ht1⟩;have G2:=Lib.hid (H1.out.took ht1 hs1);have hou:=own_upS ho hwz;obtain ⟨xa2,xc2,rfl,-⟩:=own_read ho;have HO2:=Lib.hid hou;clear hs1 ht1 ho hou;obtain ⟨av,hbx,-⟩:=G2.out.box;have c4:=row_of hbx 4 (av) rfl;have f4:=frozen_of_row z2 xb 4 _ _ hbx;clear hbx)
  have HO2':Hid (z2.ownsRow w.heap.size 47 2 (.slice xa2 2 xc2) A2.length (A2.flatMap argCells)):=by show World.ownsRow _ _ _ _ _ _ _;rw [HAL2.out];exact HO2.out
  clear HD2 HO2
  have H2:=Lib.hid (G2.out.putArgs HO2'.out)
  generalize z2.setCell ⟨xb,4,none⟩ (.slice xa2 2 xc2)=w2 at *
  clear c4 f4
  obtain ⟨av,hbx,hbo⟩:=H2.out.box
  obtain ⟨ya,yc,rfl,-⟩:=own_read hbo
  have HBO:=Lib.hid hbo
  have HRS:=Lib.hid H2.out.res
  rw [HRB.out] at HRS
  have p0:=row_of hbx 0 _ rfl
  have p1:=row_of hbx 1 _ rfl
  have p2:=row_of hbx 2 _ rfl
  have p3:=row_of hbx 3 _ rfl
  have p4:=row_of hbx 4 _ rfl
  have p5:=row_of hbx 5 _ rfl
  have p6:=row_of hbx 6 _ rfl
  clear hbx hbo
  go_wp2_with (refine wpList_store_row rfl 44 (.tmp 4) (.tmp 203) rfl rb #[.int .u8 3,.int .u8 0,.string ⟨#[]⟩,.string n1,.slice ya A2.length yc,.int .i64 0,.int .i64 0] rfl rfl 44 #[.int .u8 0,.int .u8 0,.string ⟨#[]⟩,.string ⟨#[]⟩,.slice none 0 0,.int .i64 0,.int .i64 0] HRS.out (by as_aux_lemma=>kernel_rfl) (by as_aux_lemma=>kernel_rfl) (by as_aux_lemma=>kernel_rfl) ?_)
  try simp only [Act.put]
  have HRES:Hid (makerS E i k l1=(mkI 3 0 ⟨#[]⟩ n1 A2,l3)):=by
   show _=_
   rw [HMK.out]
   rw [HKR.out];show storeS E l1=_;unfold storeS;rw [if_neg (by omega)];simp only [bindS,HX1.out,HN1.out,HX2.out,pureS] <;> rfl
  obtain ⟨r1,r2,r3⟩:=H2.out.done (cs:=#[.int .u8 3,.int .u8 0,.string ⟨#[]⟩,.string n1,.slice ya A2.length yc,.int .i64 0,.int .i64 0])
  rw [HRB.out] at r1 r2
  have r4:=r3 _ _ _ HBO.out
  rw [HRB.out] at r4
  refine bodyPost_ret (results_cell_tmpR (P:=Tryz.prog) (fn:=Tryz.f15) rfl _ _ rb 44 #[.int .u8 3,.int .u8 0,.string ⟨#[]⟩,.string n1,.slice ya A2.length yc,.int .i64 0,.int .i64 0] (0,0) _ rfl (setRow_heap _ _ _ _ _ _ HRS.out) Tryz.underlying44 rfl (by as_aux_lemma=>kernel_rfl)) rfl ?_
  unfold MadeR
  rw [HINS.out,HRES.out,HRB.out]
  exact ⟨_,rfl,r4,r1,r2⟩
 ·have hkr:kr=7:=hk16
  clear hk16
  have t0:((kr:Int) == 0)=false:=by simp;omega
  have t1:((kr:Int) == 1)=false:=by simp;omega
  have t2:((kr:Int) == 2)=false:=by simp;omega
  have t3:((kr:Int) == 3)=false:=by simp;omega
  have t4:((kr:Int) == 4)=false:=by simp;omega
  have t5:((kr:Int) == 5)=false:=by simp;omega
  have t6:((kr:Int) == 6)=false:=by simp;omega
  have t7:((kr:Int) == 7)=true:=by simp;omega
  have HKR:=Lib.hid hkr
  clear hkr
  obtain ⟨d1,hd⟩:∃ x,(dstS l1).1=x:=⟨_,rfl⟩
  obtain ⟨l2,hl⟩:∃ x,(dstS l1).2=x:=⟨_,rfl⟩
  have hc:=dstR_any bb g s E l1 w4 (HBD.out.trn H0.out.tr) H0.out.tk hsz
  rw [hd,hl] at hc
  have HD1:=Lib.hid hc
  have HX1:Hid (dstS l1=(d1,l2)):=(by show _=_;rw [← hd,← hl])
  clear hc hd hl
  go_upto_region 29 with (go_at_call 36;refine HD1.out.mono ?_;rintro e z1 ⟨rfl,hs1,ht1⟩;have G1:=Lib.hid (H0.out.took ht1 hs1);clear hs1 ht1;obtain ⟨av,hbx,-⟩:=G1.out.box;have c0:=row_of hbx 0 (.int .u8 0) rfl;have f0:=frozen_of_row z1 xb 0 _ _ hbx;have c2:=row_of hbx 2 (.string ⟨#[]⟩) rfl;have f2:=frozen_of_row z1 xb 2 _ _ hbx;clear hbx)
  clear HD1
  have H1:=Lib.hid ((G1.out.kind 4).dst d1)
  generalize (z1.setCell ⟨xb,0,none⟩ (.int .u8 4)).setCell ⟨xb,2,none⟩ (.string d1)=w1 at *
  clear c0 f0 c2 f2
  have hcne:=HA7.out HKR.out
  have HC7:=Lib.hid hcne
  have hcl:1≤E.calls.length:=by cases hq:E.calls with|nil=>exact absurd hq hcne|cons a b=>simp
  have hcl2:=HBD.out.hf2
  obtain ⟨v2,hd⟩:∃ x,(takeS E.calls.length l2).1=x:=⟨_,rfl⟩
  obtain ⟨l3,hl⟩:∃ x,(takeS E.calls.length l2).2=x:=⟨_,rfl⟩
  have hvl:v2<E.calls.length:=by rw [← hd];exact take_small _ l2 hcl
  have HX2:Hid (takeS E.calls.length l2=(v2,l3)):=(by show _=_;rw [← hd,← hl])
  have HTA:Hid (∀ z,TkL z g s l2→Calls Tryz.prog 13 #[.pointer (some ⟨g,0,none⟩),.int .i64 (E.calls.length:Nat)] z fun e w'=>e=.returned (.int .i64 (v2:Nat))∧TkL w' g s l3∧Trn (fun k=>k=g) z w'):=fun z hz=>by
   have h:=takeR_any g s l2 E.calls.length z hz hsz hcl (by omega)
   rw [hd,hl] at h
   exact h
  obtain ⟨nn,hnn⟩:∃ n,E.calls[v2]?=some n:=⟨_,List.getElem?_eq_getElem hvl⟩
  have HG:Hid (E.calls.getD v2 0=nn):=by show _=_;rw [List.getD_eq_getElem?_getD,hnn];rfl
  have hn90:nn≤90:=HBD.out.ho nn (List.mem_of_getElem? hnn)
  have HNN:=Lib.hid hnn
  obtain ⟨n2,hns⟩:∃ x,nmS 102 v2=x:=⟨_,rfl⟩
  have HN2:=Lib.hid hns
  have HNA:∀ z,Hid (Calls Tryz.prog 14 #[.string ⟨#[102]⟩,.int .i64 v2] z fun e w'=>e=.returned (.string n2)∧w'=z):=fun z=>by rw [← hns];exact nameR_any 102 v2 (by omega) z
  have HCLN:Hid (1≤E.calls.length):=hcl
  obtain ⟨wd,ca,cc,aa,ac,fa,fc,mv,h1,-⟩:=(HBD.out.trn H1.out.tr).box
  unfold BdAt at h1
  have hbb:=HBD.out.hne
  have hbl4:bb<w1.heap.size:=(Array.getElem?_eq_some_iff.1 h1).1
  have e0:=keepS_cell (S:=[bb]) (by simp) (row_of h1 0 (.pointer (some ⟨g,0,none⟩)) rfl)
  have e7:=keepS_cell (S:=[bb]) (by simp) (row_of h1 7 (.int .i64 (E.calls.length:Nat)) rfl)
  clear hcne hd hl hnn hns h1
  refine wp_region_mixS [bb] (.one [0,1,2,3,4,5,6,7] 8 (tailOf [9])) (fun j=>decide (9≤j)) (by kernel_rfl) (by kernel_rfl) rfl (by kernel_rfl) (fun _ d _ _ _ h=>by cases d <;> exact h) ?_
  have HDr:Hid (Below w1.heap.size w1 w1.drew):=(Below.refl _ _).drew
  generalize w1.drew=y0 at *
  have ONE:Hid (∀ z:World,z.heap[bb]?=w1.heap[bb]?→∀ b ∈ [bb],z.heap[b]?=w1.heap[b]?):=fun z hz b hb=>by
   simp only [List.mem_cons,List.not_mem_nil,or_false] at hb
   subst hb
   exact hz
  have HK0:=Lib.hid (ONE.out y0 (HDr.out.block bb hbl4))
  have HY0:=Lib.hid (H1.out.below HDr.out)
  have HC2:=Lib.hid (HTA.out y0 HY0.out.tk)
  refine mix_one (by simp only [opsOf,List.filterMap_cons,List.filterMap_nil,List.getElem?_toArray,List.getElem?_cons_succ,List.getElem?_cons_zero];rfl) ⟨_,keepS_of HK0.out⟩ ?_
  change wpQuiet _ _ _ _ [_,_,_,_,_,_,_,_] _
  (repeat (go_big_quiet_step (fail)))
  clear e0 e7
  refine wpQuiet_nil ?_
  refine mix_step rfl ?_
  go_wp2_with (go_at_call 13;refine HC2.out.mono ?_;rintro e y1 ⟨rfl,hs1,ht1⟩;have HY1:=Lib.hid (HY0.out.took ht1 hs1);have HTY:=Lib.hid ht1;clear hs1 ht1)
  have HK1:=Lib.hid (ONE.out y1 ((HTY.out.block bb (by have:=HDr.out.size;omega) hbb).trans (HDr.out.block bb hbl4)))
  (first|refine ⟨fun _=>⟨_,keepS_of HK1.out⟩,?_⟩|refine ⟨⟨_,keepS_of HK1.out⟩,?_⟩)
  refine mix_tail [9] [_] _ _ rfl rfl ?_
  go_wp2_with fail
  obtain ⟨av,hbx,-⟩:=HY1.out.box
  have c3:=row_of hbx 3 (.string ⟨#[]⟩) rfl
  have f3:=frozen_of_row y1 xb 3 _ _ hbx
  clear hbx
  go_upto_region 31 with (go_at_call 14;refine (HNA _).out.mono ?_;rintro e z ⟨rfl,hz⟩;subst z)
  clear HNA HTA
  have H2:=Lib.hid (HY1.out.name n2)
  generalize y1.setCell ⟨xb,3,none⟩ (.string n2)=w2 at *
  clear c3 f3
  obtain ⟨wd,ca,cc,aa,ac,fa,fc,mv,h1,h2⟩:=(HBD.out.trn H2.out.tr).box
  obtain ⟨fb,fq,pa,pc,rfl,hfc,-⟩:=h2 v2 nn HNN.out
  have b4:=row_of h1 4 _ rfl
  have hvi:(v2:Int)<(E.calls.length:Int):=by omega
  clear h1 h2
  obtain ⟨A3,hd⟩:∃ x,(opdsS E.par nn l3).1=x:=⟨_,rfl⟩
  obtain ⟨l4,hl⟩:∃ x,(opdsS E.par nn l3).2=x:=⟨_,rfl⟩
  have hc:=operandsR_any bb g s E nn l3 w2 (HBD.out.trn H2.out.tr) H2.out.tk hsz hn90
  have hAl:=opds_len E.par nn l3
  rw [hd,hl] at hc
  rw [hd] at hAl
  have HD3:=Lib.hid hc
  have HAL3:=Lib.hid hAl
  have HX3:Hid (opdsS E.par nn l3=(A3,l4)):=(by show _=_;rw [← hd,← hl])
  have hwz:w.heap.size≤w2.heap.size:=H2.out.tr.size
  clear hc hd hl hAl
  go_upto_region 50 with (go_at_call 37;refine HD3.out.mono ?_;rintro e z3 ⟨v,rfl,ho,hs1,ht1⟩;have G3:=Lib.hid (H2.out.took ht1 hs1);have hou:=own_upS ho hwz;obtain ⟨xa3,xc3,rfl,-⟩:=own_read ho;have HO3:=Lib.hid hou;clear hs1 ht1 ho hou;obtain ⟨av,hbx,-⟩:=G3.out.box;have c4:=row_of hbx 4 (av) rfl;have f4:=frozen_of_row z3 xb 4 _ _ hbx;clear hbx)
  have HO3':Hid (z3.ownsRow w.heap.size 47 2 (.slice xa3 nn xc3) A3.length (A3.flatMap argCells)):=by show World.ownsRow _ _ _ _ _ _ _;rw [HAL3.out];exact HO3.out
  clear HD3 HO3
  have H3:=Lib.hid (G3.out.putArgs HO3'.out)
  generalize z3.setCell ⟨xb,4,none⟩ (.slice xa3 nn xc3)=w3 at *
  clear c4 f4
  clear b4 hfc hvi
  obtain ⟨av,hbx,hbo⟩:=H3.out.box
  obtain ⟨ya,yc,rfl,-⟩:=own_read hbo
  have HBO:=Lib.hid hbo
  have HRS:=Lib.hid H3.out.res
  rw [HRB.out] at HRS
  have p0:=row_of hbx 0 _ rfl
  have p1:=row_of hbx 1 _ rfl
  have p2:=row_of hbx 2 _ rfl
  have p3:=row_of hbx 3 _ rfl
  have p4:=row_of hbx 4 _ rfl
  have p5:=row_of hbx 5 _ rfl
  have p6:=row_of hbx 6 _ rfl
  clear hbx hbo
  go_wp2_with (refine wpList_store_row rfl 44 (.tmp 4) (.tmp 203) rfl rb #[.int .u8 4,.int .u8 0,.string d1,.string n2,.slice ya A3.length yc,.int .i64 0,.int .i64 0] rfl rfl 44 #[.int .u8 0,.int .u8 0,.string ⟨#[]⟩,.string ⟨#[]⟩,.slice none 0 0,.int .i64 0,.int .i64 0] HRS.out (by as_aux_lemma=>kernel_rfl) (by as_aux_lemma=>kernel_rfl) (by as_aux_lemma=>kernel_rfl) ?_)
  try simp only [Act.put]
  have HRES:Hid (makerS E i k l1=(mkI 4 0 d1 n2 A3,l4)):=by
   show _=_
   rw [HMK.out]
   rw [HKR.out];show callS E l1=_;unfold callS;rw [if_neg HC7.out];simp only [bindS,HX1.out,HX2.out,HN2.out,HG.out,HX3.out,pureS] <;> rfl
  obtain ⟨r1,r2,r3⟩:=H3.out.done (cs:=#[.int .u8 4,.int .u8 0,.string d1,.string n2,.slice ya A3.length yc,.int .i64 0,.int .i64 0])
  rw [HRB.out] at r1 r2
  have r4:=r3 _ _ _ HBO.out
  rw [HRB.out] at r4
  refine bodyPost_ret (results_cell_tmpR (P:=Tryz.prog) (fn:=Tryz.f15) rfl _ _ rb 44 #[.int .u8 4,.int .u8 0,.string d1,.string n2,.slice ya A3.length yc,.int .i64 0,.int .i64 0] (0,0) _ rfl (setRow_heap _ _ _ _ _ _ HRS.out) Tryz.underlying44 rfl (by as_aux_lemma=>kernel_rfl)) rfl ?_
  unfold MadeR
  rw [HINS.out,HRES.out,HRB.out]
  exact ⟨_,rfl,r4,r1,r2⟩
 ·have hkr:kr=8:=hk16
  clear hk16
  have t0:((kr:Int) == 0)=false:=by simp;omega
  have t1:((kr:Int) == 1)=false:=by simp;omega
  have t2:((kr:Int) == 2)=false:=by simp;omega
  have t3:((kr:Int) == 3)=false:=by simp;omega
  have t4:((kr:Int) == 4)=false:=by simp;omega
  have t5:((kr:Int) == 5)=false:=by simp;omega
  have t6:((kr:Int) == 6)=false:=by simp;omega
  have t7:((kr:Int) == 7)=false:=by simp;omega
  have t8:((kr:Int) == 8)=true:=by simp;omega
  have HKR:=Lib.hid hkr
  clear hkr
  obtain ⟨d1,hd⟩:∃ x,(dstS l1).1=x:=⟨_,rfl⟩
  obtain ⟨l2,hl⟩:∃ x,(dstS l1).2=x:=⟨_,rfl⟩
  have hc:=dstR_any bb g s E l1 w4 (HBD.out.trn H0.out.tr) H0.out.tk hsz
  rw [hd,hl] at hc
  have HD1:=Lib.hid hc
  have HX1:Hid (dstS l1=(d1,l2)):=(by show _=_;rw [← hd,← hl])
  clear hc hd hl
  go_upto_region 35 with (go_at_call 36;refine HD1.out.mono ?_;rintro e z1 ⟨rfl,hs1,ht1⟩;have G1:=Lib.hid (H0.out.took ht1 hs1);clear hs1 ht1;obtain ⟨av,hbx,-⟩:=G1.out.box;have c0:=row_of hbx 0 (.int .u8 0) rfl;have f0:=frozen_of_row z1 xb 0 _ _ hbx;have c2:=row_of hbx 2 (.string ⟨#[]⟩) rfl;have f2:=frozen_of_row z1 xb 2 _ _ hbx;clear hbx)
  clear HD1
  have H1:=Lib.hid ((G1.out.kind 5).dst d1)
  generalize (z1.setCell ⟨xb,0,none⟩ (.int .u8 5)).setCell ⟨xb,2,none⟩ (.string d1)=w1 at *
  clear c0 f0 c2 f2
  obtain ⟨v2,hd⟩:∃ x,(takeS E.chans l2).1=x:=⟨_,rfl⟩
  obtain ⟨l3,hl⟩:∃ x,(takeS E.chans l2).2=x:=⟨_,rfl⟩
  have hc:=channelR_any bb g s E l2 w1 (HBD.out.trn H1.out.tr) H1.out.tk hsz HBD.out.hc HBD.out.hc2
  rw [hd,hl] at hc
  have HX2:Hid (takeS E.chans l2=(v2,l3)):=(by show _=_;rw [← hd,← hl])
  obtain ⟨n2,hn⟩:∃ x,nmS 99 v2=x:=⟨_,rfl⟩
  rw [hn] at hc
  have HD2:=Lib.hid hc
  have HN2:=Lib.hid hn
  clear hc hd hl hn
  go_upto_region 50 with (go_at_call 40;refine HD2.out.mono ?_;rintro e z2 ⟨rfl,hs1,ht1⟩;have G2:=Lib.hid (H1.out.took ht1 hs1);clear hs1 ht1;obtain ⟨av,hbx,-⟩:=G2.out.box;have c3:=row_of hbx 3 (.string ⟨#[]⟩) rfl;have f3:=frozen_of_row z2 xb 3 _ _ hbx;clear hbx)
  clear HD2
  have H2:=Lib.hid (G2.out.name n2)
  generalize z2.setCell ⟨xb,3,none⟩ (.string n2)=w2 at *
  clear c3 f3
  obtain ⟨av,hbx,hbo⟩:=H2.out.box
  obtain ⟨ya,yc,rfl,-⟩:=own_read hbo
  simp only [List.length_nil] at hbx
  have HBO:=Lib.hid hbo
  have HRS:=Lib.hid H2.out.res
  rw [HRB.out] at HRS
  have p0:=row_of hbx 0 _ rfl
  have p1:=row_of hbx 1 _ rfl
  have p2:=row_of hbx 2 _ rfl
  have p3:=row_of hbx 3 _ rfl
  have p4:=row_of hbx 4 _ rfl
  have p5:=row_of hbx 5 _ rfl
  have p6:=row_of hbx 6 _ rfl
  clear hbx hbo
  go_wp2_with (refine wpList_store_row rfl 44 (.tmp 4) (.tmp 203) rfl rb #[.int .u8 5,.int .u8 0,.string d1,.string n2,.slice ya 0 yc,.int .i64 0,.int .i64 0] rfl rfl 44 #[.int .u8 0,.int .u8 0,.string ⟨#[]⟩,.string ⟨#[]⟩,.slice none 0 0,.int .i64 0,.int .i64 0] HRS.out (by as_aux_lemma=>kernel_rfl) (by as_aux_lemma=>kernel_rfl) (by as_aux_lemma=>kernel_rfl) ?_)
  try simp only [Act.put]
  have HRES:Hid (makerS E i k l1=(mkI 5 0 d1 n2 [],l3)):=by
   show _=_
   rw [HMK.out]
   rw [HKR.out];show readS E l1=_;simp only [readS,bindS,HX1.out,HX2.out,HN2.out,pureS] <;> rfl
  obtain ⟨r1,r2,r3⟩:=H2.out.done (cs:=#[.int .u8 5,.int .u8 0,.string d1,.string n2,.slice ya 0 yc,.int .i64 0,.int .i64 0])
  rw [HRB.out] at r1 r2
  have r4:=r3 _ _ _ HBO.out
  rw [HRB.out] at r4
  refine bodyPost_ret (results_cell_tmpR (P:=Tryz.prog) (fn:=Tryz.f15) rfl _ _ rb 44 #[.int .u8 5,.int .u8 0,.string d1,.string n2,.slice ya 0 yc,.int .i64 0,.int .i64 0] (0,0) _ rfl (setRow_heap _ _ _ _ _ _ HRS.out) Tryz.underlying44 rfl (by as_aux_lemma=>kernel_rfl)) rfl ?_
  unfold MadeR
  rw [HINS.out,HRES.out,HRB.out]
  exact ⟨_,rfl,r4,r1,r2⟩
 ·have hkr:kr=9:=hk16
  clear hk16
  have t0:((kr:Int) == 0)=false:=by simp;omega
  have t1:((kr:Int) == 1)=false:=by simp;omega
  have t2:((kr:Int) == 2)=false:=by simp;omega
  have t3:((kr:Int) == 3)=false:=by simp;omega
  have t4:((kr:Int) == 4)=false:=by simp;omega
  have t5:((kr:Int) == 5)=false:=by simp;omega
  have t6:((kr:Int) == 6)=false:=by simp;omega
  have t7:((kr:Int) == 7)=false:=by simp;omega
  have t8:((kr:Int) == 8)=false:=by simp;omega
  have t9:((kr:Int) == 9)=true:=by simp;omega
  have HKR:=Lib.hid hkr
  clear hkr
  obtain ⟨d1,hd⟩:∃ x,(dstS l1).1=x:=⟨_,rfl⟩
  obtain ⟨l2,hl⟩:∃ x,(dstS l1).2=x:=⟨_,rfl⟩
  have hc:=dstR_any bb g s E l1 w4 (HBD.out.trn H0.out.tr) H0.out.tk hsz
  rw [hd,hl] at hc
  have HD1:=Lib.hid hc
  have HX1:Hid (dstS l1=(d1,l2)):=(by show _=_;rw [← hd,← hl])
  clear hc hd hl
  go_upto_region 35 with (go_at_call 36;refine HD1.out.mono ?_;rintro e z1 ⟨rfl,hs1,ht1⟩;have G1:=Lib.hid (H0.out.took ht1 hs1);clear hs1 ht1;obtain ⟨av,hbx,-⟩:=G1.out.box;have c0:=row_of hbx 0 (.int .u8 0) rfl;have f0:=frozen_of_row z1 xb 0 _ _ hbx;have c2:=row_of hbx 2 (.string ⟨#[]⟩) rfl;have f2:=frozen_of_row z1 xb 2 _ _ hbx;clear hbx)
  clear HD1
  have H1:=Lib.hid ((G1.out.kind 5).dst d1)
  generalize (z1.setCell ⟨xb,0,none⟩ (.int .u8 5)).setCell ⟨xb,2,none⟩ (.string d1)=w1 at *
  clear c0 f0 c2 f2
  obtain ⟨v2,hd⟩:∃ x,(takeS E.chans l2).1=x:=⟨_,rfl⟩
  obtain ⟨l3,hl⟩:∃ x,(takeS E.chans l2).2=x:=⟨_,rfl⟩
  have hc:=channelR_any bb g s E l2 w1 (HBD.out.trn H1.out.tr) H1.out.tk hsz HBD.out.hc HBD.out.hc2
  rw [hd,hl] at hc
  have HX2:Hid (takeS E.chans l2=(v2,l3)):=(by show _=_;rw [← hd,← hl])
  obtain ⟨n2,hn⟩:∃ x,nmS 99 v2=x:=⟨_,rfl⟩
  rw [hn] at hc
  have HD2:=Lib.hid hc
  have HN2:=Lib.hid hn
  clear hc hd hl hn
  go_upto_region 50 with (go_at_call 40;refine HD2.out.mono ?_;rintro e z2 ⟨rfl,hs1,ht1⟩;have G2:=Lib.hid (H1.out.took ht1 hs1);clear hs1 ht1;obtain ⟨av,hbx,-⟩:=G2.out.box;have c3:=row_of hbx 3 (.string ⟨#[]⟩) rfl;have f3:=frozen_of_row z2 xb 3 _ _ hbx;clear hbx)
  clear HD2
  have H2:=Lib.hid (G2.out.name n2)
  generalize z2.setCell ⟨xb,3,none⟩ (.string n2)=w2 at *
  clear c3 f3
  obtain ⟨av,hbx,hbo⟩:=H2.out.box
  obtain ⟨ya,yc,rfl,-⟩:=own_read hbo
  simp only [List.length_nil] at hbx
  have HBO:=Lib.hid hbo
  have HRS:=Lib.hid H2.out.res
  rw [HRB.out] at HRS
  have p0:=row_of hbx 0 _ rfl
  have p1:=row_of hbx 1 _ rfl
  have p2:=row_of hbx 2 _ rfl
  have p3:=row_of hbx 3 _ rfl
  have p4:=row_of hbx 4 _ rfl
  have p5:=row_of hbx 5 _ rfl
  have p6:=row_of hbx 6 _ rfl
  clear hbx hbo
  go_wp2_with (refine wpList_store_row rfl 44 (.tmp 4) (.tmp 203) rfl rb #[.int .u8 5,.int .u8 0,.string d1,.string n2,.slice ya 0 yc,.int .i64 0,.int .i64 0] rfl rfl 44 #[.int .u8 0,.int .u8 0,.string ⟨#[]⟩,.string ⟨#[]⟩,.slice none 0 0,.int .i64 0,.int .i64 0] HRS.out (by as_aux_lemma=>kernel_rfl) (by as_aux_lemma=>kernel_rfl) (by as_aux_lemma=>kernel_rfl) ?_)
  try simp only [Act.put]
  have HRES:Hid (makerS E i k l1=(mkI 5 0 d1 n2 [],l3)):=by
   show _=_
   rw [HMK.out]
   rw [HKR.out];show readS E l1=_;simp only [readS,bindS,HX1.out,HX2.out,HN2.out,pureS] <;> rfl
  obtain ⟨r1,r2,r3⟩:=H2.out.done (cs:=#[.int .u8 5,.int .u8 0,.string d1,.string n2,.slice ya 0 yc,.int .i64 0,.int .i64 0])
  rw [HRB.out] at r1 r2
  have r4:=r3 _ _ _ HBO.out
  rw [HRB.out] at r4
  refine bodyPost_ret (results_cell_tmpR (P:=Tryz.prog) (fn:=Tryz.f15) rfl _ _ rb 44 #[.int .u8 5,.int .u8 0,.string d1,.string n2,.slice ya 0 yc,.int .i64 0,.int .i64 0] (0,0) _ rfl (setRow_heap _ _ _ _ _ _ HRS.out) Tryz.underlying44 rfl (by as_aux_lemma=>kernel_rfl)) rfl ?_
  unfold MadeR
  rw [HINS.out,HRES.out,HRB.out]
  exact ⟨_,rfl,r4,r1,r2⟩
 ·have hkr:kr=10:=hk16
  clear hk16
  have t0:((kr:Int) == 0)=false:=by simp;omega
  have t1:((kr:Int) == 1)=false:=by simp;omega
  have t2:((kr:Int) == 2)=false:=by simp;omega
  have t3:((kr:Int) == 3)=false:=by simp;omega
  have t4:((kr:Int) == 4)=false:=by simp;omega
  have t5:((kr:Int) == 5)=false:=by simp;omega
  have t6:((kr:Int) == 6)=false:=by simp;omega
  have t7:((kr:Int) == 7)=false:=by simp;omega
  have t8:((kr:Int) == 8)=false:=by simp;omega
  have t9:((kr:Int) == 9)=false:=by simp;omega
  have t10:((kr:Int) == 10)=true:=by simp;omega
  have HKR:=Lib.hid hkr
  clear hkr
  obtain ⟨v1,hd⟩:∃ x,(takeS E.chans l1).1=x:=⟨_,rfl⟩
  obtain ⟨l2,hl⟩:∃ x,(takeS E.chans l1).2=x:=⟨_,rfl⟩
  have hc:=channelR_any bb g s E l1 w4 (HBD.out.trn H0.out.tr) H0.out.tk hsz HBD.out.hc HBD.out.hc2
  rw [hd,hl] at hc
  have HX1:Hid (takeS E.chans l1=(v1,l2)):=(by show _=_;rw [← hd,← hl])
  obtain ⟨n1,hn⟩:∃ x,nmS 99 v1=x:=⟨_,rfl⟩
  rw [hn] at hc
  have HD1:=Lib.hid hc
  have HN1:=Lib.hid hn
  clear hc hd hl hn
  go_upto_region 39 with (go_at_call 40;refine HD1.out.mono ?_;rintro e z1 ⟨rfl,hs1,ht1⟩;have G1:=Lib.hid (H0.out.took ht1 hs1);clear hs1 ht1;obtain ⟨av,hbx,-⟩:=G1.out.box;have c0:=row_of hbx 0 (.int .u8 0) rfl;have f0:=frozen_of_row z1 xb 0 _ _ hbx;have c3:=row_of hbx 3 (.string ⟨#[]⟩) rfl;have f3:=frozen_of_row z1 xb 3 _ _ hbx;clear hbx)
  clear HD1
  have H1:=Lib.hid ((G1.out.kind 6).name n1)
  generalize (z1.setCell ⟨xb,0,none⟩ (.int .u8 6)).setCell ⟨xb,3,none⟩ (.string n1)=w1 at *
  clear c0 f0 c3 f3
  obtain ⟨A2,hd⟩:∃ x,(opdsS E.par 1 l2).1=x:=⟨_,rfl⟩
  obtain ⟨l3,hl⟩:∃ x,(opdsS E.par 1 l2).2=x:=⟨_,rfl⟩
  have hc:=operandsR_any bb g s E 1 l2 w1 (HBD.out.trn H1.out.tr) H1.out.tk hsz (by omega)
  have hAl:=opds_len E.par 1 l2
  rw [hd,hl] at hc
  rw [hd] at hAl
  have HD2:=Lib.hid hc
  have HAL2:=Lib.hid hAl
  have HX2:Hid (opdsS E.par 1 l2=(A2,l3)):=(by show _=_;rw [← hd,← hl])
  have hwz:w.heap.size≤w1.heap.size:=H1.out.tr.size
  clear hc hd hl hAl
  go_upto_region 50 with (go_at_call 37;refine HD2.out.mono ?_;rintro e z2 ⟨v,rfl,ho,hs1,ht1⟩;have G2:=Lib.hid (H1.out.took ht1 hs1);have hou:=own_upS ho hwz;obtain ⟨xa2,xc2,rfl,-⟩:=own_read ho;have HO2:=Lib.hid hou;clear hs1 ht1 ho hou;obtain ⟨av,hbx,-⟩:=G2.out.box;have c4:=row_of hbx 4 (av) rfl;have f4:=frozen_of_row z2 xb 4 _ _ hbx;clear hbx)
  have HO2':Hid (z2.ownsRow w.heap.size 47 2 (.slice xa2 1 xc2) A2.length (A2.flatMap argCells)):=by show World.ownsRow _ _ _ _ _ _ _;rw [HAL2.out];exact HO2.out
  clear HD2 HO2
  have H2:=Lib.hid (G2.out.putArgs HO2'.out)
  generalize z2.setCell ⟨xb,4,none⟩ (.slice xa2 1 xc2)=w2 at *
  clear c4 f4
  obtain ⟨av,hbx,hbo⟩:=H2.out.box
  obtain ⟨ya,yc,rfl,-⟩:=own_read hbo
  have HBO:=Lib.hid hbo
  have HRS:=Lib.hid H2.out.res
  rw [HRB.out] at HRS
  have p0:=row_of hbx 0 _ rfl
  have p1:=row_of hbx 1 _ rfl
  have p2:=row_of hbx 2 _ rfl
  have p3:=row_of hbx 3 _ rfl
  have p4:=row_of hbx 4 _ rfl
  have p5:=row_of hbx 5 _ rfl
  have p6:=row_of hbx 6 _ rfl
  clear hbx hbo
  go_wp2_with (refine wpList_store_row rfl 44 (.tmp 4) (.tmp 203) rfl rb #[.int .u8 6,.int .u8 0,.string ⟨#[]⟩,.string n1,.slice ya A2.length yc,.int .i64 0,.int .i64 0] rfl rfl 44 #[.int .u8 0,.int .u8 0,.string ⟨#[]⟩,.string ⟨#[]⟩,.slice none 0 0,.int .i64 0,.int .i64 0] HRS.out (by as_aux_lemma=>kernel_rfl) (by as_aux_lemma=>kernel_rfl) (by as_aux_lemma=>kernel_rfl) ?_)
  try simp only [Act.put]
  have HRES:Hid (makerS E i k l1=(mkI 6 0 ⟨#[]⟩ n1 A2,l3)):=by
   show _=_
   rw [HMK.out]
   rw [HKR.out];show writeS E l1=_;simp only [writeS,bindS,HX1.out,HN1.out,HX2.out,pureS] <;> rfl
  obtain ⟨r1,r2,r3⟩:=H2.out.done (cs:=#[.int .u8 6,.int .u8 0,.string ⟨#[]⟩,.string n1,.slice ya A2.length yc,.int .i64 0,.int .i64 0])
  rw [HRB.out] at r1 r2
  have r4:=r3 _ _ _ HBO.out
  rw [HRB.out] at r4
  refine bodyPost_ret (results_cell_tmpR (P:=Tryz.prog) (fn:=Tryz.f15) rfl _ _ rb 44 #[.int .u8 6,.int .u8 0,.string ⟨#[]⟩,.string n1,.slice ya A2.length yc,.int .i64 0,.int .i64 0] (0,0) _ rfl (setRow_heap _ _ _ _ _ _ HRS.out) Tryz.underlying44 rfl (by as_aux_lemma=>kernel_rfl)) rfl ?_
  unfold MadeR
  rw [HINS.out,HRES.out,HRB.out]
  exact ⟨_,rfl,r4,r1,r2⟩
 ·have hkr:kr=11:=hk16
  clear hk16
  have t0:((kr:Int) == 0)=false:=by simp;omega
  have t1:((kr:Int) == 1)=false:=by simp;omega
  have t2:((kr:Int) == 2)=false:=by simp;omega
  have t3:((kr:Int) == 3)=false:=by simp;omega
  have t4:((kr:Int) == 4)=false:=by simp;omega
  have t5:((kr:Int) == 5)=false:=by simp;omega
  have t6:((kr:Int) == 6)=false:=by simp;omega
  have t7:((kr:Int) == 7)=false:=by simp;omega
  have t8:((kr:Int) == 8)=false:=by simp;omega
  have t9:((kr:Int) == 9)=false:=by simp;omega
  have t10:((kr:Int) == 10)=false:=by simp;omega
  have t11:((kr:Int) == 11)=true:=by simp;omega
  have HKR:=Lib.hid hkr
  clear hkr
  obtain ⟨v1,hd⟩:∃ x,(takeS E.chans l1).1=x:=⟨_,rfl⟩
  obtain ⟨l2,hl⟩:∃ x,(takeS E.chans l1).2=x:=⟨_,rfl⟩
  have hc:=channelR_any bb g s E l1 w4 (HBD.out.trn H0.out.tr) H0.out.tk hsz HBD.out.hc HBD.out.hc2
  rw [hd,hl] at hc
  have HX1:Hid (takeS E.chans l1=(v1,l2)):=(by show _=_;rw [← hd,← hl])
  obtain ⟨n1,hn⟩:∃ x,nmS 99 v1=x:=⟨_,rfl⟩
  rw [hn] at hc
  have HD1:=Lib.hid hc
  have HN1:=Lib.hid hn
  clear hc hd hl hn
  go_upto_region 39 with (go_at_call 40;refine HD1.out.mono ?_;rintro e z1 ⟨rfl,hs1,ht1⟩;have G1:=Lib.hid (H0.out.took ht1 hs1);clear hs1 ht1;obtain ⟨av,hbx,-⟩:=G1.out.box;have c0:=row_of hbx 0 (.int .u8 0) rfl;have f0:=frozen_of_row z1 xb 0 _ _ hbx;have c3:=row_of hbx 3 (.string ⟨#[]⟩) rfl;have f3:=frozen_of_row z1 xb 3 _ _ hbx;clear hbx)
  clear HD1
  have H1:=Lib.hid ((G1.out.kind 6).name n1)
  generalize (z1.setCell ⟨xb,0,none⟩ (.int .u8 6)).setCell ⟨xb,3,none⟩ (.string n1)=w1 at *
  clear c0 f0 c3 f3
  obtain ⟨A2,hd⟩:∃ x,(opdsS E.par 1 l2).1=x:=⟨_,rfl⟩
  obtain ⟨l3,hl⟩:∃ x,(opdsS E.par 1 l2).2=x:=⟨_,rfl⟩
  have hc:=operandsR_any bb g s E 1 l2 w1 (HBD.out.trn H1.out.tr) H1.out.tk hsz (by omega)
  have hAl:=opds_len E.par 1 l2
  rw [hd,hl] at hc
  rw [hd] at hAl
  have HD2:=Lib.hid hc
  have HAL2:=Lib.hid hAl
  have HX2:Hid (opdsS E.par 1 l2=(A2,l3)):=(by show _=_;rw [← hd,← hl])
  have hwz:w.heap.size≤w1.heap.size:=H1.out.tr.size
  clear hc hd hl hAl
  go_upto_region 50 with (go_at_call 37;refine HD2.out.mono ?_;rintro e z2 ⟨v,rfl,ho,hs1,ht1⟩;have G2:=Lib.hid (H1.out.took ht1 hs1);have hou:=own_upS ho hwz;obtain ⟨xa2,xc2,rfl,-⟩:=own_read ho;have HO2:=Lib.hid hou;clear hs1 ht1 ho hou;obtain ⟨av,hbx,-⟩:=G2.out.box;have c4:=row_of hbx 4 (av) rfl;have f4:=frozen_of_row z2 xb 4 _ _ hbx;clear hbx)
  have HO2':Hid (z2.ownsRow w.heap.size 47 2 (.slice xa2 1 xc2) A2.length (A2.flatMap argCells)):=by show World.ownsRow _ _ _ _ _ _ _;rw [HAL2.out];exact HO2.out
  clear HD2 HO2
  have H2:=Lib.hid (G2.out.putArgs HO2'.out)
  generalize z2.setCell ⟨xb,4,none⟩ (.slice xa2 1 xc2)=w2 at *
  clear c4 f4
  obtain ⟨av,hbx,hbo⟩:=H2.out.box
  obtain ⟨ya,yc,rfl,-⟩:=own_read hbo
  have HBO:=Lib.hid hbo
  have HRS:=Lib.hid H2.out.res
  rw [HRB.out] at HRS
  have p0:=row_of hbx 0 _ rfl
  have p1:=row_of hbx 1 _ rfl
  have p2:=row_of hbx 2 _ rfl
  have p3:=row_of hbx 3 _ rfl
  have p4:=row_of hbx 4 _ rfl
  have p5:=row_of hbx 5 _ rfl
  have p6:=row_of hbx 6 _ rfl
  clear hbx hbo
  go_wp2_with (refine wpList_store_row rfl 44 (.tmp 4) (.tmp 203) rfl rb #[.int .u8 6,.int .u8 0,.string ⟨#[]⟩,.string n1,.slice ya A2.length yc,.int .i64 0,.int .i64 0] rfl rfl 44 #[.int .u8 0,.int .u8 0,.string ⟨#[]⟩,.string ⟨#[]⟩,.slice none 0 0,.int .i64 0,.int .i64 0] HRS.out (by as_aux_lemma=>kernel_rfl) (by as_aux_lemma=>kernel_rfl) (by as_aux_lemma=>kernel_rfl) ?_)
  try simp only [Act.put]
  have HRES:Hid (makerS E i k l1=(mkI 6 0 ⟨#[]⟩ n1 A2,l3)):=by
   show _=_
   rw [HMK.out]
   rw [HKR.out];show writeS E l1=_;simp only [writeS,bindS,HX1.out,HN1.out,HX2.out,pureS] <;> rfl
  obtain ⟨r1,r2,r3⟩:=H2.out.done (cs:=#[.int .u8 6,.int .u8 0,.string ⟨#[]⟩,.string n1,.slice ya A2.length yc,.int .i64 0,.int .i64 0])
  rw [HRB.out] at r1 r2
  have r4:=r3 _ _ _ HBO.out
  rw [HRB.out] at r4
  refine bodyPost_ret (results_cell_tmpR (P:=Tryz.prog) (fn:=Tryz.f15) rfl _ _ rb 44 #[.int .u8 6,.int .u8 0,.string ⟨#[]⟩,.string n1,.slice ya A2.length yc,.int .i64 0,.int .i64 0] (0,0) _ rfl (setRow_heap _ _ _ _ _ _ HRS.out) Tryz.underlying44 rfl (by as_aux_lemma=>kernel_rfl)) rfl ?_
  unfold MadeR
  rw [HINS.out,HRES.out,HRB.out]
  exact ⟨_,rfl,r4,r1,r2⟩
 ·have hkr:kr=12:=hk16
  clear hk16
  have t0:((kr:Int) == 0)=false:=by simp;omega
  have t1:((kr:Int) == 1)=false:=by simp;omega
  have t2:((kr:Int) == 2)=false:=by simp;omega
  have t3:((kr:Int) == 3)=false:=by simp;omega
  have t4:((kr:Int) == 4)=false:=by simp;omega
  have t5:((kr:Int) == 5)=false:=by simp;omega
  have t6:((kr:Int) == 6)=false:=by simp;omega
  have t7:((kr:Int) == 7)=false:=by simp;omega
  have t8:((kr:Int) == 8)=false:=by simp;omega
  have t9:((kr:Int) == 9)=false:=by simp;omega
  have t10:((kr:Int) == 10)=false:=by simp;omega
  have t11:((kr:Int) == 11)=false:=by simp;omega
  have t12:((kr:Int) == 12)=true:=by simp;omega
  have HKR:=Lib.hid hkr
  clear hkr
  obtain ⟨d1,hd⟩:∃ x,(dstS l1).1=x:=⟨_,rfl⟩
  obtain ⟨l2,hl⟩:∃ x,(dstS l1).2=x:=⟨_,rfl⟩
  have hc:=dstR_any bb g s E l1 w4 (HBD.out.trn H0.out.tr) H0.out.tk hsz
  rw [hd,hl] at hc
  have HD1:=Lib.hid hc
  have HX1:Hid (dstS l1=(d1,l2)):=(by show _=_;rw [← hd,← hl])
  clear hc hd hl
  go_upto_region 42 with (go_at_call 36;refine HD1.out.mono ?_;rintro e z1 ⟨rfl,hs1,ht1⟩;have G1:=Lib.hid (H0.out.took ht1 hs1);clear hs1 ht1;obtain ⟨av,hbx,-⟩:=G1.out.box;have c0:=row_of hbx 0 (.int .u8 0) rfl;have f0:=frozen_of_row z1 xb 0 _ _ hbx;have c2:=row_of hbx 2 (.string ⟨#[]⟩) rfl;have f2:=frozen_of_row z1 xb 2 _ _ hbx;clear hbx)
  clear HD1
  have H1:=Lib.hid ((G1.out.kind 7).dst d1)
  generalize (z1.setCell ⟨xb,0,none⟩ (.int .u8 7)).setCell ⟨xb,2,none⟩ (.string d1)=w1 at *
  clear c0 f0 c2 f2
  obtain ⟨v2,hd⟩:∃ x,(takeS 2 l2).1=x:=⟨_,rfl⟩
  obtain ⟨l3,hl⟩:∃ x,(takeS 2 l2).2=x:=⟨_,rfl⟩
  have hvl2:v2<2:=by rw [← hd];exact take_small 2 l2 (by omega)
  have hc:=takeR_any g s l2 2 w1 H1.out.tk hsz (by omega) (by omega)
  rw [hd,hl] at hc
  have HX2:Hid (takeS 2 l2=(v2,l3)):=(by show _=_;rw [← hd,← hl])
  have HD2:=Lib.hid hc
  obtain ⟨n2,hn⟩:∃ x,nmS 115 v2=x:=⟨_,rfl⟩
  have HN2:=Lib.hid hn
  have HNA:∀ z,Hid (Calls Tryz.prog 14 #[.string ⟨#[115]⟩,.int .i64 v2] z fun e w'=>e=.returned (.string n2)∧w'=z):=fun z=>by rw [← hn];exact nameR_any 115 v2 (by omega) z
  obtain ⟨wd,ca,cc,aa,ac,fa,fc,mv,h1,-⟩:=(HBD.out.trn H1.out.tr).box
  have b0:=row_of h1 0 (.pointer (some ⟨g,0,none⟩)) rfl
  clear hc hd hl h1 hn
  go_upto_region 43 with (first|(go_at_call 13;refine HD2.out.mono ?_;rintro e z2 ⟨rfl,hs1,ht1⟩;have G2:=Lib.hid (H1.out.took ht1 hs1);clear hs1 ht1;obtain ⟨av,hbx,-⟩:=G2.out.box;have c3:=row_of hbx 3 (.string ⟨#[]⟩) rfl;have f3:=frozen_of_row z2 xb 3 _ _ hbx;clear hbx)|(go_at_call 14;refine (HNA _).out.mono ?_;rintro e z ⟨rfl,hz⟩;subst z))
  clear HD2 b0 HNA
  have H2:=Lib.hid (G2.out.name n2)
  generalize z2.setCell ⟨xb,3,none⟩ (.string n2)=w2 at *
  clear c3 f3
  obtain ⟨A3,hd⟩:∃ x,(opdsS E.par 1 l3).1=x:=⟨_,rfl⟩
  obtain ⟨l4,hl⟩:∃ x,(opdsS E.par 1 l3).2=x:=⟨_,rfl⟩
  have hc:=operandsR_any bb g s E 1 l3 w2 (HBD.out.trn H2.out.tr) H2.out.tk hsz (by omega)
  have hAl:=opds_len E.par 1 l3
  rw [hd,hl] at hc
  rw [hd] at hAl
  have HD3:=Lib.hid hc
  have HAL3:=Lib.hid hAl
  have HX3:Hid (opdsS E.par 1 l3=(A3,l4)):=(by show _=_;rw [← hd,← hl])
  have hwz:w.heap.size≤w2.heap.size:=H2.out.tr.size
  clear hc hd hl hAl
  go_upto_region 50 with (go_at_call 37;refine HD3.out.mono ?_;rintro e z3 ⟨v,rfl,ho,hs1,ht1⟩;have G3:=Lib.hid (H2.out.took ht1 hs1);have hou:=own_upS ho hwz;obtain ⟨xa3,xc3,rfl,-⟩:=own_read ho;have HO3:=Lib.hid hou;clear hs1 ht1 ho hou;obtain ⟨av,hbx,-⟩:=G3.out.box;have c4:=row_of hbx 4 (av) rfl;have f4:=frozen_of_row z3 xb 4 _ _ hbx;clear hbx)
  have HO3':Hid (z3.ownsRow w.heap.size 47 2 (.slice xa3 1 xc3) A3.length (A3.flatMap argCells)):=by show World.ownsRow _ _ _ _ _ _ _;rw [HAL3.out];exact HO3.out
  clear HD3 HO3
  have H3:=Lib.hid (G3.out.putArgs HO3'.out)
  generalize z3.setCell ⟨xb,4,none⟩ (.slice xa3 1 xc3)=w3 at *
  clear c4 f4
  obtain ⟨av,hbx,hbo⟩:=H3.out.box
  obtain ⟨ya,yc,rfl,-⟩:=own_read hbo
  have HBO:=Lib.hid hbo
  have HRS:=Lib.hid H3.out.res
  rw [HRB.out] at HRS
  have p0:=row_of hbx 0 _ rfl
  have p1:=row_of hbx 1 _ rfl
  have p2:=row_of hbx 2 _ rfl
  have p3:=row_of hbx 3 _ rfl
  have p4:=row_of hbx 4 _ rfl
  have p5:=row_of hbx 5 _ rfl
  have p6:=row_of hbx 6 _ rfl
  clear hbx hbo
  go_wp2_with (refine wpList_store_row rfl 44 (.tmp 4) (.tmp 203) rfl rb #[.int .u8 7,.int .u8 0,.string d1,.string n2,.slice ya A3.length yc,.int .i64 0,.int .i64 0] rfl rfl 44 #[.int .u8 0,.int .u8 0,.string ⟨#[]⟩,.string ⟨#[]⟩,.slice none 0 0,.int .i64 0,.int .i64 0] HRS.out (by as_aux_lemma=>kernel_rfl) (by as_aux_lemma=>kernel_rfl) (by as_aux_lemma=>kernel_rfl) ?_)
  try simp only [Act.put]
  have HRES:Hid (makerS E i k l1=(mkI 7 0 d1 n2 A3,l4)):=by
   show _=_
   rw [HMK.out]
   rw [HKR.out];show releaseS E l1=_;simp only [releaseS,bindS,HX1.out,HX2.out,HN2.out,HX3.out,pureS] <;> rfl
  obtain ⟨r1,r2,r3⟩:=H3.out.done (cs:=#[.int .u8 7,.int .u8 0,.string d1,.string n2,.slice ya A3.length yc,.int .i64 0,.int .i64 0])
  rw [HRB.out] at r1 r2
  have r4:=r3 _ _ _ HBO.out
  rw [HRB.out] at r4
  refine bodyPost_ret (results_cell_tmpR (P:=Tryz.prog) (fn:=Tryz.f15) rfl _ _ rb 44 #[.int .u8 7,.int .u8 0,.string d1,.string n2,.slice ya A3.length yc,.int .i64 0,.int .i64 0] (0,0) _ rfl (setRow_heap _ _ _ _ _ _ HRS.out) Tryz.underlying44 rfl (by as_aux_lemma=>kernel_rfl)) rfl ?_
  unfold MadeR
  rw [HINS.out,HRES.out,HRB.out]
  exact ⟨_,rfl,r4,r1,r2⟩
 ·have hkr:kr=13:=hk16
  clear hk16
  have t0:((kr:Int) == 0)=false:=by simp;omega
  have t1:((kr:Int) == 1)=false:=by simp;omega
  have t2:((kr:Int) == 2)=false:=by simp;omega
  have t3:((kr:Int) == 3)=false:=by simp;omega
  have t4:((kr:Int) == 4)=false:=by simp;omega
  have t5:((kr:Int) == 5)=false:=by simp;omega
  have t6:((kr:Int) == 6)=false:=by simp;omega
  have t7:((kr:Int) == 7)=false:=by simp;omega
  have t8:((kr:Int) == 8)=false:=by simp;omega
  have t9:((kr:Int) == 9)=false:=by simp;omega
  have t10:((kr:Int) == 10)=false:=by simp;omega
  have t11:((kr:Int) == 11)=false:=by simp;omega
  have t12:((kr:Int) == 12)=false:=by simp;omega
  have t13:((kr:Int) == 13)=true:=by simp;omega
  have HKR:=Lib.hid hkr
  clear hkr
  obtain ⟨A1,hd⟩:∃ x,(opdsS E.par 1 l1).1=x:=⟨_,rfl⟩
  obtain ⟨l2,hl⟩:∃ x,(opdsS E.par 1 l1).2=x:=⟨_,rfl⟩
  have hc:=operandsR_any bb g s E 1 l1 w4 (HBD.out.trn H0.out.tr) H0.out.tk hsz (by omega)
  have hAl:=opds_len E.par 1 l1
  rw [hd,hl] at hc
  rw [hd] at hAl
  have HD1:=Lib.hid hc
  have HAL1:=Lib.hid hAl
  have HX1:Hid (opdsS E.par 1 l1=(A1,l2)):=(by show _=_;rw [← hd,← hl])
  have hwz:w.heap.size≤w4.heap.size:=H0.out.tr.size
  clear hc hd hl hAl
  go_upto_region 46 with (go_at_call 37;refine HD1.out.mono ?_;rintro e z1 ⟨v,rfl,ho,hs1,ht1⟩;have G1:=Lib.hid (H0.out.took ht1 hs1);have hou:=own_upS ho hwz;obtain ⟨xa1,xc1,rfl,-⟩:=own_read ho;have HO1:=Lib.hid hou;clear hs1 ht1 ho hou;obtain ⟨av,hbx,-⟩:=G1.out.box;have c0:=row_of hbx 0 (.int .u8 0) rfl;have f0:=frozen_of_row z1 xb 0 _ _ hbx;have c4:=row_of hbx 4 (av) rfl;have f4:=frozen_of_row z1 xb 4 _ _ hbx;clear hbx)
  have HO1':Hid (z1.ownsRow w.heap.size 47 2 (.slice xa1 1 xc1) A1.length (A1.flatMap argCells)):=by show World.ownsRow _ _ _ _ _ _ _;rw [HAL1.out];exact HO1.out
  clear HD1 HO1
  have HO1':=Lib.hid (own_trn HO1'.out (setCell_trn z1 ⟨xb,0,none⟩ (.int .u8 9)) (fun b hb e=>by obtain ⟨av,hbx,-⟩:=G1.out.box;exact not_own HO1'.out hbx (by decide) (by have e':b=xb:=e;rw [← e'];exact hb)))
  have H1:=Lib.hid ((G1.out.kind 9).putArgs HO1'.out)
  generalize (z1.setCell ⟨xb,0,none⟩ (.int .u8 9)).setCell ⟨xb,4,none⟩ (.slice xa1 1 xc1)=w1 at *
  clear c0 f0 c4 f4
  obtain ⟨v2,hd⟩:∃ x,(takeS (i+4) l2).1=x:=⟨_,rfl⟩
  obtain ⟨l3,hl⟩:∃ x,(takeS (i+4) l2).2=x:=⟨_,rfl⟩
  have HX2:Hid (takeS (i+4) l2=(v2,l3)):=(by show _=_;rw [← hd,← hl])
  have HTA:Hid (∀ z,TkL z g s l2→Calls Tryz.prog 13 #[.pointer (some ⟨g,0,none⟩),.int .i64 ((i:Int)+4)] z fun e w'=>e=.returned (.int .i64 (v2:Nat))∧TkL w' g s l3∧Trn (fun k=>k=g) z w'):=fun z hz=>by
   have h:=takeR_any g s l2 (i+4) z hz hsz (by omega) (by omega)
   rw [hd,hl] at h
   exact h
  obtain ⟨av,hbx,hbo⟩:=H1.out.box
  obtain ⟨ya,yc,rfl,-⟩:=own_read hbo
  have HBO:=Lib.hid hbo
  have HBX:=Lib.hid hbx
  obtain ⟨wd,ca,cc,aa,ac,fa,fc,mv,h1,-⟩:=(HBD.out.trn H1.out.tr).box
  unfold BdAt at h1
  have hbb:=HBD.out.hne
  have hxl:xb<w1.heap.size:=(Array.getElem?_eq_some_iff.1 hbx).1
  have hbl4:bb<w1.heap.size:=(Array.getElem?_eq_some_iff.1 h1).1
  have hxr:=H1.out.hx
  rw [HRB.out] at hxr
  have e0:=keepS_cell (S:=[xb,bb]) (by simp) (row_of h1 0 (.pointer (some ⟨g,0,none⟩)) rfl)
  have p0:=keepS_cell (S:=[xb,bb]) (by simp) (row_of hbx 0 _ rfl)
  have p1:=keepS_cell (S:=[xb,bb]) (by simp) (row_of hbx 1 _ rfl)
  have p2:=keepS_cell (S:=[xb,bb]) (by simp) (row_of hbx 2 _ rfl)
  have p3:=keepS_cell (S:=[xb,bb]) (by simp) (row_of hbx 3 _ rfl)
  have p4:=keepS_cell (S:=[xb,bb]) (by simp) (row_of hbx 4 _ rfl)
  have p5:=keepS_cell (S:=[xb,bb]) (by simp) (row_of hbx 5 _ rfl)
  have p6:=keepS_cell (S:=[xb,bb]) (by simp) (row_of hbx 6 _ rfl)
  clear hd hl hbx hbo h1
  refine wp_region_mixS [xb,bb] (.one [0,1,2,3,4,5,6] 7 (.one [] 8 (.fin [9]))) (fun _=>false) (by kernel_rfl) (by kernel_rfl) rfl (by kernel_rfl) (fun _ d _ _ _ h=>by cases d <;> exact h) ?_
  have HDr:Hid (Below w1.heap.size w1 w1.drew):=(Below.refl _ _).drew
  generalize w1.drew=y0 at *
  have HK0:=Lib.hid (two_keepS (HDr.out.block xb hxl) (HDr.out.block bb hbl4))
  have HY0:=Lib.hid (H1.out.below HDr.out)
  have HC2:=Lib.hid (HTA.out y0 HY0.out.tk)
  refine mix_one (by simp only [opsOf,List.filterMap_cons,List.filterMap_nil,List.getElem?_toArray,List.getElem?_cons_succ,List.getElem?_cons_zero];rfl) ⟨_,keepS_of HK0.out⟩ ?_
  change wpQuiet _ _ _ _ [_,_,_,_,_,_,_] _
  (repeat (go_big_quiet_step (fail)))
  clear e0 p0 p1 p2 p3 p4 p5 p6
  refine wpQuiet_nil ?_
  refine mix_step rfl ?_
  go_wp2_with (go_at_call 13;refine HC2.out.mono ?_;rintro e y1 ⟨rfl,hs1,ht1⟩;have HY1:=Lib.hid (HY0.out.took ht1 hs1);have HTY:=Lib.hid ht1;clear hs1 ht1)
  have HK1:=Lib.hid (two_keepS (W:=w1) ((HTY.out.block xb (by have:=HDr.out.size;omega) (by have:=HY0.out.hg;rw [HRB.out] at this;omega)).trans (HDr.out.block xb hxl)) ((HTY.out.block bb (by have:=HDr.out.size;omega) hbb).trans (HDr.out.block bb hbl4)))
  (first|refine ⟨fun _=>⟨_,keepS_of HK1.out⟩,?_⟩|refine ⟨⟨_,keepS_of HK1.out⟩,?_⟩)
  have HRS:=Lib.hid HY1.out.res
  rw [HRB.out] at HRS
  refine mix_now ?_
  refine mix_step rfl ?_
  try (simp only [Act.put,List.setIfInBounds_toArray,List.set_cons_succ,List.set_cons_zero,List.getElem_toArray,List.getElem_cons_succ,List.getElem_cons_zero])
  go_wp2_with (refine wpList_store_row rfl 44 (.tmp 4) (.tmp 184) rfl rb #[.int .u8 9,.int .u8 0,.string ⟨#[]⟩,.string ⟨#[]⟩,.slice ya A1.length yc,.int .i64 0,.int .i64 0] rfl rfl 44 #[.int .u8 0,.int .u8 0,.string ⟨#[]⟩,.string ⟨#[]⟩,.slice none 0 0,.int .i64 0,.int .i64 0] HRS.out (by as_aux_lemma=>kernel_rfl) (by as_aux_lemma=>kernel_rfl) (by as_aux_lemma=>kernel_rfl) ?_)
  try simp only [Act.put]
  have HK2:=Lib.hid (two_keepS (W:=w1) ((setRow_other y1 rb xb #[.int .u8 9,.int .u8 0,.string ⟨#[]⟩,.string ⟨#[]⟩,.slice ya A1.length yc,.int .i64 0,.int .i64 0] (by omega)).trans (HK1.out xb (by simp))) ((setRow_other y1 rb bb #[.int .u8 9,.int .u8 0,.string ⟨#[]⟩,.string ⟨#[]⟩,.slice ya A1.length yc,.int .i64 0,.int .i64 0] (by omega)).trans (HK1.out bb (by simp))))
  (first|refine ⟨fun _=>⟨_,keepS_of HK2.out⟩,?_⟩|refine ⟨⟨_,keepS_of HK2.out⟩,?_⟩)
  refine mix_fin (by simp only [opsOf,List.filterMap_cons,List.filterMap_nil,List.getElem?_toArray,List.getElem?_cons_succ,List.getElem?_cons_zero];rfl) ⟨_,keepS_of HK2.out⟩ ?_
  change wpQuiet _ _ _ _ [_] _
  (repeat (go_big_quiet_step (fail)))
  refine wpQuiet_nil ?_
  go_wp2_with fail
  have HRES:Hid (makerS E i k l1=(mkI 9 0 ⟨#[]⟩ ⟨#[]⟩ A1 v2,l3)):=by
   show _=_
   rw [HMK.out]
   rw [HKR.out];show branchS E i l1=_;simp only [branchS,bindS,HX1.out,HX2.out,pureS] <;> rfl
  obtain ⟨r1,r2,r3⟩:=HY1.out.done (cs:=#[.int .u8 9,.int .u8 0,.string ⟨#[]⟩,.string ⟨#[]⟩,.slice ya A1.length yc,.int .i64 0,.int .i64 0])
  rw [HRB.out] at r1 r2
  have r4:=r3 _ _ _ (own_trn HBO.out ((Trn.of_below (S:=fun k=>k=g) HDr.out).trans HTY.out) (fun b hb e=>by have:=own_ge HBO.out hb;have:=HY0.out.hg;have e':b=g:=e;omega))
  rw [HRB.out] at r4
  try simp only [Act.put]
  refine bodyPost_ret (results_cell_tmpR (P:=Tryz.prog) (fn:=Tryz.f15) rfl _ _ rb 44 #[.int .u8 9,.int .u8 0,.string ⟨#[]⟩,.string ⟨#[]⟩,.slice ya A1.length yc,.int .i64 0,.int .i64 0] (0,0) _ rfl (setRow_heap _ _ _ _ _ _ HRS.out) Tryz.underlying44 rfl (by as_aux_lemma=>kernel_rfl)) rfl ?_
  unfold MadeR
  rw [HINS.out,HRES.out,HRB.out]
  exact ⟨_,rfl,r4,r1,r2⟩
 ·have hkr:kr=14:=hk16
  clear hk16
  have t0:((kr:Int) == 0)=false:=by simp;omega
  have t1:((kr:Int) == 1)=false:=by simp;omega
  have t2:((kr:Int) == 2)=false:=by simp;omega
  have t3:((kr:Int) == 3)=false:=by simp;omega
  have t4:((kr:Int) == 4)=false:=by simp;omega
  have t5:((kr:Int) == 5)=false:=by simp;omega
  have t6:((kr:Int) == 6)=false:=by simp;omega
  have t7:((kr:Int) == 7)=false:=by simp;omega
  have t8:((kr:Int) == 8)=false:=by simp;omega
  have t9:((kr:Int) == 9)=false:=by simp;omega
  have t10:((kr:Int) == 10)=false:=by simp;omega
  have t11:((kr:Int) == 11)=false:=by simp;omega
  have t12:((kr:Int) == 12)=false:=by simp;omega
  have t13:((kr:Int) == 13)=false:=by simp;omega
  have t14:((kr:Int) == 14)=true:=by simp;omega
  have HKR:=Lib.hid hkr
  clear hkr
  obtain ⟨av,hbx,-⟩:=H0.out.box
  have c0:=row_of hbx 0 (.int .u8 0) rfl
  have f0:=frozen_of_row w4 xb 0 _ _ hbx
  clear hbx
  go_upto_region 49 with fail
  have H1:=Lib.hid (H0.out.kind 8)
  generalize w4.setCell ⟨xb,0,none⟩ (.int .u8 8)=w1 at *
  clear c0 f0
  obtain ⟨v2,hd⟩:∃ x,(takeS (i+4) l1).1=x:=⟨_,rfl⟩
  obtain ⟨l3,hl⟩:∃ x,(takeS (i+4) l1).2=x:=⟨_,rfl⟩
  have HX2:Hid (takeS (i+4) l1=(v2,l3)):=(by show _=_;rw [← hd,← hl])
  have HTA:Hid (∀ z,TkL z g s l1→Calls Tryz.prog 13 #[.pointer (some ⟨g,0,none⟩),.int .i64 ((i:Int)+4)] z fun e w'=>e=.returned (.int .i64 (v2:Nat))∧TkL w' g s l3∧Trn (fun k=>k=g) z w'):=fun z hz=>by
   have h:=takeR_any g s l1 (i+4) z hz hsz (by omega) (by omega)
   rw [hd,hl] at h
   exact h
  obtain ⟨av,hbx,hbo⟩:=H1.out.box
  obtain ⟨ya,yc,rfl,-⟩:=own_read hbo
  simp only [List.length_nil] at hbx
  have HBO:=Lib.hid hbo
  have HBX:=Lib.hid hbx
  obtain ⟨wd,ca,cc,aa,ac,fa,fc,mv,h1,-⟩:=(HBD.out.trn H1.out.tr).box
  unfold BdAt at h1
  have hbb:=HBD.out.hne
  have hxl:xb<w1.heap.size:=(Array.getElem?_eq_some_iff.1 hbx).1
  have hbl4:bb<w1.heap.size:=(Array.getElem?_eq_some_iff.1 h1).1
  have hxr:=H1.out.hx
  rw [HRB.out] at hxr
  have e0:=keepS_cell (S:=[xb,bb]) (by simp) (row_of h1 0 (.pointer (some ⟨g,0,none⟩)) rfl)
  have p0:=keepS_cell (S:=[xb,bb]) (by simp) (row_of hbx 0 _ rfl)
  have p1:=keepS_cell (S:=[xb,bb]) (by simp) (row_of hbx 1 _ rfl)
  have p2:=keepS_cell (S:=[xb,bb]) (by simp) (row_of hbx 2 _ rfl)
  have p3:=keepS_cell (S:=[xb,bb]) (by simp) (row_of hbx 3 _ rfl)
  have p4:=keepS_cell (S:=[xb,bb]) (by simp) (row_of hbx 4 _ rfl)
  have p5:=keepS_cell (S:=[xb,bb]) (by simp) (row_of hbx 5 _ rfl)
  have p6:=keepS_cell (S:=[xb,bb]) (by simp) (row_of hbx 6 _ rfl)
  clear hd hl hbx hbo h1
  refine wp_region_mixS [xb,bb] (.one [0,1,2,3,4,5,6] 7 (.one [] 8 (.fin [9]))) (fun _=>false) (by kernel_rfl) (by kernel_rfl) rfl (by kernel_rfl) (fun _ d _ _ _ h=>by cases d <;> exact h) ?_
  have HDr:Hid (Below w1.heap.size w1 w1.drew):=(Below.refl _ _).drew
  generalize w1.drew=y0 at *
  have HK0:=Lib.hid (two_keepS (HDr.out.block xb hxl) (HDr.out.block bb hbl4))
  have HY0:=Lib.hid (H1.out.below HDr.out)
  have HC2:=Lib.hid (HTA.out y0 HY0.out.tk)
  refine mix_one (by simp only [opsOf,List.filterMap_cons,List.filterMap_nil,List.getElem?_toArray,List.getElem?_cons_succ,List.getElem?_cons_zero];rfl) ⟨_,keepS_of HK0.out⟩ ?_
  change wpQuiet _ _ _ _ [_,_,_,_,_,_,_] _
  (repeat (go_big_quiet_step (fail)))
  clear e0 p0 p1 p2 p3 p4 p5 p6
  refine wpQuiet_nil ?_
  refine mix_step rfl ?_
  go_wp2_with (go_at_call 13;refine HC2.out.mono ?_;rintro e y1 ⟨rfl,hs1,ht1⟩;have HY1:=Lib.hid (HY0.out.took ht1 hs1);have HTY:=Lib.hid ht1;clear hs1 ht1)
  have HK1:=Lib.hid (two_keepS (W:=w1) ((HTY.out.block xb (by have:=HDr.out.size;omega) (by have:=HY0.out.hg;rw [HRB.out] at this;omega)).trans (HDr.out.block xb hxl)) ((HTY.out.block bb (by have:=HDr.out.size;omega) hbb).trans (HDr.out.block bb hbl4)))
  (first|refine ⟨fun _=>⟨_,keepS_of HK1.out⟩,?_⟩|refine ⟨⟨_,keepS_of HK1.out⟩,?_⟩)
  have HRS:=Lib.hid HY1.out.res
  rw [HRB.out] at HRS
  refine mix_now ?_
  refine mix_step rfl ?_
  try (simp only [Act.put,List.setIfInBounds_toArray,List.set_cons_succ,List.set_cons_zero,List.getElem_toArray,List.getElem_cons_succ,List.getElem_cons_zero])
  go_wp2_with (refine wpList_store_row rfl 44 (.tmp 4) (.tmp 195) rfl rb #[.int .u8 8,.int .u8 0,.string ⟨#[]⟩,.string ⟨#[]⟩,.slice ya 0 yc,.int .i64 0,.int .i64 0] rfl rfl 44 #[.int .u8 0,.int .u8 0,.string ⟨#[]⟩,.string ⟨#[]⟩,.slice none 0 0,.int .i64 0,.int .i64 0] HRS.out (by as_aux_lemma=>kernel_rfl) (by as_aux_lemma=>kernel_rfl) (by as_aux_lemma=>kernel_rfl) ?_)
  try simp only [Act.put]
  have HK2:=Lib.hid (two_keepS (W:=w1) ((setRow_other y1 rb xb #[.int .u8 8,.int .u8 0,.string ⟨#[]⟩,.string ⟨#[]⟩,.slice ya 0 yc,.int .i64 0,.int .i64 0] (by omega)).trans (HK1.out xb (by simp))) ((setRow_other y1 rb bb #[.int .u8 8,.int .u8 0,.string ⟨#[]⟩,.string ⟨#[]⟩,.slice ya 0 yc,.int .i64 0,.int .i64 0] (by omega)).trans (HK1.out bb (by simp))))
  (first|refine ⟨fun _=>⟨_,keepS_of HK2.out⟩,?_⟩|refine ⟨⟨_,keepS_of HK2.out⟩,?_⟩)
  refine mix_fin (by simp only [opsOf,List.filterMap_cons,List.filterMap_nil,List.getElem?_toArray,List.getElem?_cons_succ,List.getElem?_cons_zero];rfl) ⟨_,keepS_of HK2.out⟩ ?_
  change wpQuiet _ _ _ _ [_] _
  (repeat (go_big_quiet_step (fail)))
  refine wpQuiet_nil ?_
  go_wp2_with fail
  have HRES:Hid (makerS E i k l1=(mkI 8 0 ⟨#[]⟩ ⟨#[]⟩ [] v2,l3)):=by
   show _=_
   rw [HMK.out]
   rw [HKR.out];show jumpS i l1=_;simp only [jumpS,bindS,HX2.out,pureS] <;> rfl
  obtain ⟨r1,r2,r3⟩:=HY1.out.done (cs:=#[.int .u8 8,.int .u8 0,.string ⟨#[]⟩,.string ⟨#[]⟩,.slice ya 0 yc,.int .i64 0,.int .i64 0])
  rw [HRB.out] at r1 r2
  have r4:=r3 _ _ _ (own_trn HBO.out ((Trn.of_below (S:=fun k=>k=g) HDr.out).trans HTY.out) (fun b hb e=>by have:=own_ge HBO.out hb;have:=HY0.out.hg;have e':b=g:=e;omega))
  rw [HRB.out] at r4
  try simp only [Act.put]
  refine bodyPost_ret (results_cell_tmpR (P:=Tryz.prog) (fn:=Tryz.f15) rfl _ _ rb 44 #[.int .u8 8,.int .u8 0,.string ⟨#[]⟩,.string ⟨#[]⟩,.slice ya 0 yc,.int .i64 0,.int .i64 0] (0,0) _ rfl (setRow_heap _ _ _ _ _ _ HRS.out) Tryz.underlying44 rfl (by as_aux_lemma=>kernel_rfl)) rfl ?_
  unfold MadeR
  rw [HINS.out,HRES.out,HRB.out]
  exact ⟨_,rfl,r4,r1,r2⟩
 ·have hkr:kr=15:=hk16
  clear hk16
  have t0:((kr:Int) == 0)=false:=by simp;omega
  have t1:((kr:Int) == 1)=false:=by simp;omega
  have t2:((kr:Int) == 2)=false:=by simp;omega
  have t3:((kr:Int) == 3)=false:=by simp;omega
  have t4:((kr:Int) == 4)=false:=by simp;omega
  have t5:((kr:Int) == 5)=false:=by simp;omega
  have t6:((kr:Int) == 6)=false:=by simp;omega
  have t7:((kr:Int) == 7)=false:=by simp;omega
  have t8:((kr:Int) == 8)=false:=by simp;omega
  have t9:((kr:Int) == 9)=false:=by simp;omega
  have t10:((kr:Int) == 10)=false:=by simp;omega
  have t11:((kr:Int) == 11)=false:=by simp;omega
  have t12:((kr:Int) == 12)=false:=by simp;omega
  have t13:((kr:Int) == 13)=false:=by simp;omega
  have t14:((kr:Int) == 14)=false:=by simp;omega
  have HKR:=Lib.hid hkr
  clear hkr
  obtain ⟨av,hbx,-⟩:=H0.out.box
  have c0:=row_of hbx 0 (.int .u8 0) rfl
  have f0:=frozen_of_row w4 xb 0 _ _ hbx
  clear hbx
  go_upto_region 7 with fail
  have H1:=Lib.hid (H0.out.kind 11)
  generalize w4.setCell ⟨xb,0,none⟩ (.int .u8 11)=w1 at *
  clear c0 f0
  obtain ⟨wd,ca,cc,aa,ac,fa,fc,mv,h1,-⟩:=(HBD.out.trn H1.out.tr).box
  have b8:=row_of h1 8 _ rfl
  obtain ⟨em,hem⟩:∃ x,E.main=x:=⟨_,rfl⟩
  rw [hem] at b8
  have HEM:=Lib.hid hem
  clear h1 hem
  cases em
  ·obtain ⟨A2,hd⟩:∃ x,(opdsS E.par 1 l1).1=x:=⟨_,rfl⟩
   obtain ⟨l3,hl⟩:∃ x,(opdsS E.par 1 l1).2=x:=⟨_,rfl⟩
   have hc:=operandsR_any bb g s E 1 l1 w1 (HBD.out.trn H1.out.tr) H1.out.tk hsz (by omega)
   have hAl:=opds_len E.par 1 l1
   rw [hd,hl] at hc
   rw [hd] at hAl
   have HD2:=Lib.hid hc
   have HAL2:=Lib.hid hAl
   have HX2:Hid (opdsS E.par 1 l1=(A2,l3)):=(by show _=_;rw [← hd,← hl])
   have hwz:w.heap.size≤w1.heap.size:=H1.out.tr.size
   clear hc hd hl hAl
   go_upto_region 50 with (go_at_call 37;refine HD2.out.mono ?_;rintro e z2 ⟨v,rfl,ho,hs1,ht1⟩;have G2:=Lib.hid (H1.out.took ht1 hs1);have hou:=own_upS ho hwz;obtain ⟨xa2,xc2,rfl,-⟩:=own_read ho;have HO2:=Lib.hid hou;clear hs1 ht1 ho hou;obtain ⟨av,hbx,-⟩:=G2.out.box;have c0:=row_of hbx 0 (.int .u8 11) rfl;have f0:=frozen_of_row z2 xb 0 _ _ hbx;have c4:=row_of hbx 4 (av) rfl;have f4:=frozen_of_row z2 xb 4 _ _ hbx;clear hbx)
   have HO2':Hid (z2.ownsRow w.heap.size 47 2 (.slice xa2 1 xc2) A2.length (A2.flatMap argCells)):=by show World.ownsRow _ _ _ _ _ _ _;rw [HAL2.out];exact HO2.out
   clear HD2 HO2
   have HO2':=Lib.hid (own_trn HO2'.out (setCell_trn z2 ⟨xb,0,none⟩ (.int .u8 12)) (fun b hb e=>by obtain ⟨av,hbx,-⟩:=G2.out.box;exact not_own HO2'.out hbx (by decide) (by have e':b=xb:=e;rw [← e'];exact hb)))
   have H2:=Lib.hid ((G2.out.kind 12).putArgs HO2'.out)
   generalize (z2.setCell ⟨xb,0,none⟩ (.int .u8 12)).setCell ⟨xb,4,none⟩ (.slice xa2 1 xc2)=w2 at *
   clear c0 f0 c4 f4
   obtain ⟨av,hbx,hbo⟩:=H2.out.box
   obtain ⟨ya,yc,rfl,-⟩:=own_read hbo
   have HBO:=Lib.hid hbo
   have HRS:=Lib.hid H2.out.res
   rw [HRB.out] at HRS
   have p0:=row_of hbx 0 _ rfl
   have p1:=row_of hbx 1 _ rfl
   have p2:=row_of hbx 2 _ rfl
   have p3:=row_of hbx 3 _ rfl
   have p4:=row_of hbx 4 _ rfl
   have p5:=row_of hbx 5 _ rfl
   have p6:=row_of hbx 6 _ rfl
   clear hbx hbo
   go_wp2_with (refine wpList_store_row rfl 44 (.tmp 4) (.tmp 203) rfl rb #[.int .u8 12,.int .u8 0,.string ⟨#[]⟩,.string ⟨#[]⟩,.slice ya A2.length yc,.int .i64 0,.int .i64 0] rfl rfl 44 #[.int .u8 0,.int .u8 0,.string ⟨#[]⟩,.string ⟨#[]⟩,.slice none 0 0,.int .i64 0,.int .i64 0] HRS.out (by as_aux_lemma=>kernel_rfl) (by as_aux_lemma=>kernel_rfl) (by as_aux_lemma=>kernel_rfl) ?_)
   try simp only [Act.put]
   have HRES:Hid (makerS E i k l1=(mkI 12 0 ⟨#[]⟩ ⟨#[]⟩ A2,l3)):=by
    show _=_
    rw [HMK.out]
    rw [HKR.out];show endS E l1=_;unfold endS;rw [if_neg (by rw [HEM.out];simp)];simp only [bindS,HX2.out,pureS] <;> rfl
   obtain ⟨r1,r2,r3⟩:=H2.out.done (cs:=#[.int .u8 12,.int .u8 0,.string ⟨#[]⟩,.string ⟨#[]⟩,.slice ya A2.length yc,.int .i64 0,.int .i64 0])
   rw [HRB.out] at r1 r2
   have r4:=r3 _ _ _ HBO.out
   rw [HRB.out] at r4
   refine bodyPost_ret (results_cell_tmpR (P:=Tryz.prog) (fn:=Tryz.f15) rfl _ _ rb 44 #[.int .u8 12,.int .u8 0,.string ⟨#[]⟩,.string ⟨#[]⟩,.slice ya A2.length yc,.int .i64 0,.int .i64 0] (0,0) _ rfl (setRow_heap _ _ _ _ _ _ HRS.out) Tryz.underlying44 rfl (by as_aux_lemma=>kernel_rfl)) rfl ?_
   unfold MadeR
   rw [HINS.out,HRES.out,HRB.out]
   exact ⟨_,rfl,r4,r1,r2⟩
  ·obtain ⟨av,hbx,hbo⟩:=H1.out.box
   obtain ⟨ya,yc,rfl,-⟩:=own_read hbo
   simp only [List.length_nil] at hbx
   have HBO:=Lib.hid hbo
   have HRS:=Lib.hid H1.out.res
   rw [HRB.out] at HRS
   have p0:=row_of hbx 0 _ rfl
   have p1:=row_of hbx 1 _ rfl
   have p2:=row_of hbx 2 _ rfl
   have p3:=row_of hbx 3 _ rfl
   have p4:=row_of hbx 4 _ rfl
   have p5:=row_of hbx 5 _ rfl
   have p6:=row_of hbx 6 _ rfl
   clear hbx hbo
   go_wp2_with (refine wpList_store_row rfl 44 (.tmp 4) (.tmp 203) rfl rb #[.int .u8 11,.int .u8 0,.string ⟨#[]⟩,.string ⟨#[]⟩,.slice ya 0 yc,.int .i64 0,.int .i64 0] rfl rfl 44 #[.int .u8 0,.int .u8 0,.string ⟨#[]⟩,.string ⟨#[]⟩,.slice none 0 0,.int .i64 0,.int .i64 0] HRS.out (by as_aux_lemma=>kernel_rfl) (by as_aux_lemma=>kernel_rfl) (by as_aux_lemma=>kernel_rfl) ?_)
   try simp only [Act.put]
   have HRES:Hid (makerS E i k l1=(mkI 11 0 ⟨#[]⟩ ⟨#[]⟩ [],l1)):=by
    show _=_
    rw [HMK.out]
    rw [HKR.out];show endS E l1=_;unfold endS;rw [if_pos HEM.out];rfl --
   obtain ⟨r1,r2,r3⟩:=H1.out.done (cs:=#[.int .u8 11,.int .u8 0,.string ⟨#[]⟩,.string ⟨#[]⟩,.slice ya 0 yc,.int .i64 0,.int .i64 0])
   rw [HRB.out] at r1 r2
   have r4:=r3 _ _ _ HBO.out
   rw [HRB.out] at r4
   refine bodyPost_ret (results_cell_tmpR (P:=Tryz.prog) (fn:=Tryz.f15) rfl _ _ rb 44 #[.int .u8 11,.int .u8 0,.string ⟨#[]⟩,.string ⟨#[]⟩,.slice ya 0 yc,.int .i64 0,.int .i64 0] (0,0) _ rfl (setRow_heap _ _ _ _ _ _ HRS.out) Tryz.underlying44 rfl (by as_aux_lemma=>kernel_rfl)) rfl ?_
   unfold MadeR
   rw [HINS.out,HRES.out,HRB.out]
   exact ⟨_,rfl,r4,r1,r2⟩
end Go.Proofs.YtfdinncgncbmfaaGreatDoor
