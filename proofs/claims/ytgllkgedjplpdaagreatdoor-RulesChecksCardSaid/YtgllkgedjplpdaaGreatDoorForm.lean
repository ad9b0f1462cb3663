/- Contracts of prog.need and names.declare: they return, or panic with the fault that the plain functions needF and declF give. Conditions: the string has at most 2^63 - 1 bytes; the map is a set of strings. -/
import Derived.Test.YtgllkgedjplpdaaGreatDoorSpec
import Derived.Test.YtgllkgedjplpdaaGreatDoorMix
import Derived.Deep.DeepCutAuto
import Derived.Deep.RegionWith
set_option linter.all false
set_option maxRecDepth 1000000
set_option maxHeartbeats 12800000
set_option linter.unusedVariables false
set_option linter.unusedSimpArgs false
namespace Go.Proofs.YtgllkgedjplpdaaGreatDoor
open Go.ChangeShapes Go.WideShapes Go.ChangeAt Go.RowKit
theorem Laid.ext {w:World} (h:Laid w) (x:World):Laid (ext w x):=h.keep (ext_below w x)
abbrev faultV (f:FaultD):Value:=.iface 100 (.agg #[.int .i64 f.line,.int .i64 f.col,.int .i64 f.e])
def endF:Option FaultD->Ending
 | none=>.returned (.tuple #[])
 | some f=>.panicked [{ v:=faultV f,recovered:=false }]
theorem grown_of_below {w w':World} (h:Below w.heap.size w w') (row:Option Nat):w.grownBy w' row:=
 ⟨h.1,h.2,h.3,h.size,fun k hk _=>h.block k hk⟩
theorem grown_trans {w a b:World} {row:Option Nat} (h:w.grownBy a row) (k:a.grownBy b row):w.grownBy b row:=
 ⟨k.os.trans h.os,k.tape.trans h.tape,k.output.trans h.output,Nat.le_trans h.size k.size,fun i hi hr=>(k.block i (Nat.lt_of_lt_of_le hi h.size) hr).trans (h.block i hi hr)⟩
theorem names_zero (w:World):(zeroValue 4).run Tryz.prog w=.ok (.bool false) w:=by kernel_rfl
theorem need_ok (l c e:Int) (w:World):Calls Tryz.prog 81 #[.bool true,.agg #[.int .i64 l,.int .i64 c],.int .i64 e] w fun e' w'=>e'=.returned (.tuple #[])/\Below w.heap.size w w':=by
 go_enter Tryz.func81,Tryz.ntmps81
 go_wp2
 go_end0
 exact ⟨rfl,(bR _ _).alloc (nR _) _⟩
theorem need_bad (l c e:Int) (w:World):Calls Tryz.prog 81 #[.bool false,.agg #[.int .i64 l,.int .i64 c],.int .i64 e] w fun e' w'=>e'=.panicked [{ v:=faultV ⟨l,c,e⟩,recovered:=false }]/\Below w.heap.size w w':=by
 go_enter Tryz.func81,Tryz.ntmps81
 go_wp2
 exact ⟨rfl,rfl,(bR _ _).alloc (nR _) _⟩
theorem declare_any (b:Nat) (acc:List ByteArray) (s:ByteArray) (l c:Int) (w:World) (hs:s.size<=maxLen) (hL:Laid w) (hS:SetIs w b acc) :
  Calls Tryz.prog 82 #[.map (some b),.string s,.agg #[.int .i64 l,.int .i64 c]] w fun e w'=>e=endF (declF acc s l c)/\(declF acc s l c=none->SetIs w' b (acc ++ [s]))/\w.grownBy w' (some b):=by
 have c1:=fun (w:World) (hL:Laid w)=>named_any s w hs hL
 have HL1:Hid (∀ A:Obj,Laid (w.alloc A)):=fun A=>hL.keep ((bR _ _).alloc (nR _) _)
 have HS:=Hd hS
 clear hL hS
 cases hn:named s
 ·rw [hn] at c1
  have hd:declF acc s l c=some ⟨l,c,4⟩:=by unfold declF;rw [hn];rfl
  rw [hd]
  have C1:=Hd c1
  clear c1 hn hd
  go_enter Tryz.func82,Tryz.ntmps82
  go_upto_region 1 with fail
  have hb0:Below w.heap.size w (w.alloc (.cells #[.int .i64 l,.int .i64 c] 35)):=(bR _ _).alloc (nR _) _
  have G0:=heap_alloc_new w (.cells #[.int .i64 l,.int .i64 c] 35)
  have HLd:=Hd (HL1.out (.cells #[.int .i64 l,.int .i64 c] 35))
  generalize w.alloc (.cells #[.int .i64 l,.int .i64 c] 35)=W1 at *
  have e0:=ext_cell (row_of G0 0 (.int .i64 l) rfl)
  have e1:=ext_cell (row_of G0 1 (.int .i64 c) rfl)
  have HB0:=Hd hb0
  clear G0 hb0
  (refine wp_region_calm_tail 3 (by kernel_rfl) (by kernel_rfl) ?_; simp only [List.take_succ_cons, List.take_zero, List.drop_succ_cons, List.drop_zero]; (repeat (go_big_quiet_step ((go_at_call 114;exact calls_calm (C1.out _ (HLd.out.ext _)))))); refine wpQuiet_nil ?_; intro wc hwc)
  clear e0 e1
  go_wp2_with (go_at_call 81;refine (need_bad l c 4 _).mono ?_;rintro e w2 ⟨rfl,hb2⟩)
  exact ⟨rfl,rfl,(fun h=>nomatch h),grown_of_below (bcomp (bcomp HB0.out hwc) hb2) _⟩
 ·rw [hn] at c1
  have C1:=Hd c1
  have HN:=Hd hn
  clear c1 hn
  go_enter Tryz.func82,Tryz.ntmps82
  go_upto_region 1 with fail
  have hb0:Below w.heap.size w (w.alloc (.cells #[.int .i64 l,.int .i64 c] 35)):=(bR _ _).alloc (nR _) _
  have G0:=heap_alloc_new w (.cells #[.int .i64 l,.int .i64 c] 35)
  have HLd:=Hd (HL1.out (.cells #[.int .i64 l,.int .i64 c] 35))
  generalize w.alloc (.cells #[.int .i64 l,.int .i64 c] 35)=W1 at *
  have r0:=row_of G0 0 (.int .i64 l) rfl
  have r1:=row_of G0 1 (.int .i64 c) rfl
  have e0:=ext_cell r0
  have e1:=ext_cell r1
  have HB0:=Hd hb0
  have R:=Hd (And.intro r0 r1)
  clear G0 hb0 r0 r1
  (refine wp_region_calm_tail 3 (by kernel_rfl) (by kernel_rfl) ?_; simp only [List.take_succ_cons, List.take_zero, List.drop_succ_cons, List.drop_zero]; (repeat (go_big_quiet_step ((go_at_call 114;exact calls_calm (C1.out _ (HLd.out.ext _)))))); refine wpQuiet_nil ?_; intro wc hwc)
  clear e0 e1
  have HB1:=Hd (bcomp HB0.out hwc)
  cases hi:inL s acc
  ·have hd:Hid (declF acc s l c=none):=by show _=_;unfold declF;rw [HN.out,hi];rfl
   have hp:Hid (putL s acc=acc ++ [s]):=by show _=_;unfold putL;rw [hi];rfl
   have HI:=Hd hi
   clear hi
   go_wp2_with fail
   refine (need_ok l c 4 _).mono ?_
   rintro e w2 ⟨rfl,hb2⟩
   have f0:=cell_keep (bcomp hwc hb2) R.out.1
   have f1:=cell_keep (bcomp hwc hb2) R.out.2
   have HS2:=Hd (HS.out.keep (bcomp HB1.out hb2))
   clear R
   go_wp2_with (at_lookup;refine wpList_set_lookup rfl _ _ _ rfl _ _ Tryz.underlying9 Tryz.underlying103 (names_zero _) b acc rfl s rfl hs HS2.out ?_;rw [HI.out])
   refine (need_ok l c 8 _).mono ?_
   rintro e w3 ⟨rfl,hb3⟩
   have HS3:=Hd (HS2.out.keep hb3)
   clear HS2
   go_wp2_with (at_mapUpdate;refine wpList_set_store rfl _ _ _ _ rfl _ _ Tryz.underlying9 Tryz.underlying103 b acc rfl s rfl rfl hs HS3.out ?_;intro w4 hs4 hg4 hz4)
   go_end0
   exact ⟨by rw [hd.out];rfl,fun _=>by rw [<- hp.out];exact hs4,grown_trans (grown_of_below (bcomp (bcomp HB1.out hb2) hb3) _) hg4⟩
  ·have hd:Hid (declF acc s l c=some ⟨l,c,8⟩):=by show _=_;unfold declF;rw [HN.out,hi];rfl
   have HI:=Hd hi
   clear hi
   go_wp2_with fail
   refine (need_ok l c 4 _).mono ?_
   rintro e w2 ⟨rfl,hb2⟩
   have f0:=cell_keep (bcomp hwc hb2) R.out.1
   have f1:=cell_keep (bcomp hwc hb2) R.out.2
   have HS2:=Hd (HS.out.keep (bcomp HB1.out hb2))
   clear R
   go_wp2_with (at_lookup;refine wpList_set_lookup rfl _ _ _ rfl _ _ Tryz.underlying9 Tryz.underlying103 (names_zero _) b acc rfl s rfl hs HS2.out ?_;rw [HI.out])
   refine (need_bad l c 8 _).mono ?_
   rintro e w3 ⟨rfl,hb3⟩
   refine ⟨rfl,by rw [hd.out];rfl,fun h=>?_,grown_of_below (bcomp (bcomp HB1.out hb2) hb3) _⟩
   rw [hd.out] at h;cases h
open Go.ChangeShapes Go.WideShapes Go.ChangeAt Go.RowKit
structure Turned (S:Nat->Prop) (w w':World):Prop where
 os:w'.os=w.os
 tape:w'.tape=w.tape
 output:w'.output=w.output
 size:w.heap.size<=w'.heap.size
 block:∀ k,k<w.heap.size->¬ S k->w'.heap[k]?=w.heap[k]?
theorem Turned.refl (S:Nat->Prop) (w:World):Turned S w w:=⟨rfl,rfl,rfl,nR _,fun _ _ _=>rfl⟩
theorem Turned.of_below {S:Nat->Prop} {w w':World} (h:Below w.heap.size w w'):Turned S w w':=⟨h.1,h.2,h.3,h.size,fun k hk _=>h.block k hk⟩
theorem Turned.of_grown {S:Nat->Prop} {w w':World} {row:Option Nat} (h:w.grownBy w' row) (hr:∀ b,row=some b->S b):Turned S w w':=
 ⟨h.os,h.tape,h.output,h.size,fun k hk hs=>h.block k hk (fun e=>hs (hr k e.symm))⟩
theorem Turned.trans {S:Nat->Prop} {w a b:World} (h:Turned S w a) (k:Turned S a b):Turned S w b:=
 ⟨k.os.trans h.os,k.tape.trans h.tape,k.output.trans h.output,Nat.le_trans h.size k.size,fun i hi hs=>(k.block i (Nat.lt_of_lt_of_le hi h.size) hs).trans (h.block i hi hs)⟩
theorem Turned.step {S T:Nat->Prop} {w a b:World} (h:Turned S w a) (k:Turned T a b) (hs:∀ i,i<w.heap.size->T i->S i):Turned S w b:=
 ⟨k.os.trans h.os,k.tape.trans h.tape,k.output.trans h.output,Nat.le_trans h.size k.size,fun i hi hn=>(k.block i (Nat.lt_of_lt_of_le hi h.size) (fun e=>hn (hs i hi e))).trans (h.block i hi hn)⟩
theorem Turned.mono {S T:Nat->Prop} {w a:World} (h:Turned S w a) (hs:∀ i,S i->T i):Turned T w a:=⟨h.os,h.tape,h.output,h.size,fun i hi hn=>h.block i hi (fun e=>hn (hs i e))⟩
theorem Turned.below {S:Nat->Prop} {w a:World} (h:Turned S w a) (B:Nat) (hB:B<=w.heap.size) (hs:∀ i,S i->B<=i):Below B w a:=
 ⟨h.os,h.tape,h.output,h.size,fun k hk=>h.block k (by omega) (fun e=>by have:=hs k e;omega)⟩
theorem below_then {B:Nat} {w a b:World} (h:Below B w a) {S:Nat->Prop} (k:Turned S a b) (hB:B<=a.heap.size) (hs:∀ i,S i->B<=i):Below B w b:=h.trans (k.below B hB hs)
theorem Turned.cell {S:Nat->Prop} {w a:World} (h:Turned S w a) {x:Addr} {v:Value} (hc:w.cell? x=some v) (hs:¬ S x.block):a.cell? x=some v:=by
 rw [World.cell?_of_block (w:=w) (h.block x.block (block_lt_of_cell hc) hs)];exact hc
theorem setCell_turned (w:World) (a:Addr) (v:Value):Turned (fun k=>k=a.block) w (w.setCell a v):=
 ⟨rfl,rfl,rfl,by simp,fun k _ hs=>heap_setCell_other w a k v (fun e=>hs e)⟩
def Kept (w w':World):Prop:=∀ b o v,w.cell? ⟨b,o,none⟩=some v->w'.cell? ⟨b,o,none⟩=some v
theorem Kept.refl (w:World):Kept w w:=fun _ _ _ h=>h
theorem Kept.trans {w a b:World} (h:Kept w a) (k:Kept a b):Kept w b:=fun x o v hc=>k x o v (h x o v hc)
theorem Kept.of_below {w w':World} (h:Below w.heap.size w w'):Kept w w':=fun _ _ _ hc=>cell_keep h hc
theorem map_no_cell {w:World} {b:Nat} {L:List (ByteArray × Value)} (h:MapIs w b L) (o:Nat) (v:Value):w.cell? ⟨b,o,none⟩ ≠ some v:=by
 obtain ⟨es,clock,hb,_⟩:=h
 simp [World.cell?,hb]
theorem Kept.of_map {w w':World} {b:Nat} {L:List (ByteArray × Value)} (h:w.grownBy w' (some b)) (hm:MapIs w b L):Kept w w':=by
 intro x o v hc
 have hx:x ≠ b:=fun e=>by subst e;exact map_no_cell hm o v hc
 rw [World.cell?_of_block (w:=w) (h.block x (block_lt_of_cell hc) (by simpa using hx))];exact hc
theorem kept_hF {w w':World}:∀ T b,Any T->b<w.heap.size->Free none T w b->Free none T w' b:=fun T b _ _ _=>Free.none T w' b
theorem kept_hC {w w':World} (k:Kept w w'):∀ T b o v,Any T->Free none T w b->w.cell? ⟨b,o,none⟩=some v->w'.cell? ⟨b,o,none⟩=some v:=fun _ b o v _ _ h=>k b o v h
theorem RdStrs.kept {w w':World} {v:Value} {l:List ByteArray} (h:RdStrs none w v l) (k:Kept w w'):RdStrs none w' v l:=RdStrs.map kept_hF (kept_hC k) trivial h
theorem RdInstr.kept {w w':World} {x:InstrD} {av:Value} (h:RdInstr none w x av) (k:Kept w w'):RdInstr none w' x av:=RdInstr.map kept_hF (kept_hC k) trivial h
theorem RdFunc.kept {w w':World} {x:FuncD} {pv cv:Value} (h:RdFunc none w x pv cv) (k:Kept w w'):RdFunc none w' x pv cv:=RdFunc.map kept_hF (kept_hC k) trivial trivial trivial h
theorem Laid.kept {w w':World} (h:Laid w) (k:Kept w w'):Laid w':=
 ⟨by obtain ⟨v,h1,h2⟩:=h.kw;exact ⟨v,k _ _ _ h1,h2.kept k⟩,fun i x hx=>by obtain ⟨h1,h2,h3⟩:=h.forms i x hx;exact ⟨k _ _ _ h1,k _ _ _ h2,k _ _ _ h3⟩⟩
theorem SetIs.turn {S:Nat->Prop} {w w':World} {b:Nat} {l:List ByteArray} (h:SetIs w b l) (k:Turned S w w') (hs:¬ S b):SetIs w' b l:=h.at (k.block b h.lt hs)
theorem IntsIs.turn {S:Nat->Prop} {w w':World} {b:Nat} {l:List (ByteArray × Int)} (h:IntsIs w b l) (k:Turned S w w') (hs:¬ S b):IntsIs w' b l:=h.at (k.block b h.lt hs)
theorem own_turn {S:Nat->Prop} {w w':World} {base:Nat} {e:TypeId} {size:Nat} {v:Value} {n:Nat} {xs:List Value} (h:w.ownsRow base e size v n xs) (hb:Turned S w w') (hs:∀ k,v.ownBlock=some k->¬ S k):w'.ownsRow base e size v n xs:=by
 obtain ⟨hl,h|⟨g,cap,cur,rfl,hg,hc,hr⟩⟩:=h
 ·exact ⟨hl,.inl h⟩
 ·exact ⟨hl,.inr ⟨g,cap,cur,rfl,hg,(hb.block g (aE hc).1 (hs g (by simp [Value.ownBlock]))).trans hc,hr⟩⟩
theorem own_is {w:World} {base:Nat} {e:TypeId} {size:Nat} {v:Value} {n:Nat} {xs:List Value} (h:w.ownsRow base e size v n xs) {k:Nat} (hk:v.ownBlock=some k):base<=k/\∃ cur,w.heap[k]?=some (.cells cur e (0,0)):=by
 obtain ⟨_,⟨rfl,_⟩|⟨g,cap,cur,rfl,hg,hb,_⟩⟩:=h
 ·simp [Value.ownBlock] at hk
 ·simp only [Value.ownBlock,Option.some.injEq] at hk
  subst hk
  exact ⟨hg,cur,hb⟩
theorem own_ne_map {w:World} {base:Nat} {e:TypeId} {size:Nat} {v:Value} {n:Nat} {xs:List Value} (h:w.ownsRow base e size v n xs) {b:Nat} {L:List (ByteArray × Value)} (hm:MapIs w b L):v.ownBlock ≠ some b:=by
 intro hk
 obtain ⟨_,cur,hb⟩:=own_is h hk
 obtain ⟨es,cl,h',_⟩:=hm
 rw [hb] at h';cases h'
theorem own_ne_cells {w:World} {base:Nat} {e:TypeId} {size:Nat} {v:Value} {n:Nat} {xs:List Value} (h:w.ownsRow base e size v n xs) {b:Nat} {cs:Array Value} {T:TypeId} (hc:w.heap[b]?=some (.cells cs T (0,0))) (hT:T ≠ e):v.ownBlock ≠ some b:=by
 intro hk
 obtain ⟨_,cur,hb⟩:=own_is h hk
 rw [hc] at hb;simp at hb;exact hT hb.2
theorem map_ne_cells {w:World} {b g:Nat} {L:List (ByteArray × Value)} (hm:MapIs w b L) {cs:Array Value} {T:TypeId} (hc:w.heap[g]?=some (.cells cs T (0,0))):b ≠ g:=by
 intro e
 obtain ⟨es,cl,h',_⟩:=hm
 rw [e,hc] at h';cases h'
theorem set_look {P:Program} {k e t:TypeId} {W:World} {b:Nat} {l:List ByteArray} (hk:P.underlying k=some .string) (ht:P.underlying t=some (.map k e)) (hz:∀ w,(zeroValue e).run P w=.ok (.bool false) w) (h:SetIs W b l) (s:ByteArray) (hs:s.size<=maxLen) (v:Bool) (hv:inL s l=v) (x:World) :
  (Instr.lookup t (.map (some b)) (.string s) false).run P (ext W x)=.ok (.bool v) (ext W x):=by
 rw [<- hv];exact (h.keep (ext_below W x)).lookup hk ht (hz _) s hs
theorem set_len {P:Program} {k e t:TypeId} {W:World} {b:Nat} {l:List ByteArray} (ht:P.underlying t=some (.map k e)) (h:SetIs W b l) (ty:TypeId) (x:World) :
  (Builtin.len_ #[t] ty #[.map (some b)]).run P (ext W x)=.ok (.int .i64 l.length) (ext W x):=(h.keep (ext_below W x)).len ht ty
theorem ints_look {P:Program} {k e t:TypeId} {W:World} {b:Nat} {l:List (ByteArray × Int)} (hk:P.underlying k=some .string) (ht:P.underlying t=some (.map k e)) (hz:∀ w,(zeroValue e).run P w=.ok (.int .i64 0) w) (h:IntsIs W b l) (hd:l.Pairwise (fun p q=>p.1 ≠ q.1)) (s:ByteArray) (hs:s.size<=maxLen) (n:Int) (v:Bool) (hn:(atL s l).getD 0=n) (hv:(atL s l).isSome=v) (x:World) :
  (Instr.lookup t (.map (some b)) (.string s) true).run P (ext W x)=.ok (.tuple #[.int .i64 n,.bool v]) (ext W x):=by
 rw [<- hv,<- hn];exact (h.keep (ext_below W x)).lookup hk ht (hz _) hd s hs
theorem firstF_fault {α:Type} {f:List α->α->Option FaultD} {l:List α} {k:Nat} {x:α} {F:FaultD} (h:firstF f [] l=firstF f (l.take k) (l.drop k)) (hx:l[k]?=some x) (hf:f (l.take k) x=some F):firstF f [] l=some F:=by
 rw [h,firstF_step f l k x hx,hf];rfl
theorem firstF_ok {α:Type} {f:List α->α->Option FaultD} {l:List α} {k:Nat} {x:α} (h:firstF f [] l=firstF f (l.take k) (l.drop k)) (hx:l[k]?=some x) (hf:f (l.take k) x=none):firstF f [] l=firstF f (l.take (k+1)) (l.drop (k+1)):=by
 rw [h,firstF_step f l k x hx,hf];rfl
theorem firstF_end {α:Type} {f:List α->α->Option FaultD} {l:List α} (h:firstF f [] l=firstF f (l.take l.length) (l.drop l.length)):firstF f [] l=none:=by
 rw [h];simp [firstF]
open Go.ChangeShapes Go.WideShapes Go.ChangeAt Go.RowKit
theorem formL_len:formL.length=13:=rfl
theorem field_cases (d:Bool) (s:ByteArray):(fieldB d s=false/\d=true/\named s=false) \/ (fieldB d s=false/\d=false/\named s=true) \/ (fieldB d s=false/\d=false/\named s=false/\s.toList.isEmpty=false) \/
  (fieldB d s=true/\d=true/\named s=true) \/ (fieldB d s=true/\d=false/\named s=false/\s.toList.isEmpty=true):=by
 cases d
 ·cases h:s.toList.isEmpty
  ·cases h2:named s <;> simp [fieldB,h]
  ·simp [fieldB,h,named_empty h]
 ·cases h2:named s <;> simp [fieldB,h2]
theorem formL_n (k:Nat) (f:Bool × Bool × Int) (h:formL[k]?=some f):-1<=f.2.2/\f.2.2<=2/\(f.2.2=-1 ↔ k=4):=by
 have hk:k<13:=by have:=(lE h).1;rw [formL_len] at this;exact this
 have:k=0 \/ k=1 \/ k=2 \/ k=3 \/ k=4 \/ k=5 \/ k=6 \/ k=7 \/ k=8 \/ k=9 \/ k=10 \/ k=11 \/ k=12:=by omega
 rcases this with rfl|rfl|rfl|rfl|rfl|rfl|rfl|rfl|rfl|rfl|rfl|rfl|rfl <;> (cases h;simp)
theorem op_cases (x:InstrD) (n:Int) (k:Nat) (hk:x.kind=(k:Int)) (h0:0<=x.op):(opB x=false/\k=1/\x.op<2) \/ (opB x=false/\k=1/\20<x.op) \/ (opB x=true/\k=1/\2<=x.op/\x.op<=20/\wantZ x n=arityZ x.op) \/ (opB x=false/\k ≠ 1/\x.op ≠ 0) \/ (opB x=true/\k ≠ 1/\x.op=0/\wantZ x n=n):=by
 unfold opB wantZ
 by_cases h:k=1
 ·have:x.kind=1:=by omega
  rw [if_pos this,if_pos this]
  by_cases h1:x.op<2
  ·left;(simp [h,h1] <;> omega)
  ·by_cases h2:20<x.op
   ·right;left;(simp [h,h2] <;> omega)
   ·right;right;left;(simp [h] <;> omega)
 ·have:¬ x.kind=1:=by omega
  rw [if_neg this,if_neg this]
  by_cases h1:x.op=0
  ·right;right;right;right;simp [h,h1]
  ·right;right;right;left;exact ⟨by simp [h1],h,h1⟩
theorem formB_op (x:InstrD) (h:opB x=false):formB x=false:=by
 unfold formB
 split
 ·rfl
 ·simp [h]
theorem arg_cases (y:ArgD):(argB y=true/\y.name.toList.isEmpty=true) \/ (argB y=false/\y.name.toList.isEmpty=false/\named y.name=false) \/ (argB y=true/\y.name.toList.isEmpty=false/\named y.name=true/\(y.num != 0)=false) \/ (argB y=false/\y.name.toList.isEmpty=false/\named y.name=true/\(y.num != 0)=true):=by
 unfold argB
 cases h1:y.name.toList.isEmpty
 ·cases h2:named y.name
  ·simp
  ·cases h3:(y.num != 0)
   ·right;right;left
    have:y.num=0:=by simpa using h3
    simp [this]
   ·right;right;right
    have:¬ y.num=0:=by simpa using h3
    simp [this]
 ·simp
theorem all_miss {l:List ArgD} {k:Nat} {y:ArgD} (h:l[k]?=some y) (ha:argB y=false):l.all argB=false:=by
 rw [List.all_eq_false]
 exact ⟨y,List.mem_of_getElem? h,by rw [ha];simp⟩
theorem all_hit {l:List ArgD} (h:∀ (k:Nat) y,l[k]?=some y->argB y=true):l.all argB=true:=by
 rw [List.all_eq_true]
 intro y hy
 obtain ⟨k,hk⟩:=List.getElem?_of_mem hy
 exact h k y hk
def fbad (d nm:Bool) (x:InstrD):Bool:=!(fieldB d x.dst && fieldB nm x.name)
theorem fbad_left (d nm:Bool) (x:InstrD) (h1:fieldB d x.dst=false):fbad d nm x=true:=by unfold fbad;rw [h1];rfl
theorem fbad_is (d nm:Bool) (x:InstrD) (a b:Bool) (h1:fieldB d x.dst=a) (h2:fieldB nm x.name=b):fbad d nm x=!(a && b):=by unfold fbad;rw [h1,h2]
def cbad (x:InstrD) (z:Int):Bool:=!((decide (z<0) || decide ((x.args.length:Int)=z)) && decide (x.args.length<=32))
theorem cbad_cases (x:InstrD) (z:Int):(cbad x z=true/\z<0/\32<(x.args.length:Int)) \/ (cbad x z=false/\z<0/\(x.args.length:Int)<=32) \/ (cbad x z=true/\0<=z/\((x.args.length:Int) != z)=true) \/
  (cbad x z=true/\0<=z/\((x.args.length:Int) != z)=false/\32<(x.args.length:Int)) \/ (cbad x z=false/\0<=z/\((x.args.length:Int) != z)=false/\(x.args.length:Int)<=32):=by
 unfold cbad
 by_cases h1:z<0 <;> by_cases h2:(x.args.length:Int)=z <;> by_cases h3:x.args.length<=32 <;> simp [h1,h2,h3] <;> omega
theorem decide_nonneg (z:Int):(z<0->decide (0<=z)=false)/\(0<=z->decide (0<=z)=true):=⟨fun h=>decide_eq_false (by omega),fun h=>decide_eq_true h⟩
theorem formB_bad (x:InstrD) (d nm:Bool) (n:Int) (hf:formL[x.kind.toNat]?=some (d,nm,n)) (h:fbad d nm x=true):formB x=false:=by
 unfold formB fbad at *
 rw [hf]
 simp only
 cases h1:fieldB d x.dst <;> cases h2:fieldB nm x.name <;> simp_all
theorem formB_count (x:InstrD) (d nm:Bool) (n z:Int) (hf:formL[x.kind.toNat]?=some (d,nm,n)) (hz:wantZ x n=z) (h:cbad x z=true):formB x=false:=by
 have:countB x n=false:=by
  unfold cbad at h
  unfold countB
  rw [hz]
  revert h
  cases (decide (z<0) || decide ((x.args.length:Int)=z)) <;> cases decide (x.args.length<=32) <;> simp
 unfold formB
 rw [hf]
 simp [this]
theorem formB_rest (x:InstrD) (d nm:Bool) (n z:Int) (hf:formL[x.kind.toNat]?=some (d,nm,n)) (ho:opB x=true) (hz:wantZ x n=z) (hb:fbad d nm x=false) (h:cbad x z=false):formB x=x.args.all argB:=by
 have h1:countB x n=true:=by
  unfold cbad at h
  unfold countB
  rw [hz]
  revert h
  cases (decide (z<0) || decide ((x.args.length:Int)=z)) <;> cases decide (x.args.length<=32) <;> simp
 have h2:fieldB d x.dst=true/\fieldB nm x.name=true:=by
  unfold fbad at hb
  simpa using hb
 unfold formB
 rw [hf]
 simp [h1,h2.1,h2.2,ho]
theorem formed_any (x:InstrD) (av:Value) (w:World) (h:RdInstr none w x av) (hL:Laid w) :
  Calls Tryz.prog 115 #[instrV x av] w fun e w'=>e=.returned (.bool (formB x))/\Below w.heap.size w w':=by
 obtain ⟨h1,hk,ho,hli,hco,hds,hns⟩:=h
 obtain ⟨a,c,rfl,hlen,hr⟩:=id h1
 have H1:=Hd h1
 have HR:=Hd hr
 have HLd:=Hd hL
 clear h1 hr hL
 obtain ⟨hk0,hk1⟩:=hk
 obtain ⟨ho0,ho1⟩:=ho
 have hwk:wrap64 x.kind=x.kind:=by unfold wrap64;omega
 by_cases hk13:13<=x.kind
 ·have HV:Hid (formB x=false):=by
   show _=_
   unfold formB
   rw [List.getElem?_eq_none (by rw [formL_len];omega)]
  go_enter Tryz.func115,Tryz.ntmps115
  go_wp2
  go_ret
  exact ⟨by rw [HV.out];rfl,(bR _ _).alloc (nR _) _⟩
 ·obtain ⟨⟨d,nm,n⟩,hf⟩:∃ f,formL[x.kind.toNat]?=some f:=⟨_,lG (by rw [formL_len];omega)⟩
  obtain ⟨g0,g1,g2⟩:=HLd.out.forms _ _ hf
  have HF:=Hd hf
  generalize hkn:x.kind.toNat=kn at *
  have ekn:x.kind=(kn:Int):=by omega
  have hkn13:kn<13:=by omega
  go_enter Tryz.func115,Tryz.ntmps115
  go_upto_region 1 with fail
  have hb0:Below w.heap.size w (w.alloc (.cells #[.int .u8 x.kind,.int .u8 x.op,.string x.dst,.string x.name,.slice a x.args.length c,.int .i64 x.line,.int .i64 x.col] 50)):=(bR _ _).alloc (nR _) _
  have G0:=heap_alloc_new w (.cells #[.int .u8 x.kind,.int .u8 x.op,.string x.dst,.string x.name,.slice a x.args.length c,.int .i64 x.line,.int .i64 x.col] 50)
  rw [ekn] at hb0 G0
  generalize w.alloc (.cells #[.int .u8 (kn:Int),.int .u8 x.op,.string x.dst,.string x.name,.slice a x.args.length c,.int .i64 x.line,.int .i64 x.col] 50)=W1 at *
  have i0:=row_of G0 0 (.int .u8 kn) rfl
  have i1:=row_of G0 1 (.int .u8 x.op) rfl
  have i2:=row_of G0 2 (.string x.dst) rfl
  have i3:=row_of G0 3 (.string x.name) rfl
  have i4:=row_of G0 4 (.slice a x.args.length c) rfl
  have g0':=cell_keep hb0 g0
  have g1':=cell_keep hb0 g1
  have g2':=cell_keep hb0 g2
  have HB0:=Hd hb0
  clear g0 g1 g2 hf hb0 G0
  go_upto_region 4 with fail
  have hb1:Below W1.heap.size W1 (W1.alloc (.cells #[.bool d,.bool nm,.int .i64 n] 202)):=(bR _ _).alloc (nR _) _
  have G1:=heap_alloc_new W1 (.cells #[.bool d,.bool nm,.int .i64 n] 202)
  generalize W1.alloc (.cells #[.bool d,.bool nm,.int .i64 n] 202)=W2 at *
  have j0:=cell_keep hb1 i0
  have j1:=cell_keep hb1 i1
  have j2:=cell_keep hb1 i2
  have j3:=cell_keep hb1 i3
  have j4:=cell_keep hb1 i4
  have k0:=row_of G1 0 (.bool d) rfl
  have k1:=row_of G1 1 (.bool nm) rfl
  have k2:=row_of G1 2 (.int .i64 n) rfl
  have HB:=Hd (bcomp HB0.out hb1)
  clear i0 i1 i2 i3 i4 g0' g1' g2' hb1 G1
  have HD:=Hd ekn
  clear ekn hkn hwk hk0 hk1 hk13
  generalize hN:W1.heap.size=N1 at *
  clear hN
  have hnl:=formL_n kn _ HF.out
  obtain ⟨hn1,hn2,hn3⟩:=hnl
  have hop:=op_cases x n kn HD.out ho0
  rcases hop with ⟨hv,rfl,ho2⟩|⟨hv,rfl,ho2⟩|⟨hv,rfl,ho2,ho3,hw⟩|⟨hv,hk1,ho2⟩|⟨hv,hk1,ho2,hw⟩
  ·have HV:=Hd (formB_op x hv)
   clear hv
   go_wp2
   go_ret
   exact ⟨by rw [HV.out];rfl,HB.out⟩
  ·have HV:=Hd (formB_op x hv)
   clear hv
   go_wp2
   go_ret
   exact ⟨by rw [HV.out];rfl,HB.out⟩
  rotate_left
  ·have HV:=Hd (formB_op x hv)
   have hk2:((kn:Int) == 1)=false:=by rw [beq_eq_false_iff_ne];omega
   have ho4:(x.op != 0)=true:=by rw [bne_iff_ne];exact ho2
   clear hv
   go_wp2
   go_ret
   exact ⟨by rw [HV.out];rfl,HB.out⟩
  rotate_left
  ·have c1:=fun w=>arity_of x.op ho0 w
   have hz:=arityZ_le x.op
   obtain ⟨hz1,hz2⟩:=hz
   generalize arityZ x.op=z at *
   have HA:=Hd c1
   have HO:=Hd (And.intro hv hw)
   clear c1 hv hw
   go_upto_region 11 with (go_at_call 128;refine (HA.out _).mono ?_;rintro e w1 ⟨rfl,hb⟩)
   have l0:=cell_keep hb j0
   have l1:=cell_keep hb j1
   have l2:=cell_keep hb j2
   have l3:=cell_keep hb j3
   have l4:=cell_keep hb j4
   have m0:=cell_keep hb k0
   have m1:=cell_keep hb k1
   have HC:=Hd (bcomp HB.out hb)
   clear j0 j1 j2 j3 j4 k0 k1 k2 hb HA HB
   go_cut [70] (fun cc wx=>cc=.bool (fbad d nm x)/\Below w1.heap.size w1 wx)
   case first=>
    have HL1:=Hd (HLd.out.keep HC.out)
    have e2:=ext_cell l2
    have e3:=ext_cell l3
    have q0:=ext_cell m0
    have q1:=ext_cell m1
    clear l0 l1 l2 l3 l4 m0 m1
    have c1:=fun (w:World) (hL:Laid w)=>named_any x.dst w hds hL
    have c2:=fun (w:World) (hL:Laid w)=>named_any x.name w hns hL
    rcases field_cases d x.dst with ⟨f1,rfl,f2⟩|⟨f1,rfl,f2⟩|⟨f1,rfl,f2,f3⟩|⟨f1,rfl,f2⟩|⟨f1,rfl,f2,f3⟩
    all_goals rw [f2] at c1
    all_goals have C1:=Hd c1
    all_goals clear c1 f2
    iterate 3
     ·have HV:=Hd (fbad_left _ nm x f1)
      clear f1
      (refine wp_region_calm (by kernel_rfl) (by kernel_rfl) ?_; (repeat (go_big_quiet_step ((go_at_call 114;exact calls_calm (C1.out _ (HL1.out.ext _)))))); refine wpQuiet_nil ?_; intro wc hwc)
      go_wp2_with fail
      go_meet
      exact ⟨by rw [HV.out],hwc⟩
    all_goals
     have F1:=Hd f1
     clear f1
     rcases field_cases nm x.name with ⟨f1,rfl,f2⟩|⟨f1,rfl,f2⟩|⟨f1,rfl,f2,f4⟩|⟨f1,rfl,f2⟩|⟨f1,rfl,f2,f4⟩
     all_goals rw [f2] at c2
     all_goals have C2:=Hd c2
     all_goals clear c2 f2
     all_goals
      have HV:=Hd (fbad_is _ _ x _ _ F1.out f1)
      clear f1
      (refine wp_region_calm (by kernel_rfl) (by kernel_rfl) ?_; (repeat (go_big_quiet_step ((first|(go_at_call_of 114 (Value.string x.dst);exact calls_calm (C1.out _ (HL1.out.ext _)))|(go_at_call_of 114 (Value.string x.name);exact calls_calm (C2.out _ (HL1.out.ext _))))))); refine wpQuiet_nil ?_; intro wc hwc)
      go_wp2_with fail
      go_meet
      exact ⟨by rw [HV.out];rfl,hwc⟩
   case rest=>
    obtain ⟨rfl,hb2⟩:=hcut
    have n4:=cell_keep hb2 l4
    have HE:=Hd (bcomp HC.out hb2)
    clear l0 l1 l2 l3 l4 m0 m1 hb2
    cases hfb:fbad d nm x
    rotate_left
    ·have HV:=Hd (formB_bad x d nm _ (by rw [HD.out];exact HF.out) hfb)
     go_wp2
     go_ret
     exact ⟨by rw [HV.out];rfl,HE.out⟩
    have HFB:=Hd hfb
    go_upto_region 13 with fail
    clear hfb
    go_cut [85] (fun cc wx=>cc=.bool (cbad x z)/\wx=wc)
    case first=>
     rcases cbad_cases x z with ⟨f1,f2,f3⟩|⟨f1,f2,f3⟩|⟨f1,f2,f3⟩|⟨f1,f2,f3,f4⟩|⟨f1,f2,f3,f4⟩
     all_goals
      first|(exfalso;omega)|skip
     all_goals
      have HV:=Hd f1
      have f5:=decide_nonneg z
      clear f1
      first|(have f6:=f5.1 f2;clear f5)|(have f6:=f5.2 f2;clear f5)
      go_wp2_with fail
      go_meet
      exact ⟨by first|(rw [HV.out,decide_eq_false (by omega)];done)|(rw [HV.out,decide_eq_true (by omega)];done)|rw [HV.out],rfl⟩
    case rest=>
     obtain ⟨rfl,rfl⟩:=hcut
     cases hcb:cbad x z
     rotate_left
     ·have HV:=Hd (formB_count x d nm _ z (by rw [HD.out];exact HF.out) HO.out.2 hcb)
      go_wp2
      go_ret
      exact ⟨by rw [HV.out];rfl,HE.out⟩
     have HV:=Hd (formB_rest x d nm _ z (by rw [HD.out];exact HF.out) HO.out.1 HO.out.2 HFB.out hcb)
     go_wp2
     go_loopw [89] (fun i wr=>∃ k:Nat,k<=x.args.length/\i=.int .i64 k/\Hid (∀ (j:Nat) y,j<k->x.args[j]?=some y->argB y=true)/\Below w.heap.size w wr) (fun i _=>x.args.length - (intOf i).toNat)
     case atStart=>exact ⟨0,Nat.zero_le _,rfl,(fun j y h=>by omega),HE.out⟩
     case round=>
      obtain ⟨k,hk,rfl,hq,hb⟩:=hrel
      by_cases hlt:k<x.args.length
      ·obtain ⟨y,hy⟩:∃ y,x.args[k]?=some y:=⟨_,lG hlt⟩
       obtain ⟨b,o,rfl,_,c0,c1,hu,hns2⟩:=HR.out k y hy
       have d0:=cell_keepB hb c0 (block_lt_of_cell c0)
       have d1:=cell_keepB hb c1 (block_lt_of_cell c1)
       have HY:=Hd hy
       have hlt2:(k:Int)<(x.args.length:Int):=by omega
       have HQ:Hid (argB y=true->∀ (j:Nat) y,j<k+1->x.args[j]?=some y->argB y=true):=by
        intro hay j y' hj hy'
        rcases Nat.lt_or_ge j k with h|h
        ·exact hq.out j y' h hy'
        ·obtain rfl:j=k:=by omega
         rw [hy] at hy';cases hy';exact hay
       have HLr:=Hd (fun A:Obj=>(HLd.out.keep hb).keep ((bR _ _).alloc (nR _) A))
       have c2:=fun (w:World) (hL:Laid w)=>named_any y.name w hns2 hL
       clear c0 c1 hy
       rcases arg_cases y with ⟨f1,f2⟩|⟨f1,f2,f3⟩|⟨f1,f2,f3,f4⟩|⟨f1,f2,f3,f4⟩
       all_goals
        have HA:=Hd f1
        clear f1
        first|rw [f3] at c2|skip
        have C2:=Hd c2
        clear c2
        first|clear f3|skip
        go_wp2_with (go_at_call 114;refine (C2.out _ (HLr.out _)).mono ?_;rintro e w1' ⟨rfl,hb1'⟩;have hc':=heap1_of hb1';have gg:=row_of hc'.1 1 (.int .u64 y.num) rfl;have hb3:=hb.trans (hc'.2.mono hb.size);clear hc' hb1')
        first
         | (go_roundw
            case rel=>exact ⟨k+1,by omega,by go_num,HQ.out HA.out,by first|exact hb3|exact hb.alloc hb.size _⟩
            case measure=>simp [intOf];omega)
         | (go_ret
            exact ⟨by rw [HV.out,all_miss HY.out HA.out];rfl,by first|exact hb3|exact hb.alloc hb.size _⟩)
      ·obtain rfl:k=x.args.length:=by omega
       go_wp2
       go_ret
       exact ⟨by rw [HV.out,all_hit (fun j y hj=>hq.out j y (lE hj).1 hj)];rfl,hb⟩
  ·have hk2:((kn:Int) == 1)=false:=by rw [beq_eq_false_iff_ne];omega
   obtain ⟨z,hz⟩:∃ z,z=n:=⟨_,rfl⟩
   subst hz
   have HO:=Hd (And.intro hv hw)
   clear hv hw
   go_upto_region 11 with fail
   rename_i W2' _ _ _
   have l0:=j0
   have l1:=j1
   have l2:=j2
   have l3:=j3
   have l4:=j4
   have m0:=k0
   have m1:=k1
   have HC:=HB
   clear j0 j1 j2 j3 j4 k0 k1 k2 HB
   generalize W2=w1 at *
   go_cut [70] (fun cc wx=>cc=.bool (fbad d nm x)/\Below w1.heap.size w1 wx)
   case first=>
    have HL1:=Hd (HLd.out.keep HC.out)
    have e2:=ext_cell l2
    have e3:=ext_cell l3
    have q0:=ext_cell m0
    have q1:=ext_cell m1
    clear l0 l1 l2 l3 l4 m0 m1
    have c1:=fun (w:World) (hL:Laid w)=>named_any x.dst w hds hL
    have c2:=fun (w:World) (hL:Laid w)=>named_any x.name w hns hL
    rcases field_cases d x.dst with ⟨f1,rfl,f2⟩|⟨f1,rfl,f2⟩|⟨f1,rfl,f2,f3⟩|⟨f1,rfl,f2⟩|⟨f1,rfl,f2,f3⟩
    all_goals rw [f2] at c1
    all_goals have C1:=Hd c1
    all_goals clear c1 f2
    iterate 3
     ·have HV:=Hd (fbad_left _ nm x f1)
      clear f1
      (refine wp_region_calm (by kernel_rfl) (by kernel_rfl) ?_; (repeat (go_big_quiet_step ((go_at_call 114;exact calls_calm (C1.out _ (HL1.out.ext _)))))); refine wpQuiet_nil ?_; intro wc hwc)
      go_wp2_with fail
      go_meet
      exact ⟨by rw [HV.out],hwc⟩
    all_goals
     have F1:=Hd f1
     clear f1
     rcases field_cases nm x.name with ⟨f1,rfl,f2⟩|⟨f1,rfl,f2⟩|⟨f1,rfl,f2,f4⟩|⟨f1,rfl,f2⟩|⟨f1,rfl,f2,f4⟩
     all_goals rw [f2] at c2
     all_goals have C2:=Hd c2
     all_goals clear c2 f2
     all_goals
      have HV:=Hd (fbad_is _ _ x _ _ F1.out f1)
      clear f1
      (refine wp_region_calm (by kernel_rfl) (by kernel_rfl) ?_; (repeat (go_big_quiet_step ((first|(go_at_call_of 114 (Value.string x.dst);exact calls_calm (C1.out _ (HL1.out.ext _)))|(go_at_call_of 114 (Value.string x.name);exact calls_calm (C2.out _ (HL1.out.ext _))))))); refine wpQuiet_nil ?_; intro wc hwc)
      go_wp2_with fail
      go_meet
      exact ⟨by rw [HV.out];rfl,hwc⟩
   case rest=>
    obtain ⟨rfl,hb2⟩:=hcut
    have n4:=cell_keep hb2 l4
    have HE:=Hd (bcomp HC.out hb2)
    clear l0 l1 l2 l3 l4 m0 m1 hb2
    cases hfb:fbad d nm x
    rotate_left
    ·have HV:=Hd (formB_bad x d nm _ (by rw [HD.out];exact HF.out) hfb)
     go_wp2
     go_ret
     exact ⟨by rw [HV.out];rfl,HE.out⟩
    have HFB:=Hd hfb
    go_upto_region 13 with fail
    clear hfb
    go_cut [85] (fun cc wx=>cc=.bool (cbad x z)/\wx=wc)
    case first=>
     rcases cbad_cases x z with ⟨f1,f2,f3⟩|⟨f1,f2,f3⟩|⟨f1,f2,f3⟩|⟨f1,f2,f3,f4⟩|⟨f1,f2,f3,f4⟩
     all_goals
      first|(exfalso;omega)|skip
     all_goals
      have HV:=Hd f1
      have f5:=decide_nonneg z
      clear f1
      first|(have f6:=f5.1 f2;clear f5)|(have f6:=f5.2 f2;clear f5)
      go_wp2_with fail
      go_meet
      exact ⟨by first|(rw [HV.out,decide_eq_false (by omega)];done)|(rw [HV.out,decide_eq_true (by omega)];done)|rw [HV.out],rfl⟩
    case rest=>
     obtain ⟨rfl,rfl⟩:=hcut
     cases hcb:cbad x z
     rotate_left
     ·have HV:=Hd (formB_count x d nm _ z (by rw [HD.out];exact HF.out) HO.out.2 hcb)
      go_wp2
      go_ret
      exact ⟨by rw [HV.out];rfl,HE.out⟩
     have HV:=Hd (formB_rest x d nm _ z (by rw [HD.out];exact HF.out) HO.out.1 HO.out.2 HFB.out hcb)
     go_wp2
     go_loopw [89] (fun i wr=>∃ k:Nat,k<=x.args.length/\i=.int .i64 k/\Hid (∀ (j:Nat) y,j<k->x.args[j]?=some y->argB y=true)/\Below w.heap.size w wr) (fun i _=>x.args.length - (intOf i).toNat)
     case atStart=>exact ⟨0,Nat.zero_le _,rfl,(fun j y h=>by omega),HE.out⟩
     case round=>
      obtain ⟨k,hk,rfl,hq,hb⟩:=hrel
      by_cases hlt:k<x.args.length
      ·obtain ⟨y,hy⟩:∃ y,x.args[k]?=some y:=⟨_,lG hlt⟩
       obtain ⟨b,o,rfl,_,c0,c1,hu,hns2⟩:=HR.out k y hy
       have d0:=cell_keepB hb c0 (block_lt_of_cell c0)
       have d1:=cell_keepB hb c1 (block_lt_of_cell c1)
       have HY:=Hd hy
       have hlt2:(k:Int)<(x.args.length:Int):=by omega
       have HQ:Hid (argB y=true->∀ (j:Nat) y,j<k+1->x.args[j]?=some y->argB y=true):=by
        intro hay j y' hj hy'
        rcases Nat.lt_or_ge j k with h|h
        ·exact hq.out j y' h hy'
        ·obtain rfl:j=k:=by omega
         rw [hy] at hy';cases hy';exact hay
       have HLr:=Hd (fun A:Obj=>(HLd.out.keep hb).keep ((bR _ _).alloc (nR _) A))
       have c2:=fun (w:World) (hL:Laid w)=>named_any y.name w hns2 hL
       clear c0 c1 hy
       rcases arg_cases y with ⟨f1,f2⟩|⟨f1,f2,f3⟩|⟨f1,f2,f3,f4⟩|⟨f1,f2,f3,f4⟩
       all_goals
        have HA:=Hd f1
        clear f1
        first|rw [f3] at c2|skip
        have C2:=Hd c2
        clear c2
        first|clear f3|skip
        go_wp2_with (go_at_call 114;refine (C2.out _ (HLr.out _)).mono ?_;rintro e w1' ⟨rfl,hb1'⟩;have hc':=heap1_of hb1';have gg:=row_of hc'.1 1 (.int .u64 y.num) rfl;have hb3:=hb.trans (hc'.2.mono hb.size);clear hc' hb1')
        first
         | (go_roundw
            case rel=>exact ⟨k+1,by omega,by go_num,HQ.out HA.out,by first|exact hb3|exact hb.alloc hb.size _⟩
            case measure=>simp [intOf];omega)
         | (go_ret
            exact ⟨by rw [HV.out,all_miss HY.out HA.out];rfl,by first|exact hb3|exact hb.alloc hb.size _⟩)
      ·obtain rfl:k=x.args.length:=by omega
       go_wp2
       go_ret
       exact ⟨by rw [HV.out,all_hit (fun j y hj=>hq.out j y (lE hj).1 hj)];rfl,hb⟩
end Go.Proofs.YtgllkgedjplpdaaGreatDoor
