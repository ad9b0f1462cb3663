/- How a run of the reference lies in memory, and the contract of its Value. Condition: the run lies at the pointer. -/
import Derived.Test.YtkjkpddajjmloaaGreatDoorMMq
set_option linter.all false
set_option maxRecDepth 1000000
set_option maxHeartbeats 6400000
namespace Go.Proofs.YtkjkpddajjmloaaGreatDoor
open Go.ChangeShapes Go.WideShapes Go.ChangeAt Go.RowKit
open Go.Lib (hid)
theorem gsRMb {α:Type} {a:Array α} {i:Nat} {v:α} (h:a[i]?=some v):i<a.size:=(Array.getElem?_eq_some_iff.1 h).1
theorem lgRMb {α:Type} {l:List α} {i:Nat} (h:i<l.length):l[i]?=some l[i]:=List.getElem?_eq_getElem h
abbrev cellsR (f:FlatD) (n:Nat) (m:MachD) (c2 c3 c4 kv iv av ov rv bv:Value) (gb db:Nat):Array Value:=
 #[.int .i64 f.width,.int .i64 f.regs,c2,c3,c4,kv,iv,.slice (some ⟨gb,0,none⟩) m.regs.length m.regs.length,av,.int .i64 m.pc,.int .u8 m.t.status,.int .i64 m.t.steps,ov,rv,bv,.slice (some ⟨db,0,none⟩) m.t.reads.length m.t.reads.length]
structure RefAt (G I:Nat→Prop) (w:World) (bm:Nat) (f:FlatD) (ins:List (List Int)) (m:MachD) (c2 c3 c4 kv iv av ov rv bv:Value) (gb db:Nat) (bs:List Nat):Prop where
 mem:Mem G I w f ins m kv iv av ov rv bv gb db bs
 flat:RdFlat (some I) w f c2 c3 c4 kv
 box:w.heap[bm]?=some (.cells (cellsR f 0 m c2 c3 c4 kv iv av ov rv bv gb db) 120 (0,0))
 bG:G bm∧¬ I bm
theorem RefAt.same {G I:Nat→Prop} {w w':World} {bm:Nat} {f:FlatD} {ins:List (List Int)} {m:MachD} {c2 c3 c4 kv iv av ov rv bv:Value} {gb db:Nat} {bs:List Nat} (h:RefAt G I w bm f ins m c2 c3 c4 kv iv av ov rv bv gb db bs) (k:∀ b,G b→b<w.heap.size→w'.heap[b]?=w.heap[b]?):RefAt G I w' bm f ins m c2 c3 c4 kv iv av ov rv bv gb db bs:=
 ⟨h.mem.same k,⟨h.flat.1.same (fun b hb hl=>k b (h.mem.iG b hb) hl) (fun _ _ x=>x),h.flat.2.1.same (fun b hb hl=>k b (h.mem.iG b hb) hl) (fun _ _ x=>x),h.flat.2.2.1.same (fun b hb hl=>k b (h.mem.iG b hb) hl) (fun _ _ x=>x),h.flat.2.2.2.1.same (fun b hb hl=>k b (h.mem.iG b hb) hl) (fun _ _ x=>x),h.flat.2.2.2.2⟩,(k bm h.bG.1 (gsRMb h.box)).trans h.box,h.bG⟩
theorem RefAt.keep {G I:Nat→Prop} {w w':World} {bm:Nat} {f:FlatD} {ins:List (List Int)} {m:MachD} {c2 c3 c4 kv iv av ov rv bv:Value} {gb db:Nat} {bs:List Nat} (h:RefAt G I w bm f ins m c2 c3 c4 kv iv av ov rv bv gb db bs) (k:Below w.heap.size w w'):RefAt G I w' bm f ins m c2 c3 c4 kv iv av ov rv bv gb db bs:=h.same fun b _ hl=>k.block b hl
theorem flat_turn {I:Nat→Prop} {w w':World} {f:FlatD} {a b c d:Value} (h:RdFlat (some I) w f a b c d) {x:Nat} (hx:¬ I x) (k:∀ b,b<w.heap.size→b≠x→w'.heap[b]?=w.heap[b]?):RdFlat (some I) w' f a b c d:=
 have k':∀ b,I b→b<w.heap.size→w'.heap[b]?=w.heap[b]?:=fun b hb hl=>k b hl (fun e=>hx (e ▸ hb))
 ⟨h.1.same k' (fun _ _ x=>x),h.2.1.same k' (fun _ _ x=>x),h.2.2.1.same k' (fun _ _ x=>x),h.2.2.2.1.same k' (fun _ _ x=>x),h.2.2.2.2⟩
def RefIn0 (G:Nat→Prop) (w:World) (bm:Nat) (f:FlatD) (ins:List (List Int)) (m:MachD):Prop:=
 ∃ (I:Nat→Prop) (c2 c3 c4 kv iv av ov rv bv:Value) (gb db:Nat) (bs:List Nat),RefAt G I w bm f ins m c2 c3 c4 kv iv av ov rv bv gb db bs
def PostR (G:Nat→Prop) (w w':World) (bm:Nat) (f:FlatD) (ins:List (List Int)) (m:MachD):Prop:=RefIn0 (Grow G w w') w' bm f ins m∧Turn G w w'
theorem RefAt.mono {G G' I:Nat→Prop} {w:World} {bm:Nat} {f:FlatD} {ins:List (List Int)} {m:MachD} {c2 c3 c4 kv iv av ov rv bv:Value} {gb db:Nat} {bs:List Nat} (h:RefAt G I w bm f ins m c2 c3 c4 kv iv av ov rv bv gb db bs) (k:∀ b,G b→G' b):RefAt G' I w bm f ins m c2 c3 c4 kv iv av ov rv bv gb db bs:=
 ⟨h.mem.mono (fun b _ hb=>k b hb) (fun b hb=>k b (h.mem.iG b hb)),h.flat,h.box,k _ h.bG.1,h.bG.2⟩
theorem postR_of {G I:Nat→Prop} {w w':World} {bm:Nat} {f:FlatD} {ins:List (List Int)} {m:MachD} {c2 c3 c4 kv iv av ov rv bv:Value} {gb db:Nat} {bs:List Nat} (h:RefAt G I w' bm f ins m c2 c3 c4 kv iv av ov rv bv gb db bs) (t:Turn G w w'):PostR G w w' bm f ins m:=
 ⟨⟨I,c2,c3,c4,kv,iv,av,ov,rv,bv,gb,db,bs,h.mono fun _ hb=>.inl hb⟩,t⟩
theorem RefAt.boxed {G I:Nat→Prop} {w:World} {bm:Nat} {f:FlatD} {ins:List (List Int)} {m m':MachD} {c2 c3 c4 kv iv av ov rv bv:Value} {gb db:Nat} {bs:List Nat} (h:RefAt G I w bm f ins m c2 c3 c4 kv iv av ov rv bv gb db bs) (o:Nat) (v:Value) (e1:m'.regs=m.regs) (e2:m'.arrs=m.arrs) (e3:m'.t.reads=m.t.reads) (e4:m'.t.outs=m.t.outs) (e5:m'.t.rels=m.t.rels) (e6:m'.t.brs=m.t.brs)
  (hc:(cellsR f 0 m c2 c3 c4 kv iv av ov rv bv gb db).setIfInBounds o v=cellsR f 0 m' c2 c3 c4 kv iv av ov rv bv gb db):RefAt G I (w.setCell ⟨bm,o,none⟩ v) bm f ins m' c2 c3 c4 kv iv av ov rv bv gb db bs:=
 ⟨(h.mem.apart (h.mem.notIn h.box h.bG.2 (by decide)) (fun b _ hb=>heap_setCell_other _ _ _ _ (by simpa using hb))).alike e1 e2 e3 e4 e5 e6,flat_turn h.flat h.bG.2 (fun b _ hb=>heap_setCell_other _ _ _ _ (by simpa using hb)),by rw[heap_setCell_same _ _ _ _ _ _ h.box,hc],h.bG⟩
theorem RefAt.setPc {G I:Nat→Prop} {w:World} {bm:Nat} {f:FlatD} {ins:List (List Int)} {m:MachD} {c2 c3 c4 kv iv av ov rv bv:Value} {gb db:Nat} {bs:List Nat} (h:RefAt G I w bm f ins m c2 c3 c4 kv iv av ov rv bv gb db bs) (v:Int):RefAt G I (w.setCell ⟨bm,9,none⟩ (.int .i64 v)) bm f ins { m with pc:=v } c2 c3 c4 kv iv av ov rv bv gb db bs:=
 h.boxed 9 _ rfl rfl rfl rfl rfl rfl rfl
theorem RefAt.setSteps {G I:Nat→Prop} {w:World} {bm:Nat} {f:FlatD} {ins:List (List Int)} {m:MachD} {c2 c3 c4 kv iv av ov rv bv:Value} {gb db:Nat} {bs:List Nat} (h:RefAt G I w bm f ins m c2 c3 c4 kv iv av ov rv bv gb db bs) (v:Int):RefAt G I (w.setCell ⟨bm,11,none⟩ (.int .i64 v)) bm f ins { m with t:={ m.t with steps:=v } } c2 c3 c4 kv iv av ov rv bv gb db bs:=
 h.boxed 11 _ rfl rfl rfl rfl rfl rfl rfl
theorem RefAt.setStatus {G I:Nat→Prop} {w:World} {bm:Nat} {f:FlatD} {ins:List (List Int)} {m:MachD} {c2 c3 c4 kv iv av ov rv bv:Value} {gb db:Nat} {bs:List Nat} (h:RefAt G I w bm f ins m c2 c3 c4 kv iv av ov rv bv gb db bs) (v:Int):RefAt G I (w.setCell ⟨bm,10,none⟩ (.int .u8 v)) bm f ins { m with t:={ m.t with status:=v } } c2 c3 c4 kv iv av ov rv bv gb db bs:=
 h.boxed 10 _ rfl rfl rfl rfl rfl rfl rfl
theorem RefAt.setReg {G I:Nat→Prop} {w:World} {bm:Nat} {f:FlatD} {ins:List (List Int)} {m:MachD} {c2 c3 c4 kv iv av ov rv bv:Value} {gb db:Nat} {bs:List Nat} (h:RefAt G I w bm f ins m c2 c3 c4 kv iv av ov rv bv gb db bs) (d v:Int):RefAt G I (w.setCell ⟨gb,d.toNat,none⟩ (.int .u64 v)) bm f ins (setR m d v) c2 c3 c4 kv iv av ov rv bv gb db bs:=
 ⟨h.mem.setReg d.toNat v,flat_turn h.flat h.mem.sep.2.1 (fun b _ hb=>heap_setCell_other _ _ _ _ (by simpa using hb)),by rw[heap_setCell_other _ _ _ _ (by simpa using row_ne h.box h.mem.regs (by decide)),h.box];simp[cellsR,setR],h.bG⟩
theorem RefAt.setRead {G I:Nat→Prop} {w:World} {bm:Nat} {f:FlatD} {ins:List (List Int)} {m:MachD} {c2 c3 c4 kv iv av ov rv bv:Value} {gb db:Nat} {bs:List Nat} (h:RefAt G I w bm f ins m c2 c3 c4 kv iv av ov rv bv gb db bs) (d:Nat) (v:Int):RefAt G I (w.setCell ⟨db,d,none⟩ (.int .i64 v)) bm f ins { m with t:={ m.t with reads:=m.t.reads.set d v } } c2 c3 c4 kv iv av ov rv bv gb db bs:=
 ⟨h.mem.setRead d v,flat_turn h.flat h.mem.sep.2.2.2.1 (fun b _ hb=>heap_setCell_other _ _ _ _ (by simpa using hb)),by rw[heap_setCell_other _ _ _ _ (by simpa using row_ne h.box h.mem.reads (by decide)),h.box];simp[cellsR],h.bG⟩
theorem RefAt.setArr {G I:Nat→Prop} {w:World} {bm:Nat} {f:FlatD} {ins:List (List Int)} {m:MachD} {c2 c3 c4 kv iv av ov rv bv:Value} {gb db:Nat} {bs:List Nat} (h:RefAt G I w bm f ins m c2 c3 c4 kv iv av ov rv bv gb db bs) (n i:Nat) (v:Int) {x:Nat} (hx:bs[n]?=some x):RefAt G I (w.setCell ⟨x,i,none⟩ (.int .u64 v)) bm f ins (putA m n i v) c2 c3 c4 kv iv av ov rv bv gb db bs:=by
 have hm:=List.mem_of_getElem? hx
 obtain⟨_,l0,_,_,hr0⟩:=zip_rows h.mem hm
 exact⟨h.mem.setArr n i v hx,flat_turn h.flat (h.mem.sep.2.2.2.2 x hm).2 (fun b _ hb=>heap_setCell_other _ _ _ _ (by simpa using hb)),by rw[heap_setCell_other _ _ _ _ (by simpa using row_ne h.box hr0 (by decide)),h.box];rfl,h.bG⟩
theorem refValue {G I:Nat→Prop} {w:World} {bm:Nat} {f:FlatD} {ins:List (List Int)} {m:MachD} {c2 c3 c4 kv iv av ov rv bv:Value} {gb db:Nat} {bs:List Nat} (h:RefAt G I w bm f ins m c2 c3 c4 kv iv av ov rv bv gb db bs) (r:RefD) (hr:RefIn m r) (hl:m.regs.length≤2097152) :
  Calls Tryz.prog 93 #[.pointer (some ⟨bm,0,none⟩),refV r] w fun e w'=>e=.returned (.int .u64 (valM m r))∧Below w.heap.size w w':=by
 obtain⟨rr,rn⟩:=r
 obtain⟨⟨hr1,hr2⟩,hr3,hr4⟩:=hr
 simp only at hr1 hr2 hr3 hr4
 have hb0:Hid (Below w.heap.size w (w.alloc (.cells #[.int .i64 rr,.int .u64 rn] 88))):=(Below.refl _ _).alloc (Nat.le_refl _) _
 have hlt:=(gsRMb h.box)
 have hgt:=(gsRMb h.mem.regs)
 by_cases h0:rr<0
 ·have HV:Hid (valM m ⟨rr,rn⟩=rn):=if_pos h0
  clear h
  go_enter Tryz.func93,Tryz.ntmps93
  go_wp2
  go_ret
  exact⟨by rw[HV.out];rfl,hb0.out⟩
 ·obtain⟨k,rfl⟩:∃ k:Nat,rr=k:=⟨rr.toNat,by omega⟩
  have h1:(k:Int)<(m.regs.length:Int):=hr4
  have hx:=valM_reg (m:=m) (r:=⟨k,rn⟩) (by simp only;omega) hr4
  simp only[Int.toNat_natCast] at hx
  have c13:=row_of h.box 7 _ rfl
  have cg:=row_of h.mem.regs k _ (u64s_get _ _ _ hx)
  generalize valM m ⟨k,rn⟩=x at *
  clear h hx
  go_enter Tryz.func93,Tryz.ntmps93
  go_wp2_with fail
  go_quiet (fail)
  go_wp2
  go_ret
  exact⟨rfl,below_drewN hb0.out _⟩
theorem RefAt.setBrs {G I:Nat→Prop} {w w':World} {bm:Nat} {f:FlatD} {ins:List (List Int)} {m:MachD} {c2 c3 c4 kv iv av ov rv bv bv':Value} {gb db:Nat} {bs:List Nat} (h:RefAt G I w bm f ins m c2 c3 c4 kv iv av ov rv bv gb db bs) (x:Bool)
  (how:w'.ownsRow 0 4 1 bv' (m.t.brs.length+1) (m.t.brs.flatMap cellsBool++cellsBool x)) (hg:w.grownBy w' bv.ownBlock) (hn:bv'.ownBlock=bv.ownBlock ∨ bv'.ownBlock=some w.heap.size) :
  RefAt (Grow G w w') (fun b=>I b∧b<w.heap.size) (w'.setCell ⟨bm,14,none⟩ bv') bm f ins { m with t:={ m.t with brs:=m.t.brs++[x] } } c2 c3 c4 kv iv av ov rv bv' gb db bs:=by
 have hne:bv.ownBlock≠some bm:=fun e=>by obtain⟨cs,hr⟩:=own_row h.mem.brs e;exact row_ne h.box hr (by decide) rfl
 have hbox:w'.heap[bm]?=some (.cells (cellsR f 0 m c2 c3 c4 kv iv av ov rv bv gb db) 120 (0,0)):=(hg.block bm (gsRMb h.box) (fun e=>hne e.symm)).trans h.box
 have hm:=h.mem.setBrs x how hg hn
 have hk:∀ b,I b→b<w.heap.size→(w'.setCell ⟨bm,14,none⟩ bv').heap[b]?=w.heap[b]?:=fun b hb hl=>by
  rw[heap_setCell_other _ _ _ _ (by show b≠bm;exact fun e=>h.bG.2 (e ▸ hb))]
  exact hg.block b hl (fun e=>(h.mem.osep.2.2 b e.symm).2 hb)
 have hi:∀ b,b<w.heap.size→I b→I b∧b<w.heap.size:=fun b hl hb=>⟨hb,hl⟩
 have hf:RdFlat (some fun b=>I b∧b<w.heap.size) (w'.setCell ⟨bm,14,none⟩ bv') f c2 c3 c4 kv:=⟨h.flat.1.same hk hi,h.flat.2.1.same hk hi,h.flat.2.2.1.same hk hi,h.flat.2.2.2.1.same hk hi,h.flat.2.2.2.2⟩
 exact⟨hm.apart (hm.notIn hbox (fun e=>h.bG.2 e.1) (by decide)) (fun b _ hb=>heap_setCell_other _ _ _ _ (by simpa using hb)),hf,by rw[heap_setCell_same _ _ _ _ _ _ hbox];rfl,.inl h.bG.1,fun e=>h.bG.2 e.1⟩
theorem RefAt.setOuts {G I:Nat→Prop} {w w':World} {bm:Nat} {f:FlatD} {ins:List (List Int)} {m:MachD} {c2 c3 c4 kv iv av ov rv bv ov':Value} {gb db:Nat} {bs:List Nat} (h:RefAt G I w bm f ins m c2 c3 c4 kv iv av ov rv bv gb db bs) (x:EvD)
  (how:w'.ownsRow 0 163 2 ov' (m.t.outs.length+1) (m.t.outs.flatMap cellsEv++cellsEv x)) (hg:w.grownBy w' ov.ownBlock) (hn:ov'.ownBlock=ov.ownBlock ∨ ov'.ownBlock=some w.heap.size) :
  RefAt (Grow G w w') (fun b=>I b∧b<w.heap.size) (w'.setCell ⟨bm,12,none⟩ ov') bm f ins { m with t:={ m.t with outs:=m.t.outs++[x] } } c2 c3 c4 kv iv av ov' rv bv gb db bs:=by
 have hne:ov.ownBlock≠some bm:=fun e=>by obtain⟨cs,hr⟩:=own_row h.mem.outs e;exact row_ne h.box hr (by decide) rfl
 have hbox:w'.heap[bm]?=some (.cells (cellsR f 0 m c2 c3 c4 kv iv av ov rv bv gb db) 120 (0,0)):=(hg.block bm (gsRMb h.box) (fun e=>hne e.symm)).trans h.box
 have hm:=h.mem.setOuts x how hg hn
 have hk:∀ b,I b→b<w.heap.size→(w'.setCell ⟨bm,12,none⟩ ov').heap[b]?=w.heap[b]?:=fun b hb hl=>by
  rw[heap_setCell_other _ _ _ _ (by show b≠bm;exact fun e=>h.bG.2 (e ▸ hb))]
  exact hg.block b hl (fun e=>(h.mem.osep.1 b e.symm).2.1 hb)
 have hi:∀ b,b<w.heap.size→I b→I b∧b<w.heap.size:=fun b hl hb=>⟨hb,hl⟩
 have hf:RdFlat (some fun b=>I b∧b<w.heap.size) (w'.setCell ⟨bm,12,none⟩ ov') f c2 c3 c4 kv:=⟨h.flat.1.same hk hi,h.flat.2.1.same hk hi,h.flat.2.2.1.same hk hi,h.flat.2.2.2.1.same hk hi,h.flat.2.2.2.2⟩
 exact⟨hm.apart (hm.notIn hbox (fun e=>h.bG.2 e.1) (by decide)) (fun b _ hb=>heap_setCell_other _ _ _ _ (by simpa using hb)),hf,by rw[heap_setCell_same _ _ _ _ _ _ hbox];rfl,.inl h.bG.1,fun e=>h.bG.2 e.1⟩
theorem RefAt.setRels {G I:Nat→Prop} {w w':World} {bm:Nat} {f:FlatD} {ins:List (List Int)} {m:MachD} {c2 c3 c4 kv iv av ov rv bv rv':Value} {gb db:Nat} {bs:List Nat} (h:RefAt G I w bm f ins m c2 c3 c4 kv iv av ov rv bv gb db bs) (x:EvD)
  (how:w'.ownsRow 0 163 2 rv' (m.t.rels.length+1) (m.t.rels.flatMap cellsEv++cellsEv x)) (hg:w.grownBy w' rv.ownBlock) (hn:rv'.ownBlock=rv.ownBlock ∨ rv'.ownBlock=some w.heap.size) :
  RefAt (Grow G w w') (fun b=>I b∧b<w.heap.size) (w'.setCell ⟨bm,13,none⟩ rv') bm f ins { m with t:={ m.t with rels:=m.t.rels++[x] } } c2 c3 c4 kv iv av ov rv' bv gb db bs:=by
 have hne:rv.ownBlock≠some bm:=fun e=>by obtain⟨cs,hr⟩:=own_row h.mem.rels e;exact row_ne h.box hr (by decide) rfl
 have hbox:w'.heap[bm]?=some (.cells (cellsR f 0 m c2 c3 c4 kv iv av ov rv bv gb db) 120 (0,0)):=(hg.block bm (gsRMb h.box) (fun e=>hne e.symm)).trans h.box
 have hm:=h.mem.setRels x how hg hn
 have hk:∀ b,I b→b<w.heap.size→(w'.setCell ⟨bm,13,none⟩ rv').heap[b]?=w.heap[b]?:=fun b hb hl=>by
  rw[heap_setCell_other _ _ _ _ (by show b≠bm;exact fun e=>h.bG.2 (e ▸ hb))]
  exact hg.block b hl (fun e=>(h.mem.osep.2.1 b e.symm).2 hb)
 have hi:∀ b,b<w.heap.size→I b→I b∧b<w.heap.size:=fun b hl hb=>⟨hb,hl⟩
 have hf:RdFlat (some fun b=>I b∧b<w.heap.size) (w'.setCell ⟨bm,13,none⟩ rv') f c2 c3 c4 kv:=⟨h.flat.1.same hk hi,h.flat.2.1.same hk hi,h.flat.2.2.1.same hk hi,h.flat.2.2.2.1.same hk hi,h.flat.2.2.2.2⟩
 exact⟨hm.apart (hm.notIn hbox (fun e=>h.bG.2 e.1) (by decide)) (fun b _ hb=>heap_setCell_other _ _ _ _ (by simpa using hb)),hf,by rw[heap_setCell_same _ _ _ _ _ _ hbox];rfl,.inl h.bG.1,fun e=>h.bG.2 e.1⟩
def readV (f:FlatD) (ins:List (List Int)) (n:Nat) (q:Nat):Int:=match inAt ins n q with|some v=>v%2 ^ f.width.toNat|none=>0
def ReadSaid (G I:Nat→Prop) (w:World) (bm:Nat) (f:FlatD) (ins:List (List Int)) (m:MachD) (c2 c3 c4 kv iv av ov rv bv:Value) (gb db:Nat) (bs:List Nat) (v:Int) (e:Ending) (w':World):Prop:=
 e=.returned (.int .u64 v)∧RefAt G I w' bm f ins m c2 c3 c4 kv iv av ov rv bv gb db bs∧Turn G w w'
theorem refRead {G I:Nat→Prop} {w:World} {bm:Nat} {f:FlatD} {ins:List (List Int)} {m:MachD} {c2 c3 c4 kv iv av ov rv bv:Value} {gb db:Nat} {bs:List Nat} (h:RefAt G I w bm f ins m c2 c3 c4 kv iv av ov rv bv gb db bs) (n q:Nat) (hw1:1≤f.width) (hw2:f.width≤64) (hn1:n<m.t.reads.length) (hq:m.t.reads[n]?=some (q:Int)) (hq1:q≤1000000000) (hins:ins.length≤1000) (hsz:m.t.reads.length≤1000) :
  Calls Tryz.prog 95 #[.pointer (some ⟨bm,0,none⟩),.int .i64 n] w (ReadSaid G I w bm f ins { m with t:={ m.t with reads:=m.t.reads.set n ((q:Int)+1) } } c2 c3 c4 kv iv av ov rv bv gb db bs (readV f ins n q)):=by
 obtain⟨wd,hwd⟩:∃ wd:Nat,f.width=wd:=⟨f.width.toNat,by omega⟩
 have hwd1:1≤wd:=by omega
 have hwd2:wd≤64:=by omega
 obtain⟨V,hV⟩:∃ V,readV f ins n q=V:=⟨_,rfl⟩
 rw[hV]
 have hlt:bm<w.heap.size:=(gsRMb h.box)
 have H1:=hid (h.setRead n ((q:Int)+1))
 have hT:=hid ((Turn.refl G w).setCell (a:=⟨db,n,none⟩) h.mem.sep.2.2.1 (.int .i64 ((q:Int)+1)))
 have c15:=row_of h.box 15 _ rfl
 have cr:=row_of h.mem.reads n _ (i64s_get _ _ _ hq)
 have fr:=frozen_of_row w db n _ _ h.mem.reads
 have hi1:(n:Int)<(m.t.reads.length:Int):=by omega
 have hnd:bm≠db:=row_ne h.box h.mem.reads (by decide)
 have HQ:=hid hq
 clear h hq
 go_enter Tryz.func95,Tryz.ntmps95
 go_upto_region 3 with fail
 clear c15 cr fr
 generalize w.setCell ⟨db,n,none⟩ (.int .i64 ((q:Int)+1))=W at *
 obtain⟨ia,ic,rfl⟩:=H1.out.mem.ins.is
 have c6:=row_of H1.out.box 6 _ rfl
 by_cases hn:n<ins.length
 rotate_left
 ·obtain rfl:V=0:=by rw[← hV,readV,inAt,List.getElem?_eq_none (by omega)];rfl
  have hn':¬ (n:Int)<(ins.length:Int):=by omega
  have d1:decide ((ins.length:Int)≤(n:Int))=true:=by simp;omega
  have d1':(ins.length:Int)≤(n:Int):=by omega
  clear hV HQ
  go_wp2
  go_ret
  exact⟨rfl,H1.out,hT.out⟩
 obtain⟨L,hL⟩:∃ L,ins[n]?=some L:=⟨_,lgRMb hn⟩
 obtain⟨jb,jo,la,lc,rfl,_,cI,hRL⟩:=H1.out.mem.ins.at hL
 have hLsz:=hRL.size
 have d1:¬ (ins.length:Int)≤(n:Int):=by omega
 have hn':(n:Int)<(ins.length:Int):=by omega
 by_cases hq2:q<L.length
 rotate_left
 ·obtain rfl:V=0:=by rw[← hV,readV,inAt,hL];show (match L[q]? with|some v=>v%2 ^ f.width.toNat|none=>0)=0;rw[List.getElem?_eq_none (by omega)]
  have d2:(L.length:Int)≤(q:Int):=by omega
  clear hV HQ hRL hL
  go_wp2
  go_ret
  exact⟨rfl,H1.out,hT.out⟩
 obtain⟨v,hv⟩:∃ v,L[q]?=some v:=⟨_,lgRMb hq2⟩
 obtain⟨vb,vo,rfl,_,cV,hvI⟩:=atNum hRL hv
 have HTR:=hid (fun w=>refTrim wd v hwd1 hwd2 hvI w)
 obtain rfl:V=v%2 ^ wd:=by
  rw[← hV,readV,inAt,hL]
  show (match L[q]? with|some v=>v%2 ^ f.width.toNat|none=>0)=_
  rw[hv,hwd,Int.toNat_natCast]
 have d2:¬ (L.length:Int)≤(q:Int):=by omega
 have hq3:(q:Int)<(L.length:Int):=by omega
 rw[← hwd] at HTR
 have c0:=row_of H1.out.box 0 _ rfl
 generalize v%2 ^ wd=V at *
 clear hV HQ hRL hL hv hvI hwd
 go_upto_region 5 with fail
 go_quiet (first|(go_at_call 120;exact quiet_same (HTR.out _)))
 go_wp2
 go_ret
 exact⟨rfl,H1.out.keep (below_drewN (Below.refl W.heap.size W) nq),hT.out.trans (Turn.of_below (below_drewN (Below.refl W.heap.size W) nq))⟩
end Go.Proofs.YtkjkpddajjmloaaGreatDoor
