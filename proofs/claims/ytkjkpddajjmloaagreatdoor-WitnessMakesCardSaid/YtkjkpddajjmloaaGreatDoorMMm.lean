/- What a run of a flat program does, on plain data, and how a run lies in memory. Condition: the run lies at the pointer. -/
import Derived.Test.YtkjkpddajjmloaaGreatDoorMRf
import Derived.Test.YtkjkpddajjmloaaGreatDoorRowL
import Derived.Test.YtkjkpddajjmloaaGreatDoorMixK
import Derived.Maps.AppendAt
set_option linter.all false
set_option maxRecDepth 1000000
set_option maxHeartbeats 6400000
namespace Go.Proofs.YtkjkpddajjmloaaGreatDoor
open Go.ChangeShapes Go.WideShapes Go.ChangeAt Go.RowKit
open Go.Lib (hid)
theorem gsMMm {α:Type} {a:Array α} {i:Nat} {v:α} (h:a[i]?=some v):i<a.size:=(Array.getElem?_eq_some_iff.1 h).1
theorem lgMMm {α:Type} {l:List α} {i:Nat} (h:i<l.length):l[i]?=some l[i]:=List.getElem?_eq_getElem h
structure MachD where
 regs:List Int
 arrs:List (List Int)
 pc:Int
 t:TraceD
def valM (m:MachD) (r:RefD):Int:=if r.reg<0 then r.num else m.regs.getD r.reg.toNat 0
def setR (m:MachD) (d:Int) (v:Int):MachD:={ m with regs:=m.regs.set d.toNat v }
def endM (m:MachD) (s:Int):MachD:={ m with pc:=m.pc-1,t:={ m.t with status:=s } }
def elemM (m:MachD) (c:CodeD):Option Int:=(m.arrs[c.n.toNat]?).bind fun l=>l[(valM m c.a).toNat]?
def putA (m:MachD) (n i:Nat) (v:Int):MachD:={ m with arrs:=m.arrs.modify n fun l=>l.set i v }
def inAt (ins:List (List Int)) (n k:Nat):Option Int:=(ins[n]?).bind fun l=>l[k]?
def doM (f:FlatD) (ins:List (List Int)) (c:CodeD) (m:MachD):Nat→MachD
 | 0=>setR m c.dst (valM m c.a)
 | 1=>setR m c.dst (opZ c.op.toNat f.width.toNat (valM m c.a) (valM m c.b))
 | 2=>match elemM m c with|some x=>setR m c.dst x|none=>endM m 1
 | 3=>match elemM m c with|some _=>putA m c.n.toNat (valM m c.a).toNat (valM m c.b)|none=>endM m 1
 | 4=>setR { m with t:={ m.t with reads:=m.t.reads.set c.n.toNat (m.t.reads.getD c.n.toNat 0+1) } } c.dst (match inAt ins c.n.toNat (m.t.reads.getD c.n.toNat 0).toNat with|some v=>v%2 ^ f.width.toNat|none=>0)
 | 5=>{ m with t:={ m.t with outs:=m.t.outs++[⟨c.n,valM m c.a⟩] } }
 | 6=>setR { m with t:={ m.t with rels:=m.t.rels++[⟨c.n,valM m c.a⟩] } } c.dst (valM m c.a)
 | 7=>{ m with pc:=c.n }
 | 8=>{ m with pc:=if valM m c.a=0 then m.pc else c.n,t:={ m.t with brs:=m.t.brs++[valM m c.a != 0] } }
 | 9=>endM m 0
 | _=>m
def tickM (m:MachD):MachD:={ m with pc:=m.pc+1,t:={ m.t with steps:=m.t.steps+1 } }
def stepM (f:FlatD) (ins:List (List Int)) (m:MachD):MachD:=
 if m.t.status=2 then match f.code[m.pc.toNat]? with|some c=>doM f ins c (tickM m) c.kind.toNat|none=>m else m
def newM (f:FlatD):MachD:=⟨List.replicate f.regs.toNat 0,f.arrays.map fun n=>List.replicate n.toNat 0,0,⟨2,0,[],[],[],List.replicate f.chans.length 0⟩⟩
def iterM (f:FlatD) (ins:List (List Int)):Nat→MachD→MachD
 | 0,m=>m
 | n+1,m=>iterM f ins n (stepM f ins m)
structure Good (f:FlatD) (m:MachD):Prop where
 regs:m.regs.length=f.regs.toNat
 rv:∀ x∈m.regs,InU64 x
 arrs:m.arrs.map List.length=f.arrays.map Int.toNat
 av:∀ l∈m.arrs,∀ x∈l,InU64 x
 reads:m.t.reads.length=f.chans.length
 rd:∀ x∈m.t.reads,0≤x∧x≤m.t.steps
 outs:(m.t.outs.length:Int)≤m.t.steps
 rels:(m.t.rels.length:Int)≤m.t.steps
 brs:(m.t.brs.length:Int)≤m.t.steps
 ov:∀ x∈m.t.outs,InI64 x.n∧InU64 x.val
 lv:∀ x∈m.t.rels,InI64 x.n∧InU64 x.val
 st:m.t.status=0 ∨ m.t.status=1 ∨ m.t.status=2
 steps:0≤m.t.steps
def u64s (l:List Int):Array Value:=(l.map fun x=>.int .u64 x).toArray
def i64s (l:List Int):Array Value:=(l.map fun x=>.int .i64 x).toArray
theorem u64s_get (l:List Int) (i:Nat) (x:Int) (h:l[i]?=some x):(u64s l)[i]?=some (.int .u64 x):=by simp[u64s,h]
theorem i64s_get (l:List Int) (i:Nat) (x:Int) (h:l[i]?=some x):(i64s l)[i]?=some (.int .i64 x):=by simp[i64s,h]
theorem u64s_set (l:List Int) (i:Nat) (x:Int):(u64s l).setIfInBounds i (.int .u64 x)=u64s (l.set i x):=by simp[u64s,List.map_set]
theorem i64s_set (l:List Int) (i:Nat) (x:Int):(i64s l).setIfInBounds i (.int .i64 x)=i64s (l.set i x):=by simp[i64s,List.map_set]
abbrev kSlc:Kind (Nat × Nat):=⟨61,1,24,fun x=>[.slice (some ⟨x.1,0,none⟩) x.2 x.2],fun _=>True,fun _=>rfl,by decide⟩
structure Turn (B:Nat→Prop) (w w':World):Prop where
 os:w'.os=w.os
 tape:w'.tape=w.tape
 output:w'.output=w.output
 size:w.heap.size≤w'.heap.size
 block:∀ b,b<w.heap.size→¬ B b→w'.heap[b]?=w.heap[b]?
theorem Turn.refl (B:Nat→Prop) (w:World):Turn B w w:=⟨rfl,rfl,rfl,Nat.le_refl _,fun _ _ _=>rfl⟩
theorem Turn.of_below {B:Nat→Prop} {w w':World} (h:Below w.heap.size w w'):Turn B w w':=⟨h.os,h.tape,h.output,h.size,fun b hb _=>h.block b hb⟩
theorem Turn.trans {B:Nat→Prop} {a b c:World} (h:Turn B a b) (k:Turn B b c):Turn B a c:=
 ⟨k.os.trans h.os,k.tape.trans h.tape,k.output.trans h.output,Nat.le_trans h.size k.size,fun i hi hB=>(k.block i (Nat.lt_of_lt_of_le hi h.size) hB).trans (h.block i hi hB)⟩
theorem Turn.setCell {B:Nat→Prop} {w w':World} (h:Turn B w w') {a:Addr} (ha:B a.block) (v:Value):Turn B w (w'.setCell a v):=
 h.trans ⟨rfl,rfl,rfl,by simp,fun b _ hB=>heap_setCell_other _ _ _ _ (fun e=>hB (e ▸ ha))⟩
structure Mem (G I:Nat→Prop) (w:World) (f:FlatD) (ins:List (List Int)) (m:MachD) (kv iv av ov rv bv:Value) (gb db:Nat) (bs:List Nat):Prop where
 iG:∀ b,I b→G b
 code:RdRow kCode (some I) w kv f.code
 ins:RdLists (some I) w iv ins
 regs:w.heap[gb]?=some (.cells (u64s m.regs) 58 (0,0))
 reads:w.heap[db]?=some (.cells (i64s m.t.reads) 3 (0,0))
 arrs:RdRow kSlc (some I) w av (bs.zip (m.arrs.map List.length))
 rows:∀ (i:Nat) b l,bs[i]?=some b→m.arrs[i]?=some l→w.heap[b]?=some (.cells (u64s l) 58 (0,0))
 blen:bs.length=m.arrs.length
 nodup:(gb :: bs).Nodup
 sep:G gb∧¬ I gb∧G db∧¬ I db∧(∀ b∈bs,G b∧¬ I b)
 outs:w.ownsRow 0 163 2 ov m.t.outs.length (m.t.outs.flatMap cellsEv)
 rels:w.ownsRow 0 163 2 rv m.t.rels.length (m.t.rels.flatMap cellsEv)
 brs:w.ownsRow 0 4 1 bv m.t.brs.length (m.t.brs.flatMap cellsBool)
 osep:(∀ b,ov.ownBlock=some b→G b∧¬ I b∧rv.ownBlock≠some b)∧(∀ b,rv.ownBlock=some b→G b∧¬ I b)∧(∀ b,bv.ownBlock=some b→G b∧¬ I b)
abbrev cellsP (f:FlatD) (m:MachD) (c8 c9 c10 kv iv av ov rv bv:Value) (gb db:Nat):Array Value:=
 #[.int .u8 m.t.status,.int .i64 m.t.steps,ov,rv,bv,.slice (some ⟨db,0,none⟩) m.t.reads.length m.t.reads.length,.int .i64 f.width,.int .i64 f.regs,c8,c9,c10,kv,iv,.slice (some ⟨gb,0,none⟩) m.regs.length m.regs.length,av,.int .i64 m.pc,.bool (m.t.status != 2)]
structure MachAt (G I:Nat→Prop) (w:World) (bm:Nat) (f:FlatD) (ins:List (List Int)) (m:MachD) (c8 c9 c10 kv iv av ov rv bv:Value) (gb db:Nat) (bs:List Nat):Prop where
 mem:Mem G I w f ins m kv iv av ov rv bv gb db bs
 box:w.heap[bm]?=some (.cells (cellsP f m c8 c9 c10 kv iv av ov rv bv gb db) 183 (0,0))
 bG:G bm∧¬ I bm
theorem own_same {w w':World} {base:Nat} {e:TypeId} {size:Nat} {v:Value} {n:Nat} {xs:List Value} (h:w.ownsRow base e size v n xs) (hb:∀ b,v.ownBlock=some b→w'.heap[b]?=w.heap[b]?):w'.ownsRow base e size v n xs:=by
 obtain⟨hl,h|⟨g,cap,cur,rfl,hg,hc,hr⟩⟩:=h
 ·exact⟨hl,.inl h⟩
 ·exact⟨hl,.inr ⟨g,cap,cur,rfl,hg,(hb g rfl).trans hc,hr⟩⟩
theorem own_lt {w:World} {base:Nat} {e:TypeId} {size:Nat} {v:Value} {n:Nat} {xs:List Value} (h:w.ownsRow base e size v n xs):∀ b,v.ownBlock=some b→b<w.heap.size:=by
 obtain⟨_,⟨rfl,_⟩|⟨g,cap,cur,rfl,hg,hc,_⟩⟩:=h
 ·intro k hk;simp[Value.ownBlock] at hk
 ·intro k hk;simp[Value.ownBlock] at hk;subst hk;exact (gsMMm hc)
theorem Mem.same {G I:Nat→Prop} {w w':World} {f:FlatD} {ins:List (List Int)} {m:MachD} {kv iv av ov rv bv:Value} {gb db:Nat} {bs:List Nat} (h:Mem G I w f ins m kv iv av ov rv bv gb db bs) (k:∀ b,G b→b<w.heap.size→w'.heap[b]?=w.heap[b]?):Mem G I w' f ins m kv iv av ov rv bv gb db bs where
 iG:=h.iG
 code:=h.code.same (fun b hb hl=>k b (h.iG b hb) hl) (fun _ _ x=>x)
 ins:=h.ins.same (fun b hb hl=>k b (h.iG b hb) hl) (fun _ _ x=>x)
 regs:=(k gb h.sep.1 (gsMMm h.regs)).trans h.regs
 reads:=(k db h.sep.2.2.1 (gsMMm h.reads)).trans h.reads
 arrs:=h.arrs.same (fun b hb hl=>k b (h.iG b hb) hl) (fun _ _ x=>x)
 rows:=fun i b l hb hl=>by have:=h.rows i b l hb hl;exact (k b (h.sep.2.2.2.2 b (List.mem_of_getElem? hb)).1 (gsMMm this)).trans this
 blen:=h.blen
 nodup:=h.nodup
 sep:=h.sep
 outs:=own_same h.outs fun b hb=>k b (h.osep.1 b hb).1 (own_lt h.outs b hb)
 rels:=own_same h.rels fun b hb=>k b (h.osep.2.1 b hb).1 (own_lt h.rels b hb)
 brs:=own_same h.brs fun b hb=>k b (h.osep.2.2 b hb).1 (own_lt h.brs b hb)
 osep:=h.osep
theorem MachAt.same {G I:Nat→Prop} {w w':World} {bm:Nat} {f:FlatD} {ins:List (List Int)} {m:MachD} {c8 c9 c10 kv iv av ov rv bv:Value} {gb db:Nat} {bs:List Nat} (h:MachAt G I w bm f ins m c8 c9 c10 kv iv av ov rv bv gb db bs) (k:∀ b,G b→b<w.heap.size→w'.heap[b]?=w.heap[b]?):MachAt G I w' bm f ins m c8 c9 c10 kv iv av ov rv bv gb db bs:=
 ⟨h.mem.same k,(k bm h.bG.1 (gsMMm h.box)).trans h.box,h.bG⟩
theorem MachAt.keep {G I:Nat→Prop} {w w':World} {bm:Nat} {f:FlatD} {ins:List (List Int)} {m:MachD} {c8 c9 c10 kv iv av ov rv bv:Value} {gb db:Nat} {bs:List Nat} (h:MachAt G I w bm f ins m c8 c9 c10 kv iv av ov rv bv gb db bs) (k:Below w.heap.size w w'):MachAt G I w' bm f ins m c8 c9 c10 kv iv av ov rv bv gb db bs:=h.same fun b _ hl=>k.block b hl
def NotIn (I:Nat→Prop) (ov rv bv:Value) (gb db:Nat) (bs:List Nat) (x:Nat):Prop:=¬ I x∧x≠gb∧x≠db∧x ∉ bs∧ov.ownBlock≠some x∧rv.ownBlock≠some x∧bv.ownBlock≠some x
theorem row_ne {w:World} {a b:Nat} {cs ds:Array Value} {S T:TypeId} {p q:Nat × Nat} (h:w.heap[a]?=some (.cells cs S p)) (k:w.heap[b]?=some (.cells ds T q)) (hT:S≠T):a≠b:=by
 rintro rfl
 rw[h] at k
 simp only[Option.some.injEq,Obj.cells.injEq] at k
 exact hT k.2.1
theorem own_row {w:World} {base:Nat} {e:TypeId} {size:Nat} {v:Value} {n:Nat} {xs:List Value} (h:w.ownsRow base e size v n xs) {b:Nat} (hb:v.ownBlock=some b):∃ cs,w.heap[b]?=some (.cells cs e (0,0)):=by
 obtain⟨_,⟨rfl,_⟩|⟨g,cap,cur,rfl,hg,hc,_⟩⟩:=h
 ·simp[Value.ownBlock] at hb
 ·simp[Value.ownBlock] at hb;subst hb;exact⟨_,hc⟩
theorem zip_rows {G I:Nat→Prop} {w:World} {f:FlatD} {ins:List (List Int)} {m:MachD} {kv iv av ov rv bv:Value} {gb db:Nat} {bs:List Nat} (h:Mem G I w f ins m kv iv av ov rv bv gb db bs) {b:Nat} (hb:b∈bs):∃ (i:Nat) (l:List Int),bs[i]?=some b∧m.arrs[i]?=some l∧w.heap[b]?=some (.cells (u64s l) 58 (0,0)):=by
 obtain⟨i,hi⟩:=List.getElem?_of_mem hb
 have hl:i<m.arrs.length:=by rw[← h.blen];exact (List.getElem?_eq_some_iff.1 hi).1
 exact⟨i,_,hi,List.getElem?_eq_getElem hl,h.rows i b _ hi (List.getElem?_eq_getElem hl)⟩
theorem Mem.notIn {G I:Nat→Prop} {w:World} {f:FlatD} {ins:List (List Int)} {m:MachD} {kv iv av ov rv bv:Value} {gb db:Nat} {bs:List Nat} (h:Mem G I w f ins m kv iv av ov rv bv gb db bs) {x:Nat} {cs:Array Value} {T:TypeId} (hx:w.heap[x]?=some (.cells cs T (0,0))) (hI:¬ I x) (hT:T≠58∧T≠3∧T≠163∧T≠4):NotIn I ov rv bv gb db bs x:=by
 refine⟨hI,row_ne hx h.regs hT.1,row_ne hx h.reads hT.2.1,?_,?_,?_,?_⟩
 ·intro hb;obtain⟨i,l,_,_,hr⟩:=zip_rows h hb;exact row_ne hx hr hT.1 rfl
 ·intro hb;obtain⟨cs',hr⟩:=own_row h.outs hb;exact row_ne hx hr hT.2.2.1 rfl
 ·intro hb;obtain⟨cs',hr⟩:=own_row h.rels hb;exact row_ne hx hr hT.2.2.1 rfl
 ·intro hb;obtain⟨cs',hr⟩:=own_row h.brs hb;exact row_ne hx hr hT.2.2.2 rfl
theorem Mem.apart {G I:Nat→Prop} {w w':World} {f:FlatD} {ins:List (List Int)} {m:MachD} {kv iv av ov rv bv:Value} {gb db:Nat} {bs:List Nat} (h:Mem G I w f ins m kv iv av ov rv bv gb db bs) {x:Nat} (hx:NotIn I ov rv bv gb db bs x) (k:∀ b,b<w.heap.size→b≠x→w'.heap[b]?=w.heap[b]?):Mem G I w' f ins m kv iv av ov rv bv gb db bs where
 iG:=h.iG
 code:=h.code.same (fun b hb hl=>k b hl (fun e=>hx.1 (e ▸ hb))) (fun _ _ x=>x)
 ins:=h.ins.same (fun b hb hl=>k b hl (fun e=>hx.1 (e ▸ hb))) (fun _ _ x=>x)
 regs:=(k gb (gsMMm h.regs) (fun e=>hx.2.1 e.symm)).trans h.regs
 reads:=(k db (gsMMm h.reads) (fun e=>hx.2.2.1 e.symm)).trans h.reads
 arrs:=h.arrs.same (fun b hb hl=>k b hl (fun e=>hx.1 (e ▸ hb))) (fun _ _ x=>x)
 rows:=fun i b l hb hl=>by have:=h.rows i b l hb hl;exact (k b (gsMMm this) (fun e=>hx.2.2.2.1 (e ▸ List.mem_of_getElem? hb))).trans this
 blen:=h.blen
 nodup:=h.nodup
 sep:=h.sep
 outs:=own_same h.outs fun b hb=>k b (own_lt h.outs b hb) (fun e=>hx.2.2.2.2.1 (e ▸ hb))
 rels:=own_same h.rels fun b hb=>k b (own_lt h.rels b hb) (fun e=>hx.2.2.2.2.2.1 (e ▸ hb))
 brs:=own_same h.brs fun b hb=>k b (own_lt h.brs b hb) (fun e=>hx.2.2.2.2.2.2 (e ▸ hb))
 osep:=h.osep
theorem Mem.alike {G I:Nat→Prop} {w:World} {f:FlatD} {ins:List (List Int)} {m m':MachD} {kv iv av ov rv bv:Value} {gb db:Nat} {bs:List Nat} (h:Mem G I w f ins m kv iv av ov rv bv gb db bs) (e1:m'.regs=m.regs) (e2:m'.arrs=m.arrs) (e3:m'.t.reads=m.t.reads) (e4:m'.t.outs=m.t.outs) (e5:m'.t.rels=m.t.rels) (e6:m'.t.brs=m.t.brs):Mem G I w f ins m' kv iv av ov rv bv gb db bs:=by
 obtain⟨a1,a2,a3,a4,a5,a6,a7,a8,a9,b1,b2,b3,b4,b5⟩:=h
 refine⟨a1,a2,a3,?_,?_,?_,?_,?_,a9,b1,?_,?_,?_,b5⟩
 ·rw[e1];exact a4
 ·rw[e3];exact a5
 ·rw[e2];exact a6
 ·rw[e2];exact a7
 ·rw[e2];exact a8
 ·rw[e4];exact b2
 ·rw[e5];exact b3
 ·rw[e6];exact b4
theorem Mem.setReg {G I:Nat→Prop} {w:World} {f:FlatD} {ins:List (List Int)} {m:MachD} {kv iv av ov rv bv:Value} {gb db:Nat} {bs:List Nat} (h:Mem G I w f ins m kv iv av ov rv bv gb db bs) (d:Nat) (v:Int):Mem G I (w.setCell ⟨gb,d,none⟩ (.int .u64 v)) f ins { m with regs:=m.regs.set d v } kv iv av ov rv bv gb db bs:=by
 have k:∀ b,b≠gb→(w.setCell ⟨gb,d,none⟩ (.int .u64 v)).heap[b]?=w.heap[b]?:=fun b hb=>heap_setCell_other _ _ _ _ (by simpa using hb)
 have nI:∀ b,I b→b≠gb:=fun b hb e=>h.sep.2.1 (e ▸ hb)
 exact {
  iG:=h.iG
  code:=h.code.same (fun b hb _=>k b (nI b hb)) (fun _ _ x=>x)
  ins:=h.ins.same (fun b hb _=>k b (nI b hb)) (fun _ _ x=>x)
  regs:=by rw[heap_setCell_same _ _ _ _ _ _ h.regs,u64s_set]
  reads:=(k db (row_ne h.reads h.regs (by decide))).trans h.reads
  arrs:=h.arrs.same (fun b hb _=>k b (nI b hb)) (fun _ _ x=>x)
  rows:=fun i b l hb hl=>(k b (fun e=>(List.nodup_cons.1 h.nodup).1 (e ▸ List.mem_of_getElem? hb))).trans (h.rows i b l hb hl)
  blen:=h.blen
  nodup:=h.nodup
  sep:=h.sep
  outs:=own_same h.outs fun b hb=>k b (by obtain⟨cs,hr⟩:=own_row h.outs hb;exact row_ne hr h.regs (by decide))
  rels:=own_same h.rels fun b hb=>k b (by obtain⟨cs,hr⟩:=own_row h.rels hb;exact row_ne hr h.regs (by decide))
  brs:=own_same h.brs fun b hb=>k b (by obtain⟨cs,hr⟩:=own_row h.brs hb;exact row_ne hr h.regs (by decide))
  osep:=h.osep }
theorem Mem.setRead {G I:Nat→Prop} {w:World} {f:FlatD} {ins:List (List Int)} {m:MachD} {kv iv av ov rv bv:Value} {gb db:Nat} {bs:List Nat} (h:Mem G I w f ins m kv iv av ov rv bv gb db bs) (d:Nat) (v:Int):Mem G I (w.setCell ⟨db,d,none⟩ (.int .i64 v)) f ins { m with t:={ m.t with reads:=m.t.reads.set d v } } kv iv av ov rv bv gb db bs:=by
 have k:∀ b,b≠db→(w.setCell ⟨db,d,none⟩ (.int .i64 v)).heap[b]?=w.heap[b]?:=fun b hb=>heap_setCell_other _ _ _ _ (by simpa using hb)
 have nI:∀ b,I b→b≠db:=fun b hb e=>h.sep.2.2.2.1 (e ▸ hb)
 exact {
  iG:=h.iG
  code:=h.code.same (fun b hb _=>k b (nI b hb)) (fun _ _ x=>x)
  ins:=h.ins.same (fun b hb _=>k b (nI b hb)) (fun _ _ x=>x)
  regs:=(k gb (row_ne h.regs h.reads (by decide))).trans h.regs
  reads:=by rw[heap_setCell_same _ _ _ _ _ _ h.reads,i64s_set]
  arrs:=h.arrs.same (fun b hb _=>k b (nI b hb)) (fun _ _ x=>x)
  rows:=fun i b l hb hl=>(k b (row_ne (h.rows i b l hb hl) h.reads (by decide))).trans (h.rows i b l hb hl)
  blen:=h.blen
  nodup:=h.nodup
  sep:=h.sep
  outs:=own_same h.outs fun b hb=>k b (by obtain⟨cs,hr⟩:=own_row h.outs hb;exact row_ne hr h.reads (by decide))
  rels:=own_same h.rels fun b hb=>k b (by obtain⟨cs,hr⟩:=own_row h.rels hb;exact row_ne hr h.reads (by decide))
  brs:=own_same h.brs fun b hb=>k b (by obtain⟨cs,hr⟩:=own_row h.brs hb;exact row_ne hr h.reads (by decide))
  osep:=h.osep }
theorem nodup_inj:∀ {l:List Nat} (_:l.Nodup) {i j x:Nat},l[i]?=some x→l[j]?=some x→i=j
 | [],_,i,j,x,h,_=>by simp at h
 | a :: r,hn,0,0,x,_,_=>rfl
 | a :: r,hn,0,j+1,x,h,k=>by
  simp at h k;subst h
  exact absurd (List.mem_of_getElem? k) (List.nodup_cons.1 hn).1
 | a :: r,hn,i+1,0,x,h,k=>by
  simp at h k;subst k
  exact absurd (List.mem_of_getElem? h) (List.nodup_cons.1 hn).1
 | a :: r,hn,i+1,j+1,x,h,k=>by
  have:=nodup_inj (List.nodup_cons.1 hn).2 (i:=i) (j:=j) (x:=x) (by simpa using h) (by simpa using k)
  omega
theorem modify_len (L:List (List Int)) (n i:Nat) (v:Int):(L.modify n fun l=>l.set i v).map List.length=L.map List.length:=by
 apply List.ext_getElem?
 intro j
 simp only[List.getElem?_map,List.getElem?_modify]
 cases L[j]? with
 | none=>rfl
 | some l=>simp;split <;> simp
theorem Mem.setArr {G I:Nat→Prop} {w:World} {f:FlatD} {ins:List (List Int)} {m:MachD} {kv iv av ov rv bv:Value} {gb db:Nat} {bs:List Nat} (h:Mem G I w f ins m kv iv av ov rv bv gb db bs) (n i:Nat) (v:Int) {x:Nat} (hx:bs[n]?=some x):Mem G I (w.setCell ⟨x,i,none⟩ (.int .u64 v)) f ins { m with arrs:=m.arrs.modify n fun l=>l.set i v } kv iv av ov rv bv gb db bs:=by
 have hm:=List.mem_of_getElem? hx
 obtain⟨_,l0,_,_,hr0⟩:=zip_rows h hm
 have k:∀ b,b≠x→(w.setCell ⟨x,i,none⟩ (.int .u64 v)).heap[b]?=w.heap[b]?:=fun b hb=>heap_setCell_other _ _ _ _ (by simpa using hb)
 have nI:∀ b,I b→b≠x:=fun b hb e=>(h.sep.2.2.2.2 x hm).2 (e ▸ hb)
 have hn:=(List.nodup_cons.1 h.nodup)
 exact {
  iG:=h.iG
  code:=h.code.same (fun b hb _=>k b (nI b hb)) (fun _ _ x=>x)
  ins:=h.ins.same (fun b hb _=>k b (nI b hb)) (fun _ _ x=>x)
  regs:=(k gb (fun e=>hn.1 (e ▸ hm))).trans h.regs
  reads:=(k db (row_ne h.reads hr0 (by decide))).trans h.reads
  arrs:=by
   show RdRow kSlc (some I) _ av (bs.zip ((m.arrs.modify n fun l=>l.set i v).map List.length))
   rw[modify_len]
   exact h.arrs.same (fun b hb _=>k b (nI b hb)) (fun _ _ x=>x)
  rows:=fun j b l hb hl=>by
   simp only[List.getElem?_modify] at hl
   cases hj:m.arrs[j]? with
   | none=>rw[hj] at hl;simp at hl
   | some l'=>
    rw[hj] at hl
    have hr:=h.rows j b l' hb hj
    by_cases e:n=j
    ·subst e
     have:x=b:=by rw[hx] at hb;exact Option.some.inj hb
     subst this
     simp at hl
     subst hl
     rw[heap_setCell_same _ _ _ _ _ _ hr,u64s_set]
    ·simp[e] at hl
     subst hl
     refine (k b fun eb=>e ?_).trans hr
     subst eb
     have h1:=(List.getElem?_eq_some_iff.1 hx)
     have h2:=(List.getElem?_eq_some_iff.1 hb)
     exact nodup_inj hn.2 hx hb
  blen:=by rw[List.length_modify];exact h.blen
  nodup:=h.nodup
  sep:=h.sep
  outs:=own_same h.outs fun b hb=>k b (by obtain⟨cs,hr⟩:=own_row h.outs hb;exact row_ne hr hr0 (by decide))
  rels:=own_same h.rels fun b hb=>k b (by obtain⟨cs,hr⟩:=own_row h.rels hb;exact row_ne hr hr0 (by decide))
  brs:=own_same h.brs fun b hb=>k b (by obtain⟨cs,hr⟩:=own_row h.brs hb;exact row_ne hr hr0 (by decide))
  osep:=h.osep }
def RefIn (m:MachD) (r:RefD):Prop:=InI64 r.reg∧InU64 r.num∧r.reg<m.regs.length
theorem valM_reg {m:MachD} {r:RefD} (h0:0≤r.reg) (h1:r.reg<m.regs.length):m.regs[r.reg.toNat]?=some (valM m r):=by
 unfold valM
 rw[if_neg (by omega),List.getD_eq_getElem?_getD,List.getElem?_eq_getElem (by omega)];rfl
theorem machValue {G I:Nat→Prop} {w:World} {bm:Nat} {f:FlatD} {ins:List (List Int)} {m:MachD} {c8 c9 c10 kv iv av ov rv bv:Value} {gb db:Nat} {bs:List Nat} (h:MachAt G I w bm f ins m c8 c9 c10 kv iv av ov rv bv gb db bs) (r:RefD) (hr:RefIn m r) (hl:m.regs.length≤2097152) :
  Calls Tryz.prog 171 #[.pointer (some ⟨bm,0,none⟩),refV r] w fun e w'=>e=.returned (.int .u64 (valM m r))∧Below w.heap.size w w':=by
 obtain⟨rr,rn⟩:=r
 obtain⟨⟨hr1,hr2⟩,hr3,hr4⟩:=hr
 simp only at hr1 hr2 hr3 hr4
 have hb0:Hid (Below w.heap.size w (w.alloc (.cells #[.int .i64 rr,.int .u64 rn] 88))):=(Below.refl _ _).alloc (Nat.le_refl _) _
 have hlt:=(gsMMm h.box)
 have hgt:=(gsMMm h.mem.regs)
 by_cases h0:rr<0
 ·have HV:Hid (valM m ⟨rr,rn⟩=rn):=if_pos h0
  clear h
  go_enter Tryz.func171,Tryz.ntmps171
  go_wp2
  go_ret
  exact⟨by rw[HV.out];rfl,hb0.out⟩
 ·obtain⟨k,rfl⟩:∃ k:Nat,rr=k:=⟨rr.toNat,by omega⟩
  have h1:(k:Int)<(m.regs.length:Int):=hr4
  have hx:=valM_reg (m:=m) (r:=⟨k,rn⟩) (by simp only;omega) hr4
  simp only[Int.toNat_natCast] at hx
  have c13:=row_of h.box 13 _ rfl
  have cg:=row_of h.mem.regs k _ (u64s_get _ _ _ hx)
  generalize valM m ⟨k,rn⟩=x at *
  clear h hx
  go_enter Tryz.func171,Tryz.ntmps171
  go_wp2_with fail
  go_quiet (fail)
  go_wp2
  go_ret
  exact⟨rfl,below_drewN hb0.out _⟩
def Grow (G:Nat→Prop) (w w':World):Nat→Prop:=fun b=>G b ∨ (w.heap.size≤b∧b<w'.heap.size)
def MachIn (G:Nat→Prop) (w:World) (bm:Nat) (f:FlatD) (ins:List (List Int)) (m:MachD):Prop:=
 ∃ (I:Nat→Prop) (c8 c9 c10 kv iv av ov rv bv:Value) (gb db:Nat) (bs:List Nat),MachAt G I w bm f ins m c8 c9 c10 kv iv av ov rv bv gb db bs
def Post (G:Nat→Prop) (w w':World) (bm:Nat) (f:FlatD) (ins:List (List Int)) (m:MachD):Prop:=MachIn (Grow G w w') w' bm f ins m∧Turn G w w'
theorem Mem.mono {G G' I:Nat→Prop} {w:World} {f:FlatD} {ins:List (List Int)} {m:MachD} {kv iv av ov rv bv:Value} {gb db:Nat} {bs:List Nat} (h:Mem G I w f ins m kv iv av ov rv bv gb db bs) (k:∀ b,b<w.heap.size→G b→G' b) (kI:∀ b,I b→G' b):Mem G' I w f ins m kv iv av ov rv bv gb db bs:=
 { h with iG:=kI,sep:=⟨k _ (gsMMm h.regs) h.sep.1,h.sep.2.1,k _ (gsMMm h.reads) h.sep.2.2.1,h.sep.2.2.2.1,fun b hb=>⟨k b (by obtain⟨_,l,_,_,hr⟩:=zip_rows h hb;exact (gsMMm hr)) (h.sep.2.2.2.2 b hb).1,(h.sep.2.2.2.2 b hb).2⟩⟩,osep:=⟨fun b hb=>⟨k b (own_lt h.outs b hb) (h.osep.1 b hb).1,(h.osep.1 b hb).2⟩,fun b hb=>⟨k b (own_lt h.rels b hb) (h.osep.2.1 b hb).1,(h.osep.2.1 b hb).2⟩,fun b hb=>⟨k b (own_lt h.brs b hb) (h.osep.2.2 b hb).1,(h.osep.2.2 b hb).2⟩⟩ }
theorem MachAt.mono {G G' I:Nat→Prop} {w:World} {bm:Nat} {f:FlatD} {ins:List (List Int)} {m:MachD} {c8 c9 c10 kv iv av ov rv bv:Value} {gb db:Nat} {bs:List Nat} (h:MachAt G I w bm f ins m c8 c9 c10 kv iv av ov rv bv gb db bs) (k:∀ b,G b→G' b):MachAt G' I w bm f ins m c8 c9 c10 kv iv av ov rv bv gb db bs:=
 ⟨h.mem.mono (fun b _ hb=>k b hb) (fun b hb=>k b (h.mem.iG b hb)),h.box,k _ h.bG.1,h.bG.2⟩
theorem MachIn.mono {G G':Nat→Prop} {w:World} {bm:Nat} {f:FlatD} {ins:List (List Int)} {m:MachD} (h:MachIn G w bm f ins m) (k:∀ b,G b→G' b):MachIn G' w bm f ins m:=by
 obtain⟨I,c8,c9,c10,kv,iv,av,ov,rv,bv,gb,db,bs,h⟩:=h
 exact⟨I,c8,c9,c10,kv,iv,av,ov,rv,bv,gb,db,bs,h.mono k⟩
theorem post_of {G I:Nat→Prop} {w w':World} {bm:Nat} {f:FlatD} {ins:List (List Int)} {m:MachD} {c8 c9 c10 kv iv av ov rv bv:Value} {gb db:Nat} {bs:List Nat} (h:MachAt G I w' bm f ins m c8 c9 c10 kv iv av ov rv bv gb db bs) (t:Turn G w w'):Post G w w' bm f ins m:=
 ⟨⟨I,c8,c9,c10,kv,iv,av,ov,rv,bv,gb,db,bs,h.mono fun _ hb=>.inl hb⟩,t⟩
theorem MachAt.setPc {G I:Nat→Prop} {w:World} {bm:Nat} {f:FlatD} {ins:List (List Int)} {m:MachD} {c8 c9 c10 kv iv av ov rv bv:Value} {gb db:Nat} {bs:List Nat} (h:MachAt G I w bm f ins m c8 c9 c10 kv iv av ov rv bv gb db bs) (v:Int):MachAt G I (w.setCell ⟨bm,15,none⟩ (.int .i64 v)) bm f ins { m with pc:=v } c8 c9 c10 kv iv av ov rv bv gb db bs:=
 ⟨(h.mem.apart (h.mem.notIn h.box h.bG.2 (by decide)) (fun b _ hb=>heap_setCell_other _ _ _ _ (by simpa using hb))).alike rfl rfl rfl rfl rfl rfl,by rw[heap_setCell_same _ _ _ _ _ _ h.box];rfl,h.bG⟩
theorem MachAt.setSteps {G I:Nat→Prop} {w:World} {bm:Nat} {f:FlatD} {ins:List (List Int)} {m:MachD} {c8 c9 c10 kv iv av ov rv bv:Value} {gb db:Nat} {bs:List Nat} (h:MachAt G I w bm f ins m c8 c9 c10 kv iv av ov rv bv gb db bs) (v:Int):MachAt G I (w.setCell ⟨bm,1,none⟩ (.int .i64 v)) bm f ins { m with t:={ m.t with steps:=v } } c8 c9 c10 kv iv av ov rv bv gb db bs:=
 ⟨(h.mem.apart (h.mem.notIn h.box h.bG.2 (by decide)) (fun b _ hb=>heap_setCell_other _ _ _ _ (by simpa using hb))).alike rfl rfl rfl rfl rfl rfl,by rw[heap_setCell_same _ _ _ _ _ _ h.box];rfl,h.bG⟩
theorem MachAt.setStatus {G I:Nat→Prop} {w:World} {bm:Nat} {f:FlatD} {ins:List (List Int)} {m:MachD} {c8 c9 c10 kv iv av ov rv bv:Value} {gb db:Nat} {bs:List Nat} (h:MachAt G I w bm f ins m c8 c9 c10 kv iv av ov rv bv gb db bs) (s:Int) (hs:(s != 2)=true):MachAt G I ((w.setCell ⟨bm,0,none⟩ (.int .u8 s)).setCell ⟨bm,16,none⟩ (.bool true)) bm f ins { m with t:={ m.t with status:=s } } c8 c9 c10 kv iv av ov rv bv gb db bs:=
 ⟨(h.mem.apart (h.mem.notIn h.box h.bG.2 (by decide)) (fun b _ hb=>by rw[heap_setCell_other _ _ _ _ (by simpa using hb),heap_setCell_other _ _ _ _ (by simpa using hb)])).alike rfl rfl rfl rfl rfl rfl,by
  rw[heap_setCell_same _ _ _ _ _ _ (heap_setCell_same _ _ _ _ _ _ h.box)]
  simp only[cellsP,hs]
  rfl,h.bG⟩
theorem machEnd {G I:Nat→Prop} {w:World} {bm:Nat} {f:FlatD} {ins:List (List Int)} {m:MachD} {c8 c9 c10 kv iv av ov rv bv:Value} {gb db:Nat} {bs:List Nat} (h:MachAt G I w bm f ins m c8 c9 c10 kv iv av ov rv bv gb db bs) (s:Int) (hs:(s != 2)=true) (hp:0≤m.pc) (hp1:m.pc≤4096) :
  Calls Tryz.prog 175 #[.pointer (some ⟨bm,0,none⟩),.int .u8 s] w fun e w'=>e=.returned (.tuple #[])∧Post G w w' bm f ins (endM m s):=by
 have c15:=row_of h.box 15 _ rfl
 have c0:=row_of h.box 0 _ rfl
 have c16:=row_of h.box 16 _ rfl
 have f15:=frozen_of_row w bm 15 _ _ h.box
 have f0:=frozen_of_row w bm 0 _ _ h.box
 have f16:=frozen_of_row w bm 16 _ _ h.box
 have H:=hid ((h.setStatus s hs).setPc (m.pc-1))
 have hT:Hid (Turn G w (((w.setCell ⟨bm,0,none⟩ (.int .u8 s)).setCell ⟨bm,16,none⟩ (.bool true)).setCell ⟨bm,15,none⟩ (.int .i64 (m.pc-1)))):=(((Turn.refl G w).setCell h.bG.1 _).setCell h.bG.1 _).setCell h.bG.1 _
 clear h
 go_enter Tryz.func175,Tryz.ntmps175
 go_wp2
 go_end0
 exact⟨rfl,post_of H.out hT.out⟩
theorem machJump {G I:Nat→Prop} {w:World} {bm:Nat} {f:FlatD} {ins:List (List Int)} {m:MachD} {c8 c9 c10 kv iv av ov rv bv:Value} {gb db:Nat} {bs:List Nat} (h:MachAt G I w bm f ins m c8 c9 c10 kv iv av ov rv bv gb db bs) (c:CodeD) :
  Calls Tryz.prog 168 #[.pointer (some ⟨bm,0,none⟩),codeV c] w fun e w'=>e=.returned (.tuple #[])∧Post G w w' bm f ins (doM f ins c m 7):=by
 have c15:=row_of h.box 15 _ rfl
 have f15:=frozen_of_row w bm 15 _ _ h.box
 have hlt:bm<w.heap.size:=(gsMMm h.box)
 have h1:=h.setPc c.n
 have hb:Below (w.setCell ⟨bm,15,none⟩ (.int .i64 c.n)).heap.size (w.setCell ⟨bm,15,none⟩ (.int .i64 c.n)) ((w.setCell ⟨bm,15,none⟩ (.int .i64 c.n)).alloc (.cells #[.int .u8 c.kind,.int .u8 c.op,.int .i64 c.dst,.int .i64 c.n,.int .i64 c.a.reg,.int .u64 c.a.num,.int .i64 c.b.reg,.int .u64 c.b.num] 91)):=(Below.refl _ _).alloc (Nat.le_refl _) _
 have H:=hid (h1.keep hb)
 have hT:=hid (((Turn.refl G w).setCell (a:=⟨bm,15,none⟩) h.bG.1 (.int .i64 c.n)).trans (Turn.of_below hb))
 clear h h1 hb
 go_enter Tryz.func168,Tryz.ntmps168
 go_wp2
 go_end0
 exact⟨rfl,post_of H.out hT.out⟩
theorem code_box (w:World) (c:CodeD):Below w.heap.size w (w.alloc (.cells #[.int .u8 c.kind,.int .u8 c.op,.int .i64 c.dst,.int .i64 c.n,.int .i64 c.a.reg,.int .u64 c.a.num,.int .i64 c.b.reg,.int .u64 c.b.num] 91)):=(Below.refl _ _).alloc (Nat.le_refl _) _
theorem MachAt.setReg {G I:Nat→Prop} {w:World} {bm:Nat} {f:FlatD} {ins:List (List Int)} {m:MachD} {c8 c9 c10 kv iv av ov rv bv:Value} {gb db:Nat} {bs:List Nat} (h:MachAt G I w bm f ins m c8 c9 c10 kv iv av ov rv bv gb db bs) (d v:Int):MachAt G I (w.setCell ⟨gb,d.toNat,none⟩ (.int .u64 v)) bm f ins (setR m d v) c8 c9 c10 kv iv av ov rv bv gb db bs:=
 ⟨h.mem.setReg d.toNat v,by rw[heap_setCell_other _ _ _ _ (by simpa using row_ne h.box h.mem.regs (by decide)),h.box];simp[cellsP,setR],h.bG⟩
theorem machCopy {G I:Nat→Prop} {w:World} {bm:Nat} {f:FlatD} {ins:List (List Int)} {m:MachD} {c8 c9 c10 kv iv av ov rv bv:Value} {gb db:Nat} {bs:List Nat} (h:MachAt G I w bm f ins m c8 c9 c10 kv iv av ov rv bv gb db bs) (c:CodeD) (hl:m.regs.length≤2097152) (ha:RefIn m c.a) (hd0:0≤c.dst) (hd1:c.dst<m.regs.length) :
  Calls Tryz.prog 161 #[.pointer (some ⟨bm,0,none⟩),codeV c] w fun e w'=>e=.returned (.tuple #[])∧Post G w w' bm f ins (doM f ins c m 0):=by
 obtain⟨ck,co,cd,cn,cra,crb⟩:=c
 obtain⟨d,rfl⟩:∃ d:Nat,cd=d:=⟨cd.toNat,by simp only at hd0;omega⟩
 simp only at ha hd0 hd1
 obtain⟨x,hx⟩:∃ x,m.regs[d]?=some x:=⟨_,lgMMm (by omega)⟩
 have hb:Below w.heap.size w (w.alloc (.cells #[.int .u8 ck,.int .u8 co,.int .i64 d,.int .i64 cn,.int .i64 cra.reg,.int .u64 cra.num,.int .i64 crb.reg,.int .u64 crb.num] 91)):=(Below.refl _ _).alloc (Nat.le_refl _) _
 have hgb:=heap_alloc_new w (.cells #[.int .u8 ck,.int .u8 co,.int .i64 d,.int .i64 cn,.int .i64 cra.reg,.int .u64 cra.num,.int .i64 crb.reg,.int .u64 crb.num] 91)
 have h1:=h.keep hb
 have hlt:bm<w.heap.size:=(gsMMm h.box)
 go_enter Tryz.func161,Tryz.ntmps161
 go_upto_region 1 with fail
 generalize w.alloc (.cells #[.int .u8 ck,.int .u8 co,.int .i64 d,.int .i64 cn,.int .i64 cra.reg,.int .u64 cra.num,.int .i64 crb.reg,.int .u64 crb.num] 91)=W at *
 have HB:=hid hb
 have HG:=hid hgb
 clear h hb hgb
 have l13:=ext_cell (row_of h1.box 13 _ rfl)
 have l2:=ext_cell (row_of HG.out 2 _ rfl)
 have l4:=ext_cell (row_of HG.out 4 _ rfl)
 have l5:=ext_cell (row_of HG.out 5 _ rfl)
 have H1:=hid h1
 have HV:=hid (fun x=>machValue (h1.keep (ext_below W x)) cra ha hl)
 have HX:=hid hx
 clear h1 hx ha
 (refine wp_region_calm_tail 10 (by kernel_rfl) (by kernel_rfl) ?_;simp only[List.take_succ_cons,List.take_zero,List.drop_succ_cons,List.drop_zero];(repeat (go_big_quiet_step ((go_at_call 171;exact calls_calm (HV.out _)))));refine wpQuiet_nil ?_;intro wc hwc)
 have H2:=H1.out.keep hwc
 have cg:=row_of H2.mem.regs d _ (u64s_get _ _ _ HX.out)
 have fg:=frozen_of_row wc gb d _ _ H2.mem.regs
 have HP:=hid (H2.setReg d (valM m cra))
 have hT:Hid (Turn G w (wc.setCell ⟨gb,(d:Int).toNat,none⟩ (.int .u64 (valM m cra)))):=((Turn.of_below HB.out).trans (Turn.of_below hwc)).setCell H2.mem.sep.1 _
 have hi:(d:Int)<(m.regs.length:Int):=hd1
 clear H2 hwc l13 l2 l4 l5
 go_wp2
 go_end0
 exact⟨rfl,post_of HP.out hT.out⟩
theorem Post.under {G:Nat→Prop} {w w1 w2:World} {bm:Nat} {f:FlatD} {ins:List (List Int)} {m:MachD} (hb:Below w.heap.size w w1) (h:Post G w1 w2 bm f ins m):Post G w w2 bm f ins m:=
 ⟨h.1.mono fun b hb'=>hb'.elim .inl fun k=>.inr ⟨Nat.le_trans hb.size k.1,k.2⟩,(Turn.of_below hb).trans h.2⟩
theorem machHalt {G I:Nat→Prop} {w:World} {bm:Nat} {f:FlatD} {ins:List (List Int)} {m:MachD} {c8 c9 c10 kv iv av ov rv bv:Value} {gb db:Nat} {bs:List Nat} (h:MachAt G I w bm f ins m c8 c9 c10 kv iv av ov rv bv gb db bs) (c:CodeD) (hp:0≤m.pc) (hp1:m.pc≤4096) :
  Calls Tryz.prog 170 #[.pointer (some ⟨bm,0,none⟩),codeV c] w fun e w'=>e=.returned (.tuple #[])∧Post G w w' bm f ins (doM f ins c m 9):=by
 have hb:=code_box w c
 have HE:=hid (machEnd (h.keep hb) 0 rfl hp hp1)
 have HB:=hid hb
 clear h hb
 go_enter Tryz.func170,Tryz.ntmps170
 go_wp2_with (go_at_call 175;refine HE.out.mono ?_;rintro e w2 ⟨rfl,hp2⟩)
 go_end0
 exact⟨rfl,hp2.under HB.out⟩
theorem valM_in {m:MachD} {r:RefD} (hr:RefIn m r) (hv:∀ x∈m.regs,InU64 x):InU64 (valM m r):=by
 unfold valM
 split
 ·exact hr.2.1
 ·rename_i h
  have hlt:r.reg.toNat<m.regs.length:=by have:=hr.2.2;omega
  rw[List.getD_eq_getElem?_getD,List.getElem?_eq_getElem hlt]
  exact hv _ (List.getElem_mem hlt)
theorem nums_rd {W:World} {g c:Nat} {l:List Int} {cs:Array Value} (hg:W.heap[g]?=some (.cells cs 58 (0,0))) (hc:l.length≤c) (hz:l.length≤1000) (hl:∀ (i:Nat) (x:Int),l[i]?=some x→cs[i]?=some (Value.int .u64 x)) (hv:∀ x∈l,InU64 x):RdRow kNum none W (.slice (some ⟨g,0,none⟩) l.length c) l:=by
 refine⟨_,c,rfl,⟨by show l.length*8≤_;omega,hc⟩,fun i x hx=>⟨g,0,rfl,Free.none _ _ _,fun j u hj=>?_,hv x (List.mem_of_getElem? hx)⟩⟩
 have:j=0∧u=.int .u64 x:=by
  cases j with
  | zero=>simp[cellsNum] at hj;exact⟨rfl,hj.symm⟩
  | succ j=>simp[cellsNum] at hj
 obtain⟨rfl,rfl⟩:=this
 have:=row_of hg i _ (hl i x hx)
 simpa using this
theorem applyU (o:Int) (n:Nat) (v:Value) (l:List Int) (a b:Int) (w:World) (ho0:2≤o) (ho1:o≤3) (h1:1≤n) (h2:n≤64) (h:RdRow kNum none w v l) (hl:l=[a]) :
  Calls Tryz.prog 172 #[.int .u8 o,.int .i64 n,v] w fun e w'=>e=.returned (.tuple #[.int .u64 (opZ o.toNat n a b),.int .i64 0])∧Below w.heap.size w w':=by
 have:o=2 ∨ o=3:=by omega
 rcases this with rfl|rfl
 ·exact wordApply12 n v l a b w h1 h2 h hl
 ·exact wordApply13 n v l a b w h1 h2 h hl
theorem machApply {G I:Nat→Prop} {w:World} {bm:Nat} {f:FlatD} {ins:List (List Int)} {m:MachD} {c8 c9 c10 kv iv av ov rv bv:Value} {gb db:Nat} {bs:List Nat} (h:MachAt G I w bm f ins m c8 c9 c10 kv iv av ov rv bv gb db bs) (c:CodeD) (hl:m.regs.length≤2097152) (hw1:1≤f.width) (hw2:f.width≤64) (ha:RefIn m c.a) (hb':RefIn m c.b) (hv:∀ x∈m.regs,InU64 x) (ho0:2≤c.op) (ho1:c.op≤20) (hd0:0≤c.dst) (hd1:c.dst<m.regs.length) :
  Calls Tryz.prog 162 #[.pointer (some ⟨bm,0,none⟩),codeV c] w fun e w'=>e=.returned (.tuple #[])∧Post G w w' bm f ins (doM f ins c m 1):=by
 obtain⟨ck,co,cd,cn,cra,crb⟩:=c
 obtain⟨d,rfl⟩:∃ d:Nat,cd=d:=⟨cd.toNat,by simp only at hd0;omega⟩
 obtain⟨n,hn⟩:∃ n:Nat,f.width=n:=⟨f.width.toNat,by omega⟩
 simp only at ha hb' hd0 hd1 ho0 ho1
 obtain⟨x,hx⟩:∃ x,m.regs[d]?=some x:=⟨_,lgMMm (by omega)⟩
 have hn1:1≤n:=by omega
 have hn2:n≤64:=by omega
 have hres:Hid (doM f ins ⟨ck,co,d,cn,cra,crb⟩ m 1=setR m d (opZ co.toNat n (valM m cra) (valM m crb))):=by show setR m d (opZ co.toNat f.width.toNat _ _)=_;rw[hn];rfl
 have hia:=valM_in ha hv
 have hib:=valM_in hb' hv
 have hb:Below w.heap.size w (w.alloc (.cells #[.int .u8 ck,.int .u8 co,.int .i64 d,.int .i64 cn,.int .i64 cra.reg,.int .u64 cra.num,.int .i64 crb.reg,.int .u64 crb.num] 91)):=(Below.refl _ _).alloc (Nat.le_refl _) _
 have hgb:=heap_alloc_new w (.cells #[.int .u8 ck,.int .u8 co,.int .i64 d,.int .i64 cn,.int .i64 cra.reg,.int .u64 cra.num,.int .i64 crb.reg,.int .u64 crb.num] 91)
 have h1:=h.keep hb
 have hlt:bm<w.heap.size:=(gsMMm h.box)
 go_enter Tryz.func162,Tryz.ntmps162
 go_upto_region 1 with fail
 generalize w.alloc (.cells #[.int .u8 ck,.int .u8 co,.int .i64 d,.int .i64 cn,.int .i64 cra.reg,.int .u64 cra.num,.int .i64 crb.reg,.int .u64 crb.num] 91)=W at *
 have HB:=hid hb
 have HG:=hid hgb
 clear h hb hgb
 have l4:=ext_cell (row_of HG.out 4 _ rfl)
 have l5:=ext_cell (row_of HG.out 5 _ rfl)
 have l6:=ext_cell (row_of HG.out 6 _ rfl)
 have l7:=ext_cell (row_of HG.out 7 _ rfl)
 have H1:=hid h1
 have HV:=hid (fun x=>machValue (h1.keep (ext_below W x)) cra ha hl)
 have HV2:=hid (fun x=>machValue (h1.keep (ext_below W x)) crb hb' hl)
 have HX:=hid hx
 have HN:=hid hn
 clear h1 hx ha hb' hn
 generalize valM m cra=va at *
 generalize valM m crb=vb at *
 (refine wp_region_calm_tail 8 (by kernel_rfl) (by kernel_rfl) ?_;simp only[List.take_succ_cons,List.take_zero,List.drop_succ_cons,List.drop_zero];(repeat (go_big_quiet_step ((first|(go_at_call_of 171 (Value.int IntKind.i64 cra.reg);exact calls_calm (HV.out _))|(go_at_call_of 171 (Value.int IntKind.i64 crb.reg);exact calls_calm (HV2.out _))))));refine wpQuiet_nil ?_;intro wc hwc)
 go_upto_region 2 with fail
 have hal:Below wc.heap.size wc (wc.alloc (.cells #[.int .u64 va,.int .u64 vb] 58)):=(Below.refl _ _).alloc (Nat.le_refl _) _
 have hga:=heap_alloc_new wc (.cells #[.int .u64 va,.int .u64 vb] 58)
 have hbW:Below W.heap.size W (wc.alloc (.cells #[.int .u64 va,.int .u64 vb] 58)):=bcomp hwc hal
 have H2:=hid (H1.out.keep hbW)
 have HG2:=hid ((hbW.block _ (gsMMm HG.out)).trans HG.out)
 have HB2:=hid (bcomp HB.out hbW)
 have hs1:w.heap.size<W.heap.size:=(gsMMm HG.out)
 have hs2:=hwc.size
 clear l4 l5 l6 l7 hwc hal hbW HV HV2
 generalize wc.heap.size=sb at *
 generalize wc.alloc (.cells #[.int .u64 va,.int .u64 vb] 58)=W2 at *
 have HGA:=hid hga
 have e1:=row_of HG2.out 1 (.int .u8 co) rfl
 have l13:=keepS_cell (S:=[bm,w.heap.size]) (by simp) (row_of H2.out.box 13 _ rfl)
 have l6:∀ x,(keepS W2 [bm,w.heap.size] x).cell? ⟨bm,6,none⟩=some (.int .i64 n):=keepS_cell (by simp) (by rw[← HN.out];exact row_of H2.out.box 6 _ rfl)
 have j1:=keepS_cell (S:=[bm,w.heap.size]) (by simp) (row_of HG2.out 1 (.int .u8 co) rfl)
 have j2:=keepS_cell (S:=[bm,w.heap.size]) (by simp) (row_of HG2.out 2 (.int .i64 d) rfl)
 have hi:(d:Int)<(m.regs.length:Int):=hd1
 have HNE:Hid (bm≠gb∧w.heap.size≠gb):=⟨row_ne H2.out.box H2.out.mem.regs (by decide),row_ne HG2.out H2.out.mem.regs (by decide)⟩
 clear hga
 have HF:Hid (∀ wf,Below W2.heap.size W2 wf→∃ x,wf.cell? ⟨gb,d,none⟩=some (.int .u64 x)∧wf.frozen? ⟨gb,d,none⟩=false∧MachAt G I (wf.setCell ⟨gb,d,none⟩ (.int .u64 (opZ co.toNat n va vb))) bm f ins (setR m d (opZ co.toNat n va vb)) c8 c9 c10 kv iv av ov rv bv gb db bs∧Turn G w (wf.setCell ⟨gb,d,none⟩ (.int .u64 (opZ co.toNat n va vb)))):=by
  intro wf hwf
  have H3:=H2.out.keep hwf
  exact⟨x,row_of H3.mem.regs d _ (u64s_get _ _ _ HX.out),frozen_of_row wf gb d _ _ H3.mem.regs,H3.setReg d _,((Turn.of_below HB2.out).trans (Turn.of_below hwf)).setCell H3.mem.sep.1 _⟩
 by_cases ho3:co≤3
 ·have HC:=hid (fun w' (hb':Below W2.heap.size W2 w')=>applyU co n (.slice (some ⟨sb,0,none⟩) 1 2) [va] va vb w' ho0 ho3 hn1 hn2 ((nums_rd (l:=[va]) (c:=2) HGA.out (by simp) (by simp) (by intro i x hx;cases i with|zero=>simpa using hx|succ i=>simp at hx) (by intro x hx;rw[List.mem_singleton] at hx;subst hx;exact hia)).keep hb') rfl)
  have q:(co==2)=true ∨ ((co==2)=false∧(co==3)=true):=by
   by_cases h2:co=2
   ·exact .inl (by rw[h2];rfl)
   ·exact .inr ⟨by rw[beq_eq_false_iff_ne];exact h2,by rw[show co=3 by omega];rfl⟩
  generalize opZ co.toNat n va vb=res at *
  rcases q with q|⟨q,q'⟩
  all_goals
   go_upto_region 4 with fail
   refine wp_region_mixS [bm,w.heap.size] (.one [0,1,2,3,4,5,6,7,8,9,10,11,12,13] 14 (.one [15,16,17,18] 19 (.fin []))) (fun _=>false) (by kernel_rfl) (by kernel_rfl) rfl (by kernel_rfl) (fun _ d _ _ _ h=>by cases d <;> exact h) ?_
   refine mix_one (by simp only[opsOf,List.filterMap_cons,List.filterMap_nil,List.getElem?_toArray,List.getElem?_cons_succ,List.getElem?_cons_zero];rfl) ⟨_,keepS_of (fun _ _=>rfl)⟩ ?_
   change wpQuiet _ _ _ _ [_,_,_,_,_,_,_,_,_,_,_,_,_,_] _
   (repeat (go_big_quiet_step (fail)))
   refine wpQuiet_nil ?_
   refine mix_step rfl ?_
   go_wp2_with (go_at_call 172;refine (HC.out _ (Below.refl _ _).drew).mono ?_;rintro e w3 ⟨rfl,hb3⟩)
   have hwc:=bcomp (Below.refl W2.heap.size W2).drew hb3
   have HK:∀ b∈[bm,w.heap.size],w3.heap[b]?=W2.heap[b]?:=by intro b hb;simp only[List.mem_cons,List.not_mem_nil,or_false] at hb;exact hwc.block b (by rcases hb with rfl|rfl;exact (gsMMm H2.out.box);exact (gsMMm HG2.out))
   refine⟨fun _=>⟨_,keepS_of HK⟩,?_⟩
   refine mix_one (by simp only[opsOf,List.filterMap_cons,List.filterMap_nil,List.getElem?_toArray,List.getElem?_cons_succ,List.getElem?_cons_zero];rfl) ⟨_,keepS_of HK⟩ ?_
   change wpQuiet _ _ _ _ [_,_,_,_] _
   (repeat (go_big_quiet_step (fail)))
   refine wpQuiet_nil ?_
   refine mix_step rfl ?_
   obtain⟨y,cg,fg,HP,hT⟩:=HF.out w3 hwc
   have HP:=hid HP
   have hT:=hid hT
   clear l13 l6 j1 j2 hwc
   go_wp2_with fail
   refine⟨⟨_,keepS_of (fun b hb=>(heap_setCell_other _ _ _ _ (by intro e;simp only[List.mem_cons,List.not_mem_nil,or_false] at hb;rcases hb with rfl|rfl;exact HNE.out.1 e;exact HNE.out.2 e)).trans (HK b hb))⟩,?_⟩
   refine mix_end ?_
   go_wp2_with fail
   go_end0
   exact⟨rfl,by rw[hres.out];exact post_of HP.out hT.out⟩
 ·have HC:=hid (fun w' (hb':Below W2.heap.size W2 w')=>wordApply2 co n (.slice (some ⟨sb,0,none⟩) 2 2) [va,vb] va vb w' (by omega) ho1 hn1 hn2 ((nums_rd (l:=[va,vb]) (c:=2) HGA.out (by simp) (by simp) (by intro i x hx;match i,hx with|0,hx=>simpa using hx|1,hx=>simpa using hx|(i+2),hx=>simp at hx) (by intro x hx;simp only[List.mem_cons,List.not_mem_nil,or_false] at hx;rcases hx with rfl|rfl;exact hia;exact hib)).keep hb') rfl)
  have q:(co==2)=false:=by rw[beq_eq_false_iff_ne];omega
  have q':(co==3)=false:=by rw[beq_eq_false_iff_ne];omega
  generalize opZ co.toNat n va vb=res at *
  go_upto_region 4 with fail
  refine wp_region_mixS [bm,w.heap.size] (.one [0,1,2,3,4,5,6,7,8,9,10,11,12,13] 14 (.one [15,16,17,18] 19 (.fin []))) (fun _=>false) (by kernel_rfl) (by kernel_rfl) rfl (by kernel_rfl) (fun _ d _ _ _ h=>by cases d <;> exact h) ?_
  refine mix_one (by simp only[opsOf,List.filterMap_cons,List.filterMap_nil,List.getElem?_toArray,List.getElem?_cons_succ,List.getElem?_cons_zero];rfl) ⟨_,keepS_of (fun _ _=>rfl)⟩ ?_
  change wpQuiet _ _ _ _ [_,_,_,_,_,_,_,_,_,_,_,_,_,_] _
  (repeat (go_big_quiet_step (fail)))
  refine wpQuiet_nil ?_
  refine mix_step rfl ?_
  go_wp2_with (go_at_call 172;refine (HC.out _ (Below.refl _ _).drew).mono ?_;rintro e w3 ⟨rfl,hb3⟩)
  have hwc:=bcomp (Below.refl W2.heap.size W2).drew hb3
  have HK:∀ b∈[bm,w.heap.size],w3.heap[b]?=W2.heap[b]?:=by intro b hb;simp only[List.mem_cons,List.not_mem_nil,or_false] at hb;exact hwc.block b (by rcases hb with rfl|rfl;exact (gsMMm H2.out.box);exact (gsMMm HG2.out))
  refine⟨fun _=>⟨_,keepS_of HK⟩,?_⟩
  refine mix_one (by simp only[opsOf,List.filterMap_cons,List.filterMap_nil,List.getElem?_toArray,List.getElem?_cons_succ,List.getElem?_cons_zero];rfl) ⟨_,keepS_of HK⟩ ?_
  change wpQuiet _ _ _ _ [_,_,_,_] _
  (repeat (go_big_quiet_step (fail)))
  refine wpQuiet_nil ?_
  refine mix_step rfl ?_
  obtain⟨y,cg,fg,HP,hT⟩:=HF.out w3 hwc
  have HP:=hid HP
  have hT:=hid hT
  clear l13 l6 j1 j2 hwc
  go_wp2_with fail
  refine⟨⟨_,keepS_of (fun b hb=>(heap_setCell_other _ _ _ _ (by intro e;simp only[List.mem_cons,List.not_mem_nil,or_false] at hb;rcases hb with rfl|rfl;exact HNE.out.1 e;exact HNE.out.2 e)).trans (HK b hb))⟩,?_⟩
  refine mix_end ?_
  go_wp2_with fail
  go_end0
  exact⟨rfl,by rw[hres.out];exact post_of HP.out hT.out⟩
theorem Mem.av_is {G I:Nat→Prop} {w:World} {f:FlatD} {ins:List (List Int)} {m:MachD} {kv iv av ov rv bv:Value} {gb db:Nat} {bs:List Nat} (h:Mem G I w f ins m kv iv av ov rv bv gb db bs):∃ a c,av=.slice a m.arrs.length c:=by
 obtain⟨a,c,e⟩:=h.arrs.is
 exact⟨a,c,by rw[e,List.length_zip,List.length_map,h.blen,Nat.min_self]⟩
theorem Mem.arr_at {G I:Nat→Prop} {w:World} {f:FlatD} {ins:List (List Int)} {m:MachD} {kv iv ov rv bv:Value} {a:Option Addr} {c:Nat} {gb db:Nat} {bs:List Nat} (h:Mem G I w f ins m kv iv (.slice a m.arrs.length c) ov rv bv gb db bs) {n:Nat} {l:List Int} (hl:m.arrs[n]?=some l) :
  ∃ ob oo b,a=some ⟨ob,oo,none⟩∧bs[n]?=some b∧w.cell? ⟨ob,oo+n,none⟩=some (.slice (some ⟨b,0,none⟩) l.length l.length)∧w.heap[b]?=some (.cells (u64s l) 58 (0,0)):=by
 have hn:n<bs.length:=by rw[h.blen];exact (List.getElem?_eq_some_iff.1 hl).1
 obtain⟨b,hb⟩:∃ b,bs[n]?=some b:=⟨_,lgMMm hn⟩
 obtain⟨ob,oo,e,_,hc,_⟩:=RdRow.at h.arrs (i:=n) (x:=(b,l.length)) (by rw[List.getElem?_zip_eq_some];exact⟨hb,by rw[List.getElem?_map,hl];rfl⟩)
 have:=hc 0 _ rfl
 rw[Nat.mul_one,Nat.add_zero] at this
 exact⟨ob,oo,b,e,hb,this,h.rows n b l hb hl⟩
def ElemSaid (G:Nat→Prop) (w w':World) (bm:Nat) (f:FlatD) (ins:List (List Int)) (m:MachD) (c:CodeD) (bs:List Nat) (e:Ending):Prop:=
 (∃ x b,elemM m c=some x∧bs[c.n.toNat]?=some b∧e=.returned (.pointer (some ⟨b,(valM m c.a).toNat,none⟩))∧Below w.heap.size w w') ∨
  (elemM m c=none∧e=.returned (.pointer none)∧Post G w w' bm f ins (endM m 1))
theorem machElement {G I:Nat→Prop} {w:World} {bm:Nat} {f:FlatD} {ins:List (List Int)} {m:MachD} {c8 c9 c10 kv iv av ov rv bv:Value} {gb db:Nat} {bs:List Nat} (h:MachAt G I w bm f ins m c8 c9 c10 kv iv av ov rv bv gb db bs) (c:CodeD) (hl:m.regs.length≤2097152) (ha:RefIn m c.a) (hv:∀ x∈m.regs,InU64 x) (hp:0≤m.pc) (hp1:m.pc≤4096) (hn0:0≤c.n) (hn1:c.n<m.arrs.length) (hla:∀ l∈m.arrs,l.length≤64) :
  Calls Tryz.prog 173 #[.pointer (some ⟨bm,0,none⟩),codeV c] w fun e w'=>ElemSaid G w w' bm f ins m c bs e:=by
 obtain⟨ck,co,cd,cn,cra,crb⟩:=c
 obtain⟨n,rfl⟩:∃ n:Nat,cn=n:=⟨cn.toNat,by simp only at hn0;omega⟩
 simp only at ha hn0 hn1
 obtain⟨l,hll⟩:∃ l,m.arrs[n]?=some l:=⟨_,lgMMm (by omega)⟩
 have hlen:=hla l (List.mem_of_getElem? hll)
 obtain⟨aa,ac,rfl⟩:=h.mem.av_is
 have hia:=valM_in ha hv
 obtain⟨va,hva⟩:∃ va:Nat,valM m cra=va:=⟨(valM m cra).toNat,by have:=hia.1;omega⟩
 have hel:elemM m ⟨ck,co,cd,n,cra,crb⟩=l[va]?:=by show ((m.arrs[(n:Int).toNat]?).bind fun l=>l[(valM m cra).toNat]?)=_;rw[Int.toNat_natCast,hll,hva];rfl
 have hb:Below w.heap.size w (w.alloc (.cells #[.int .u8 ck,.int .u8 co,.int .i64 cd,.int .i64 n,.int .i64 cra.reg,.int .u64 cra.num,.int .i64 crb.reg,.int .u64 crb.num] 91)):=(Below.refl _ _).alloc (Nat.le_refl _) _
 have hgb:=heap_alloc_new w (.cells #[.int .u8 ck,.int .u8 co,.int .i64 cd,.int .i64 n,.int .i64 cra.reg,.int .u64 cra.num,.int .i64 crb.reg,.int .u64 crb.num] 91)
 have h1:=h.keep hb
 have hlt:bm<w.heap.size:=(gsMMm h.box)
 have hu:(va:Int)<18446744073709551616:=by have:=hia.2;omega
 go_enter Tryz.func173,Tryz.ntmps173
 go_upto_region 1 with fail
 generalize w.alloc (.cells #[.int .u8 ck,.int .u8 co,.int .i64 cd,.int .i64 n,.int .i64 cra.reg,.int .u64 cra.num,.int .i64 crb.reg,.int .u64 crb.num] 91)=W at *
 have HB:=hid hb
 have HG:=hid hgb
 have k4:=row_of hgb 4 (.int .i64 cra.reg) rfl
 have k5:=row_of hgb 5 (.int .u64 cra.num) rfl
 have HV:=hid (machValue h1 cra ha hl)
 rw[hva] at HV
 have H1:=hid h1
 have HVA:=hid hva
 clear h hb hgb h1 ha hva hia
 go_upto_region 2 with (go_at_call 171;refine HV.out.mono ?_;rintro e w2 ⟨rfl,hb2⟩)
 have H2:=hid (H1.out.keep hb2)
 have HG2:=hid ((hb2.block _ (gsMMm HG.out)).trans HG.out)
 have HB2:=hid (bcomp HB.out hb2)
 obtain⟨ob,oo,b,rfl,hbn,cA,hrow⟩:=H2.out.mem.arr_at hll
 have l14:=row_of H2.out.box 14 _ rfl
 have k3:=row_of HG2.out 3 (.int .i64 n) rfl
 have hi:(n:Int)<(m.arrs.length:Int):=hn1
 have HBN:=hid hbn
 have HEL:=hid hel
 have HLL:=hid hll
 clear hb2 k4 k5 hbn hel hll hrow
 by_cases hge:(l.length:Int)≤(va:Int)
 ·have HN:Hid (elemM m ⟨ck,co,cd,n,cra,crb⟩=none):=by show _=_;rw[HEL.out,List.getElem?_eq_none (by omega)]
  have HE:=hid (fun q=>machEnd (H2.out.keep (below_drewN (Below.refl w2.heap.size w2) q)) 1 rfl hp hp1)
  go_quiet (fail)
  go_wp2_with (go_at_call 175;refine (HE.out _).mono ?_;rintro e w3 ⟨rfl,hp3⟩)
  go_ret
  exact .inr ⟨HN.out,rfl,hp3.under (below_drewN HB2.out _)⟩
 ·have hlt2:(va:Int)<(l.length:Int):=by omega
  obtain⟨x,hx⟩:∃ x,l[va]?=some x:=⟨_,lgMMm (by omega)⟩
  have HN:Hid (elemM m ⟨ck,co,cd,n,cra,crb⟩=some x):=by show _=_;rw[HEL.out,hx]
  clear hx
  go_quiet (fail)
  go_upto_region 5 with fail
  go_quiet (fail)
  go_wp2
  go_ret
  exact .inl ⟨x,b,HN.out,HBN.out,by rw[HVA.out];rfl,below_drewN HB2.out _⟩
theorem machLoad {G I:Nat→Prop} {w:World} {bm:Nat} {f:FlatD} {ins:List (List Int)} {m:MachD} {c8 c9 c10 kv iv av ov rv bv:Value} {gb db:Nat} {bs:List Nat} (h:MachAt G I w bm f ins m c8 c9 c10 kv iv av ov rv bv gb db bs) (c:CodeD) (hl:m.regs.length≤2097152) (ha:RefIn m c.a) (hv:∀ x∈m.regs,InU64 x) (hp:0≤m.pc) (hp1:m.pc≤4096) (hn0:0≤c.n) (hn1:c.n<m.arrs.length) (hla:∀ l∈m.arrs,l.length≤64) (hd0:0≤c.dst) (hd1:c.dst<m.regs.length) :
  Calls Tryz.prog 163 #[.pointer (some ⟨bm,0,none⟩),codeV c] w fun e w'=>e=.returned (.tuple #[])∧Post G w w' bm f ins (doM f ins c m 2):=by
 obtain⟨ck,co,cd,cn,cra,crb⟩:=c
 obtain⟨d,rfl⟩:∃ d:Nat,cd=d:=⟨cd.toNat,by simp only at hd0;omega⟩
 simp only at hd0 hd1
 obtain⟨y,hy⟩:∃ y,m.regs[d]?=some y:=⟨_,lgMMm (by omega)⟩
 have hb:Below w.heap.size w (w.alloc (.cells #[.int .u8 ck,.int .u8 co,.int .i64 d,.int .i64 cn,.int .i64 cra.reg,.int .u64 cra.num,.int .i64 crb.reg,.int .u64 crb.num] 91)):=(Below.refl _ _).alloc (Nat.le_refl _) _
 have hgb:=heap_alloc_new w (.cells #[.int .u8 ck,.int .u8 co,.int .i64 d,.int .i64 cn,.int .i64 cra.reg,.int .u64 cra.num,.int .i64 crb.reg,.int .u64 crb.num] 91)
 have h1:=h.keep hb
 have hlt:bm<w.heap.size:=(gsMMm h.box)
 have HE:=hid (machElement h1 ⟨ck,co,d,cn,cra,crb⟩ hl ha hv hp hp1 hn0 hn1 hla)
 have hia:=valM_in ha hv
 have hres:Hid (doM f ins ⟨ck,co,d,cn,cra,crb⟩ m 2=match elemM m ⟨ck,co,d,cn,cra,crb⟩ with|some x=>setR m d x|none=>endM m 1):=rfl
 go_enter Tryz.func163,Tryz.ntmps163
 go_upto_region 1 with fail
 generalize w.alloc (.cells #[.int .u8 ck,.int .u8 co,.int .i64 d,.int .i64 cn,.int .i64 cra.reg,.int .u64 cra.num,.int .i64 crb.reg,.int .u64 crb.num] 91)=W at *
 have HB:=hid hb
 have HG:=hid hgb
 have k0:=row_of hgb 0 (.int .u8 ck) rfl
 have k1:=row_of hgb 1 (.int .u8 co) rfl
 have k2:=row_of hgb 2 (.int .i64 d) rfl
 have k3:=row_of hgb 3 (.int .i64 cn) rfl
 have k4:=row_of hgb 4 (.int .i64 cra.reg) rfl
 have k5:=row_of hgb 5 (.int .u64 cra.num) rfl
 have k6:=row_of hgb 6 (.int .i64 crb.reg) rfl
 have k7:=row_of hgb 7 (.int .u64 crb.num) rfl
 have H1:=hid h1
 have HX:=hid hy
 clear h hb hgb h1 ha hy
 go_upto_region 2 with (go_at_call 173;refine HE.out.mono ?_;intro e w2 hsaid;rcases hsaid with ⟨x,b,hx,hbb,rfl,hb2⟩|⟨hx,rfl,hp2⟩)
 ·have H2:=hid (H1.out.keep hb2)
  have HG2:=hid ((hb2.block _ (gsMMm HG.out)).trans HG.out)
  have HB2:=hid (bcomp HB.out hb2)
  have hres2:Hid (doM f ins ⟨ck,co,d,cn,cra,crb⟩ m 2=setR m d x):=by show _=_;rw[hres.out,hx]
  have hxl:Hid (∃ l,m.arrs[cn.toNat]?=some l∧l[(valM m cra).toNat]?=some x):=by
   show ∃ l,_
   have:((m.arrs[cn.toNat]?).bind fun l=>l[(valM m cra).toNat]?)=some x:=hx
   cases hl2:m.arrs[cn.toNat]? with
   | none=>rw[hl2] at this;cases this
   | some l=>rw[hl2] at this;exact⟨l,rfl,this⟩
  obtain⟨l,hl2,hl3⟩:=hxl.out
  have hrow:=H2.out.mem.rows _ b l hbb hl2
  have cE:=ext_cell (row_of hrow _ _ (u64s_get _ _ _ hl3))
  have l13:=ext_cell (row_of H2.out.box 13 _ rfl)
  have k2:=ext_cell (row_of HG2.out 2 (.int .i64 d) rfl)
  have hi:(d:Int)<(m.regs.length:Int):=hd1
  clear hb2 hx hbb hl2 hl3 hrow hxl k0 k1 k3 k4 k5 k6 k7
  go_upto_region 3 with fail
  (refine wp_region_calm_tail 9 (by kernel_rfl) (by kernel_rfl) ?_;simp only[List.take_succ_cons,List.take_zero,List.drop_succ_cons,List.drop_zero];(repeat (go_big_quiet_step (fail)));refine wpQuiet_nil ?_;intro wc hwc)
  have H3:=H2.out.keep hwc
  have cg:=row_of H3.mem.regs d _ (u64s_get _ _ _ HX.out)
  have fg:=frozen_of_row wc gb d _ _ H3.mem.regs
  have HP:=hid (H3.setReg d x)
  have hT:Hid (Turn G w (wc.setCell ⟨gb,(d:Int).toNat,none⟩ (.int .u64 x))):=((Turn.of_below HB2.out).trans (Turn.of_below hwc)).setCell H3.mem.sep.1 _
  clear H3 hwc cE l13 k2
  go_wp2
  go_end0
  exact⟨rfl,by rw[hres2.out];exact post_of HP.out hT.out⟩
 ·have hres2:Hid (doM f ins ⟨ck,co,d,cn,cra,crb⟩ m 2=endM m 1):=by show _=_;rw[hres.out,hx]
  clear hx
  go_wp2
  go_end0
  exact⟨rfl,by rw[hres2.out];exact hp2.under HB.out⟩
theorem MachAt.setArr {G I:Nat→Prop} {w:World} {bm:Nat} {f:FlatD} {ins:List (List Int)} {m:MachD} {c8 c9 c10 kv iv av ov rv bv:Value} {gb db:Nat} {bs:List Nat} (h:MachAt G I w bm f ins m c8 c9 c10 kv iv av ov rv bv gb db bs) (n i:Nat) (v:Int) {x:Nat} (hx:bs[n]?=some x):MachAt G I (w.setCell ⟨x,i,none⟩ (.int .u64 v)) bm f ins (putA m n i v) c8 c9 c10 kv iv av ov rv bv gb db bs:=by
 obtain⟨_,l0,_,_,hr0⟩:=zip_rows h.mem (List.mem_of_getElem? hx)
 exact⟨h.mem.setArr n i v hx,by rw[heap_setCell_other _ _ _ _ (by simpa using row_ne h.box hr0 (by decide)),h.box];rfl,h.bG⟩
theorem MachAt.setRead {G I:Nat→Prop} {w:World} {bm:Nat} {f:FlatD} {ins:List (List Int)} {m:MachD} {c8 c9 c10 kv iv av ov rv bv:Value} {gb db:Nat} {bs:List Nat} (h:MachAt G I w bm f ins m c8 c9 c10 kv iv av ov rv bv gb db bs) (d:Nat) (v:Int):MachAt G I (w.setCell ⟨db,d,none⟩ (.int .i64 v)) bm f ins { m with t:={ m.t with reads:=m.t.reads.set d v } } c8 c9 c10 kv iv av ov rv bv gb db bs:=
 ⟨h.mem.setRead d v,by rw[heap_setCell_other _ _ _ _ (by simpa using row_ne h.box h.mem.reads (by decide)),h.box];simp[cellsP],h.bG⟩
theorem machStore {G I:Nat→Prop} {w:World} {bm:Nat} {f:FlatD} {ins:List (List Int)} {m:MachD} {c8 c9 c10 kv iv av ov rv bv:Value} {gb db:Nat} {bs:List Nat} (h:MachAt G I w bm f ins m c8 c9 c10 kv iv av ov rv bv gb db bs) (c:CodeD) (hl:m.regs.length≤2097152) (ha:RefIn m c.a) (hb':RefIn m c.b) (hv:∀ x∈m.regs,InU64 x) (hp:0≤m.pc) (hp1:m.pc≤4096) (hn0:0≤c.n) (hn1:c.n<m.arrs.length) (hla:∀ l∈m.arrs,l.length≤64) :
  Calls Tryz.prog 164 #[.pointer (some ⟨bm,0,none⟩),codeV c] w fun e w'=>e=.returned (.tuple #[])∧Post G w w' bm f ins (doM f ins c m 3):=by
 obtain⟨ck,co,cd,cn,cra,crb⟩:=c
 have hb:Below w.heap.size w (w.alloc (.cells #[.int .u8 ck,.int .u8 co,.int .i64 cd,.int .i64 cn,.int .i64 cra.reg,.int .u64 cra.num,.int .i64 crb.reg,.int .u64 crb.num] 91)):=(Below.refl _ _).alloc (Nat.le_refl _) _
 have hgb:=heap_alloc_new w (.cells #[.int .u8 ck,.int .u8 co,.int .i64 cd,.int .i64 cn,.int .i64 cra.reg,.int .u64 cra.num,.int .i64 crb.reg,.int .u64 crb.num] 91)
 have h1:=h.keep hb
 have hlt:bm<w.heap.size:=(gsMMm h.box)
 have HE:=hid (machElement h1 ⟨ck,co,cd,cn,cra,crb⟩ hl ha hv hp hp1 hn0 hn1 hla)
 have hres:Hid (doM f ins ⟨ck,co,cd,cn,cra,crb⟩ m 3=match elemM m ⟨ck,co,cd,cn,cra,crb⟩ with|some _=>putA m cn.toNat (valM m cra).toNat (valM m crb)|none=>endM m 1):=rfl
 go_enter Tryz.func164,Tryz.ntmps164
 go_upto_region 1 with fail
 generalize w.alloc (.cells #[.int .u8 ck,.int .u8 co,.int .i64 cd,.int .i64 cn,.int .i64 cra.reg,.int .u64 cra.num,.int .i64 crb.reg,.int .u64 crb.num] 91)=W at *
 have HB:=hid hb
 have HG:=hid hgb
 have k0:=row_of hgb 0 (.int .u8 ck) rfl
 have k1:=row_of hgb 1 (.int .u8 co) rfl
 have k2:=row_of hgb 2 (.int .i64 cd) rfl
 have k3:=row_of hgb 3 (.int .i64 cn) rfl
 have k4:=row_of hgb 4 (.int .i64 cra.reg) rfl
 have k5:=row_of hgb 5 (.int .u64 cra.num) rfl
 have k6:=row_of hgb 6 (.int .i64 crb.reg) rfl
 have k7:=row_of hgb 7 (.int .u64 crb.num) rfl
 have H1:=hid h1
 have HBR:=hid hb'
 clear h hb hgb h1 ha hb'
 go_upto_region 2 with (go_at_call 173;refine HE.out.mono ?_;intro e w2 hsaid;rcases hsaid with ⟨x,b,hx,hbb,rfl,hb2⟩|⟨hx,rfl,hp2⟩)
 ·have H2:=hid (H1.out.keep hb2)
  have HG2:=hid ((hb2.block _ (gsMMm HG.out)).trans HG.out)
  have HB2:=hid (bcomp HB.out hb2)
  have hres2:Hid (doM f ins ⟨ck,co,cd,cn,cra,crb⟩ m 3=putA m cn.toNat (valM m cra).toNat (valM m crb)):=by show _=_;rw[hres.out,hx]
  have hxl:Hid (∃ l,m.arrs[cn.toNat]?=some l∧l[(valM m cra).toNat]?=some x):=by
   show ∃ l,_
   have:((m.arrs[cn.toNat]?).bind fun l=>l[(valM m cra).toNat]?)=some x:=hx
   cases hl2:m.arrs[cn.toNat]? with
   | none=>rw[hl2] at this;cases this
   | some l=>rw[hl2] at this;exact⟨l,rfl,this⟩
  have HBB:=hid hbb
  have k6:=row_of HG2.out 6 (.int .i64 crb.reg) rfl
  have k7:=row_of HG2.out 7 (.int .u64 crb.num) rfl
  have HV:=hid (machValue H2.out crb HBR.out hl)
  clear hb2 hx hbb k0 k1 k2 k3 k4 k5
  go_wp2_with (go_at_call 171;refine HV.out.mono ?_;rintro e w3 ⟨rfl,hb3⟩;have H3:=hid (H2.out.keep hb3);obtain⟨l,hl2,hl3⟩:=hxl.out;have hrow:=H3.out.mem.rows _ b l HBB.out hl2;have cg:=row_of hrow _ _ (u64s_get _ _ _ hl3);have fg:=frozen_of_row w3 b (valM m cra).toNat _ _ hrow;have HP:=hid (H3.out.setArr cn.toNat (valM m cra).toNat (valM m crb) HBB.out);have hT:Hid (Turn G w (w3.setCell ⟨b,(valM m cra).toNat,none⟩ (.int .u64 (valM m crb)))):=((Turn.of_below HB2.out).trans (Turn.of_below hb3)).setCell (H3.out.mem.sep.2.2.2.2 b (List.mem_of_getElem? HBB.out)).1 _;clear hrow hl2 hl3 hb3)
  go_end0
  exact⟨rfl,by rw[hres2.out];exact post_of HP.out hT.out⟩
 ·have hres2:Hid (doM f ins ⟨ck,co,cd,cn,cra,crb⟩ m 3=endM m 1):=by show _=_;rw[hres.out,hx]
  clear hx
  go_wp2
  go_end0
  exact⟨rfl,by rw[hres2.out];exact hp2.under HB.out⟩
theorem Mem.setOuts {G I:Nat→Prop} {w w':World} {f:FlatD} {ins:List (List Int)} {m:MachD} {kv iv av ov rv bv ov':Value} {gb db:Nat} {bs:List Nat} (h:Mem G I w f ins m kv iv av ov rv bv gb db bs) (x:EvD)
  (how:w'.ownsRow 0 163 2 ov' (m.t.outs.length+1) (m.t.outs.flatMap cellsEv++cellsEv x)) (hg:w.grownBy w' ov.ownBlock) (hn:ov'.ownBlock=ov.ownBlock ∨ ov'.ownBlock=some w.heap.size) :
  Mem (Grow G w w') (fun b=>I b∧b<w.heap.size) w' f ins { m with t:={ m.t with outs:=m.t.outs++[x] } } kv iv av ov' rv bv gb db bs:=by
 have k:∀ b,b<w.heap.size→ov.ownBlock≠some b→w'.heap[b]?=w.heap[b]?:=fun b hb hne=>hg.block b hb (fun e=>hne e.symm)
 have nI:∀ b,I b→ov.ownBlock≠some b:=fun b hb e=>(h.osep.1 b e).2.1 hb
 have nT:∀ b cs T,w.heap[b]?=some (.cells cs T (0,0))→T≠163→ov.ownBlock≠some b:=fun b cs T hb hT e=>by obtain⟨cs',hr⟩:=own_row h.outs e;exact row_ne hb hr hT rfl
 have lt:∀ b cs T,w.heap[b]?=some (.cells cs T (0,0))→b<w.heap.size:=fun b cs T hb=>(gsMMm hb)
 exact {
  iG:=fun b hb=>.inl (h.iG b hb.1)
  code:=h.code.same (fun b hb hl=>k b hl (nI b hb)) (fun _ hb x=>⟨x,hb⟩)
  ins:=h.ins.same (fun b hb hl=>k b hl (nI b hb)) (fun _ hb x=>⟨x,hb⟩)
  regs:=(k gb (lt _ _ _ h.regs) (nT _ _ _ h.regs (by decide))).trans h.regs
  reads:=(k db (lt _ _ _ h.reads) (nT _ _ _ h.reads (by decide))).trans h.reads
  arrs:=h.arrs.same (fun b hb hl=>k b hl (nI b hb)) (fun _ hb x=>⟨x,hb⟩)
  rows:=fun i b l hb hl=>(k b (lt _ _ _ (h.rows i b l hb hl)) (nT _ _ _ (h.rows i b l hb hl) (by decide))).trans (h.rows i b l hb hl)
  blen:=h.blen
  nodup:=h.nodup
  sep:=⟨.inl h.sep.1,fun e=>h.sep.2.1 e.1,.inl h.sep.2.2.1,fun e=>h.sep.2.2.2.1 e.1,fun b hb=>⟨.inl (h.sep.2.2.2.2 b hb).1,fun e=>(h.sep.2.2.2.2 b hb).2 e.1⟩⟩
  outs:=by show w'.ownsRow 0 _ 2 ov' (m.t.outs++[x]).length ((m.t.outs++[x]).flatMap cellsEv);rw[List.length_append,List.flatMap_append,List.flatMap_singleton];exact how
  rels:=own_same h.rels fun b hb=>k b (own_lt h.rels b hb) (fun e=>(h.osep.1 b e).2.2 hb)
  brs:=own_same h.brs fun b hb=>k b (own_lt h.brs b hb) (by obtain⟨cs,hr⟩:=own_row h.brs hb;exact nT _ _ _ hr (by decide))
  osep:=by
   refine⟨fun b hb=>?_,fun b hb=>⟨.inl (h.osep.2.1 b hb).1,fun e=>(h.osep.2.1 b hb).2 e.1⟩,fun b hb=>⟨.inl (h.osep.2.2 b hb).1,fun e=>(h.osep.2.2 b hb).2 e.1⟩⟩
   rcases hn with hn|hn
   ·rw[hn] at hb
    exact⟨.inl (h.osep.1 b hb).1,fun e=>(h.osep.1 b hb).2.1 e.1,(h.osep.1 b hb).2.2⟩
   ·rw[hn] at hb
    simp only[Option.some.injEq] at hb
    subst hb
    exact⟨.inr ⟨Nat.le_refl _,own_lt how _ hn⟩,fun hi=>Nat.lt_irrefl _ hi.2,fun e=>Nat.lt_irrefl _ (own_lt h.rels _ e)⟩ }
theorem Mem.setRels {G I:Nat→Prop} {w w':World} {f:FlatD} {ins:List (List Int)} {m:MachD} {kv iv av ov rv bv rv':Value} {gb db:Nat} {bs:List Nat} (h:Mem G I w f ins m kv iv av ov rv bv gb db bs) (x:EvD)
  (how:w'.ownsRow 0 163 2 rv' (m.t.rels.length+1) (m.t.rels.flatMap cellsEv++cellsEv x)) (hg:w.grownBy w' rv.ownBlock) (hn:rv'.ownBlock=rv.ownBlock ∨ rv'.ownBlock=some w.heap.size) :
  Mem (Grow G w w') (fun b=>I b∧b<w.heap.size) w' f ins { m with t:={ m.t with rels:=m.t.rels++[x] } } kv iv av ov rv' bv gb db bs:=by
 have k:∀ b,b<w.heap.size→rv.ownBlock≠some b→w'.heap[b]?=w.heap[b]?:=fun b hb hne=>hg.block b hb (fun e=>hne e.symm)
 have nI:∀ b,I b→rv.ownBlock≠some b:=fun b hb e=>(h.osep.2.1 b e).2 hb
 have nT:∀ b cs T,w.heap[b]?=some (.cells cs T (0,0))→T≠163→rv.ownBlock≠some b:=fun b cs T hb hT e=>by obtain⟨cs',hr⟩:=own_row h.rels e;exact row_ne hb hr hT rfl
 have lt:∀ b cs T,w.heap[b]?=some (.cells cs T (0,0))→b<w.heap.size:=fun b cs T hb=>(gsMMm hb)
 exact {
  iG:=fun b hb=>.inl (h.iG b hb.1)
  code:=h.code.same (fun b hb hl=>k b hl (nI b hb)) (fun _ hb x=>⟨x,hb⟩)
  ins:=h.ins.same (fun b hb hl=>k b hl (nI b hb)) (fun _ hb x=>⟨x,hb⟩)
  regs:=(k gb (lt _ _ _ h.regs) (nT _ _ _ h.regs (by decide))).trans h.regs
  reads:=(k db (lt _ _ _ h.reads) (nT _ _ _ h.reads (by decide))).trans h.reads
  arrs:=h.arrs.same (fun b hb hl=>k b hl (nI b hb)) (fun _ hb x=>⟨x,hb⟩)
  rows:=fun i b l hb hl=>(k b (lt _ _ _ (h.rows i b l hb hl)) (nT _ _ _ (h.rows i b l hb hl) (by decide))).trans (h.rows i b l hb hl)
  blen:=h.blen
  nodup:=h.nodup
  sep:=⟨.inl h.sep.1,fun e=>h.sep.2.1 e.1,.inl h.sep.2.2.1,fun e=>h.sep.2.2.2.1 e.1,fun b hb=>⟨.inl (h.sep.2.2.2.2 b hb).1,fun e=>(h.sep.2.2.2.2 b hb).2 e.1⟩⟩
  outs:=own_same h.outs fun b hb=>k b (own_lt h.outs b hb) (fun e=>(h.osep.1 b hb).2.2 e)
  rels:=by show w'.ownsRow 0 _ 2 rv' (m.t.rels++[x]).length ((m.t.rels++[x]).flatMap cellsEv);rw[List.length_append,List.flatMap_append,List.flatMap_singleton];exact how
  brs:=own_same h.brs fun b hb=>k b (own_lt h.brs b hb) (by obtain⟨cs,hr⟩:=own_row h.brs hb;exact nT _ _ _ hr (by decide))
  osep:=by
   refine⟨fun b hb=>⟨.inl (h.osep.1 b hb).1,fun e=>(h.osep.1 b hb).2.1 e.1,?_⟩,fun b hb=>?_,fun b hb=>⟨.inl (h.osep.2.2 b hb).1,fun e=>(h.osep.2.2 b hb).2 e.1⟩⟩
   ·rcases hn with hn|hn
    ·rw[hn];exact (h.osep.1 b hb).2.2
    ·rw[hn];intro e;simp only[Option.some.injEq] at e;subst e;exact Nat.lt_irrefl _ (own_lt h.outs _ hb)
   ·rcases hn with hn|hn
    ·rw[hn] at hb
     exact⟨.inl (h.osep.2.1 b hb).1,fun e=>(h.osep.2.1 b hb).2 e.1⟩
    ·rw[hn] at hb
     simp only[Option.some.injEq] at hb
     subst hb
     exact⟨.inr ⟨Nat.le_refl _,own_lt how _ hn⟩,fun hi=>Nat.lt_irrefl _ hi.2⟩ }
theorem Mem.setBrs {G I:Nat→Prop} {w w':World} {f:FlatD} {ins:List (List Int)} {m:MachD} {kv iv av ov rv bv bv':Value} {gb db:Nat} {bs:List Nat} (h:Mem G I w f ins m kv iv av ov rv bv gb db bs) (x:Bool)
  (how:w'.ownsRow 0 4 1 bv' (m.t.brs.length+1) (m.t.brs.flatMap cellsBool++cellsBool x)) (hg:w.grownBy w' bv.ownBlock) (hn:bv'.ownBlock=bv.ownBlock ∨ bv'.ownBlock=some w.heap.size) :
  Mem (Grow G w w') (fun b=>I b∧b<w.heap.size) w' f ins { m with t:={ m.t with brs:=m.t.brs++[x] } } kv iv av ov rv bv' gb db bs:=by
 have k:∀ b,b<w.heap.size→bv.ownBlock≠some b→w'.heap[b]?=w.heap[b]?:=fun b hb hne=>hg.block b hb (fun e=>hne e.symm)
 have nI:∀ b,I b→bv.ownBlock≠some b:=fun b hb e=>(h.osep.2.2 b e).2 hb
 have nT:∀ b cs T,w.heap[b]?=some (.cells cs T (0,0))→T≠4→bv.ownBlock≠some b:=fun b cs T hb hT e=>by obtain⟨cs',hr⟩:=own_row h.brs e;exact row_ne hb hr hT rfl
 have lt:∀ b cs T,w.heap[b]?=some (.cells cs T (0,0))→b<w.heap.size:=fun b cs T hb=>(gsMMm hb)
 exact {
  iG:=fun b hb=>.inl (h.iG b hb.1)
  code:=h.code.same (fun b hb hl=>k b hl (nI b hb)) (fun _ hb x=>⟨x,hb⟩)
  ins:=h.ins.same (fun b hb hl=>k b hl (nI b hb)) (fun _ hb x=>⟨x,hb⟩)
  regs:=(k gb (lt _ _ _ h.regs) (nT _ _ _ h.regs (by decide))).trans h.regs
  reads:=(k db (lt _ _ _ h.reads) (nT _ _ _ h.reads (by decide))).trans h.reads
  arrs:=h.arrs.same (fun b hb hl=>k b hl (nI b hb)) (fun _ hb x=>⟨x,hb⟩)
  rows:=fun i b l hb hl=>(k b (lt _ _ _ (h.rows i b l hb hl)) (nT _ _ _ (h.rows i b l hb hl) (by decide))).trans (h.rows i b l hb hl)
  blen:=h.blen
  nodup:=h.nodup
  sep:=⟨.inl h.sep.1,fun e=>h.sep.2.1 e.1,.inl h.sep.2.2.1,fun e=>h.sep.2.2.2.1 e.1,fun b hb=>⟨.inl (h.sep.2.2.2.2 b hb).1,fun e=>(h.sep.2.2.2.2 b hb).2 e.1⟩⟩
  outs:=own_same h.outs fun b hb=>k b (own_lt h.outs b hb) (by obtain⟨cs,hr⟩:=own_row h.outs hb;exact nT _ _ _ hr (by decide))
  rels:=own_same h.rels fun b hb=>k b (own_lt h.rels b hb) (by obtain⟨cs,hr⟩:=own_row h.rels hb;exact nT _ _ _ hr (by decide))
  brs:=by show w'.ownsRow 0 _ 1 bv' (m.t.brs++[x]).length ((m.t.brs++[x]).flatMap cellsBool);rw[List.length_append,List.flatMap_append,List.flatMap_singleton];exact how
  osep:=by
   refine⟨fun b hb=>⟨.inl (h.osep.1 b hb).1,fun e=>(h.osep.1 b hb).2.1 e.1,(h.osep.1 b hb).2.2⟩,fun b hb=>⟨.inl (h.osep.2.1 b hb).1,fun e=>(h.osep.2.1 b hb).2 e.1⟩,fun b hb=>?_⟩
   rcases hn with hn|hn
   ·rw[hn] at hb
    exact⟨.inl (h.osep.2.2 b hb).1,fun e=>(h.osep.2.2 b hb).2 e.1⟩
   ·rw[hn] at hb
    simp only[Option.some.injEq] at hb
    subst hb
    exact⟨.inr ⟨Nat.le_refl _,own_lt how _ hn⟩,fun hi=>Nat.lt_irrefl _ hi.2⟩ }
theorem Turn.grown {B:Nat→Prop} {w w1 w':World} {row:Option Nat} (h:Turn B w w1) (g:w1.grownBy w' row) (hr:∀ b,row=some b→B b):Turn B w w':=
 h.trans ⟨g.os,g.tape,g.output,g.size,fun b hb hB=>g.block b hb (fun e=>hB (hr b e.symm))⟩
theorem post_in {G G':Nat→Prop} {w w':World} {bm:Nat} {f:FlatD} {ins:List (List Int)} {m:MachD} (h:MachIn G' w' bm f ins m) (k:∀ b,G' b→Grow G w w' b) (t:Turn G w w'):Post G w w' bm f ins m:=⟨h.mono k,t⟩
theorem MachAt.isIn {G I:Nat→Prop} {w:World} {bm:Nat} {f:FlatD} {ins:List (List Int)} {m:MachD} {c8 c9 c10 kv iv av ov rv bv:Value} {gb db:Nat} {bs:List Nat} (h:MachAt G I w bm f ins m c8 c9 c10 kv iv av ov rv bv gb db bs):MachIn G w bm f ins m:=⟨I,c8,c9,c10,kv,iv,av,ov,rv,bv,gb,db,bs,h⟩
theorem MachAt.setBrs {G I:Nat→Prop} {w w':World} {bm:Nat} {f:FlatD} {ins:List (List Int)} {m:MachD} {c8 c9 c10 kv iv av ov rv bv bv':Value} {gb db:Nat} {bs:List Nat} (h:MachAt G I w bm f ins m c8 c9 c10 kv iv av ov rv bv gb db bs) (x:Bool)
  (how:w'.ownsRow 0 4 1 bv' (m.t.brs.length+1) (m.t.brs.flatMap cellsBool++cellsBool x)) (hg:w.grownBy w' bv.ownBlock) (hn:bv'.ownBlock=bv.ownBlock ∨ bv'.ownBlock=some w.heap.size) :
  MachAt (Grow G w w') (fun b=>I b∧b<w.heap.size) (w'.setCell ⟨bm,4,none⟩ bv') bm f ins { m with t:={ m.t with brs:=m.t.brs++[x] } } c8 c9 c10 kv iv av ov rv bv' gb db bs:=by
 have hne:bv.ownBlock≠some bm:=fun e=>by obtain⟨cs,hr⟩:=own_row h.mem.brs e;exact row_ne h.box hr (by decide) rfl
 have hbox:w'.heap[bm]?=some (.cells (cellsP f m c8 c9 c10 kv iv av ov rv bv gb db) 183 (0,0)):=(hg.block bm (gsMMm h.box) (fun e=>hne e.symm)).trans h.box
 have hm:=h.mem.setBrs x how hg hn
 exact⟨hm.apart (hm.notIn hbox (fun e=>h.bG.2 e.1) (by decide)) (fun b _ hb=>heap_setCell_other _ _ _ _ (by simpa using hb)),by rw[heap_setCell_same _ _ _ _ _ _ hbox];rfl,.inl h.bG.1,fun e=>h.bG.2 e.1⟩
theorem MachAt.setOuts {G I:Nat→Prop} {w w':World} {bm:Nat} {f:FlatD} {ins:List (List Int)} {m:MachD} {c8 c9 c10 kv iv av ov rv bv ov':Value} {gb db:Nat} {bs:List Nat} (h:MachAt G I w bm f ins m c8 c9 c10 kv iv av ov rv bv gb db bs) (x:EvD)
  (how:w'.ownsRow 0 163 2 ov' (m.t.outs.length+1) (m.t.outs.flatMap cellsEv++cellsEv x)) (hg:w.grownBy w' ov.ownBlock) (hn:ov'.ownBlock=ov.ownBlock ∨ ov'.ownBlock=some w.heap.size) :
  MachAt (Grow G w w') (fun b=>I b∧b<w.heap.size) (w'.setCell ⟨bm,2,none⟩ ov') bm f ins { m with t:={ m.t with outs:=m.t.outs++[x] } } c8 c9 c10 kv iv av ov' rv bv gb db bs:=by
 have hne:ov.ownBlock≠some bm:=fun e=>by obtain⟨cs,hr⟩:=own_row h.mem.outs e;exact row_ne h.box hr (by decide) rfl
 have hbox:w'.heap[bm]?=some (.cells (cellsP f m c8 c9 c10 kv iv av ov rv bv gb db) 183 (0,0)):=(hg.block bm (gsMMm h.box) (fun e=>hne e.symm)).trans h.box
 have hm:=h.mem.setOuts x how hg hn
 exact⟨hm.apart (hm.notIn hbox (fun e=>h.bG.2 e.1) (by decide)) (fun b _ hb=>heap_setCell_other _ _ _ _ (by simpa using hb)),by rw[heap_setCell_same _ _ _ _ _ _ hbox];rfl,.inl h.bG.1,fun e=>h.bG.2 e.1⟩
theorem MachAt.setRels {G I:Nat→Prop} {w w':World} {bm:Nat} {f:FlatD} {ins:List (List Int)} {m:MachD} {c8 c9 c10 kv iv av ov rv bv rv':Value} {gb db:Nat} {bs:List Nat} (h:MachAt G I w bm f ins m c8 c9 c10 kv iv av ov rv bv gb db bs) (x:EvD)
  (how:w'.ownsRow 0 163 2 rv' (m.t.rels.length+1) (m.t.rels.flatMap cellsEv++cellsEv x)) (hg:w.grownBy w' rv.ownBlock) (hn:rv'.ownBlock=rv.ownBlock ∨ rv'.ownBlock=some w.heap.size) :
  MachAt (Grow G w w') (fun b=>I b∧b<w.heap.size) (w'.setCell ⟨bm,3,none⟩ rv') bm f ins { m with t:={ m.t with rels:=m.t.rels++[x] } } c8 c9 c10 kv iv av ov rv' bv gb db bs:=by
 have hne:rv.ownBlock≠some bm:=fun e=>by obtain⟨cs,hr⟩:=own_row h.mem.rels e;exact row_ne h.box hr (by decide) rfl
 have hbox:w'.heap[bm]?=some (.cells (cellsP f m c8 c9 c10 kv iv av ov rv bv gb db) 183 (0,0)):=(hg.block bm (gsMMm h.box) (fun e=>hne e.symm)).trans h.box
 have hm:=h.mem.setRels x how hg hn
 exact⟨hm.apart (hm.notIn hbox (fun e=>h.bG.2 e.1) (by decide)) (fun b _ hb=>heap_setCell_other _ _ _ _ (by simpa using hb)),by rw[heap_setCell_same _ _ _ _ _ _ hbox];rfl,.inl h.bG.1,fun e=>h.bG.2 e.1⟩
theorem machBranch {G I:Nat→Prop} {w:World} {bm:Nat} {f:FlatD} {ins:List (List Int)} {m:MachD} {c8 c9 c10 kv iv av ov rv bv:Value} {gb db:Nat} {bs:List Nat} (h:MachAt G I w bm f ins m c8 c9 c10 kv iv av ov rv bv gb db bs) (c:CodeD) (hl:m.regs.length≤2097152) (ha:RefIn m c.a) (hN:m.t.brs.length≤1000000000) :
  Calls Tryz.prog 169 #[.pointer (some ⟨bm,0,none⟩),codeV c] w fun e w'=>e=.returned (.tuple #[])∧Post G w w' bm f ins (doM f ins c m 8):=by
 obtain⟨ck,co,cd,cn,cra,crb⟩:=c
 obtain⟨i0,hi,hz0,hz1,hz2⟩:=info_parts infoBool
 have hb:Below w.heap.size w (w.alloc (.cells #[.int .u8 ck,.int .u8 co,.int .i64 cd,.int .i64 cn,.int .i64 cra.reg,.int .u64 cra.num,.int .i64 crb.reg,.int .u64 crb.num] 91)):=(Below.refl _ _).alloc (Nat.le_refl _) _
 have hgb:=heap_alloc_new w (.cells #[.int .u8 ck,.int .u8 co,.int .i64 cd,.int .i64 cn,.int .i64 cra.reg,.int .u64 cra.num,.int .i64 crb.reg,.int .u64 crb.num] 91)
 have h1:=h.keep hb
 have hlt:bm<w.heap.size:=(gsMMm h.box)
 have hres:Hid (doM f ins ⟨ck,co,cd,cn,cra,crb⟩ m 8={ m with pc:=if valM m cra=0 then m.pc else cn,t:={ m.t with brs:=m.t.brs++[valM m cra != 0] } }):=rfl
 go_enter Tryz.func169,Tryz.ntmps169
 go_upto_region 1 with fail
 generalize w.alloc (.cells #[.int .u8 ck,.int .u8 co,.int .i64 cd,.int .i64 cn,.int .i64 cra.reg,.int .u64 cra.num,.int .i64 crb.reg,.int .u64 crb.num] 91)=W at *
 have HB:=hid hb
 have HG:=hid hgb
 have k3:=row_of hgb 3 (.int .i64 cn) rfl
 have k4:=row_of hgb 4 (.int .i64 cra.reg) rfl
 have k5:=row_of hgb 5 (.int .u64 cra.num) rfl
 have H1:=hid h1
 have HV:=hid (machValue h1 cra ha hl)
 clear h hb hgb h1 ha
 cases hz:(valM m cra != 0)
 ·generalize hva:valM m cra=va at *
  go_upto_region 2 with (go_at_call 171;refine HV.out.mono ?_;rintro e w2 ⟨rfl,hb2⟩)
  have H2:=hid (H1.out.keep hb2)
  have HB2:=hid (bcomp HB.out hb2)
  have k3:=cell_keep hb2 k3
  have l4:=row_of H2.out.box 4 _ rfl
  have hs2:bm<w2.heap.size:=(gsMMm H2.out.box)
  have hsw:w.heap.size<w2.heap.size:=block_lt_of_cell k3
  have HG2:=hid ((hb2.block _ (gsMMm HG.out)).trans HG.out)
  have HZ:=hid hz
  have HVA:=hid hva
  clear hz hva hb2 k4 k5
  have hal:Below w2.heap.size w2 (w2.alloc (.cells #[.bool (va != 0)] 4)):=(Below.refl _ _).alloc (Nat.le_refl _) _
  have H3:=hid (H2.out.keep hal)
  have HAL:=hid (bcomp HB2.out hal)
  have HG3:=hid ((hal.block _ (gsMMm HG2.out)).trans HG2.out)
  have hown:=H3.out.mem.brs
  have hm1:m.t.brs.length+1≤maxLen:=by unfold maxLen;omega
  have hsz:w2.heap.size<(w2.alloc (.cells #[.bool (va != 0)] 4)).heap.size:=by simp
  have HNB:Hid (bv.ownBlock≠some bm∧bv.ownBlock≠some w.heap.size):=⟨fun e=>by obtain⟨cs,hr⟩:=own_row H3.out.mem.brs e;exact row_ne H3.out.box hr (by decide) rfl,fun e=>by obtain⟨cs,hr⟩:=own_row H3.out.mem.brs e;exact row_ne HG3.out hr (by decide) rfl⟩
  have hnews:=many_new w2 (cellsBool (va != 0)) 4
  rw[HZ.out] at hal H3 HAL HG3 hown hsz hnews
  clear hal
  go_upto_region 3 with (at_builtin;refine wpList_append_own_at _ rfl (.tmp 16) (.tmp 18) 50 rfl 0 4 i0 (.bool false) 1 1 Tryz.underlying50 hi hz0 hz1 hz2 rfl (by decide) _ _ _ rfl hown ⟨w2.heap.size,0,none⟩ 1 1 (cellsBool _) rfl rfl hnews (by intro u hu;simp[cellsBool] at hu;subst hu;rfl) hm1 (by omega) (Nat.zero_le _) ?_;intro v' w4 hown' hgrow _ hblk;have hbx4:=(hgrow.block bm (by omega) (fun e=>HNB.out.1 e.symm)).trans H3.out.box;have c4:=row_of hbx4 4 _ rfl;have f4:=frozen_of_row w4 bm 4 _ _ hbx4;have HG4:=hid ((hgrow.block _ (by omega) (fun e=>HNB.out.2 e.symm)).trans HG3.out);have HH:=hid (And.intro hown' (And.intro hgrow hblk));obtain⟨xa,xc,rfl,_⟩:=own_read hown';clear hown' hgrow hblk hbx4)
  have M4:=hid (H3.out.setBrs _ HH.out.1 HH.out.2.1 HH.out.2.2)
  have T4:=hid ((((Turn.of_below (B:=G) HAL.out).grown HH.out.2.1 (fun b hb=>(H3.out.mem.osep.2.2 b hb).1)).setCell (a:=⟨bm,4,none⟩) H3.out.bG.1 (.slice xa (m.t.brs.length+1) xc)))
  have GR:Hid (∀ b,Grow G (w2.alloc (.cells #[.bool false] 4)) w4 b→Grow G w (w4.setCell ⟨bm,4,none⟩ (.slice xa (m.t.brs.length+1) xc)) b):=fun b hb=>hb.elim .inl fun k=>.inr ⟨Nat.le_trans HAL.out.size k.1,by simpa using k.2⟩
  have hres2:Hid (doM f ins ⟨ck,co,cd,cn,cra,crb⟩ m 8={ m with t:={ m.t with brs:=m.t.brs++[false] } }):=by show _=_;rw[hres.out,HZ.out,if_pos (by simpa using HZ.out)]
  clear HH c4 f4 hown
  go_wp2
  go_end0
  exact⟨rfl,by rw[hres2.out];exact post_in M4.out.isIn GR.out T4.out⟩
 ·generalize hva:valM m cra=va at *
  go_upto_region 2 with (go_at_call 171;refine HV.out.mono ?_;rintro e w2 ⟨rfl,hb2⟩)
  have H2:=hid (H1.out.keep hb2)
  have HB2:=hid (bcomp HB.out hb2)
  have k3:=cell_keep hb2 k3
  have l4:=row_of H2.out.box 4 _ rfl
  have hs2:bm<w2.heap.size:=(gsMMm H2.out.box)
  have hsw:w.heap.size<w2.heap.size:=block_lt_of_cell k3
  have HG2:=hid ((hb2.block _ (gsMMm HG.out)).trans HG.out)
  have HZ:=hid hz
  have HVA:=hid hva
  clear hz hva hb2 k4 k5
  have hal:Below w2.heap.size w2 (w2.alloc (.cells #[.bool (va != 0)] 4)):=(Below.refl _ _).alloc (Nat.le_refl _) _
  have H3:=hid (H2.out.keep hal)
  have HAL:=hid (bcomp HB2.out hal)
  have HG3:=hid ((hal.block _ (gsMMm HG2.out)).trans HG2.out)
  have hown:=H3.out.mem.brs
  have hm1:m.t.brs.length+1≤maxLen:=by unfold maxLen;omega
  have hsz:w2.heap.size<(w2.alloc (.cells #[.bool (va != 0)] 4)).heap.size:=by simp
  have HNB:Hid (bv.ownBlock≠some bm∧bv.ownBlock≠some w.heap.size):=⟨fun e=>by obtain⟨cs,hr⟩:=own_row H3.out.mem.brs e;exact row_ne H3.out.box hr (by decide) rfl,fun e=>by obtain⟨cs,hr⟩:=own_row H3.out.mem.brs e;exact row_ne HG3.out hr (by decide) rfl⟩
  have hnews:=many_new w2 (cellsBool (va != 0)) 4
  rw[HZ.out] at hal H3 HAL HG3 hown hsz hnews
  clear hal
  go_upto_region 3 with (at_builtin;refine wpList_append_own_at _ rfl (.tmp 16) (.tmp 18) 50 rfl 0 4 i0 (.bool false) 1 1 Tryz.underlying50 hi hz0 hz1 hz2 rfl (by decide) _ _ _ rfl hown ⟨w2.heap.size,0,none⟩ 1 1 (cellsBool _) rfl rfl hnews (by intro u hu;simp[cellsBool] at hu;subst hu;rfl) hm1 (by omega) (Nat.zero_le _) ?_;intro v' w4 hown' hgrow _ hblk;have hbx4:=(hgrow.block bm (by omega) (fun e=>HNB.out.1 e.symm)).trans H3.out.box;have c4:=row_of hbx4 4 _ rfl;have f4:=frozen_of_row w4 bm 4 _ _ hbx4;have HG4:=hid ((hgrow.block _ (by omega) (fun e=>HNB.out.2 e.symm)).trans HG3.out);have HH:=hid (And.intro hown' (And.intro hgrow hblk));obtain⟨xa,xc,rfl,_⟩:=own_read hown';clear hown' hgrow hblk hbx4)
  have M4:=hid (H3.out.setBrs _ HH.out.1 HH.out.2.1 HH.out.2.2)
  have T4:=hid ((((Turn.of_below (B:=G) HAL.out).grown HH.out.2.1 (fun b hb=>(H3.out.mem.osep.2.2 b hb).1)).setCell (a:=⟨bm,4,none⟩) H3.out.bG.1 (.slice xa (m.t.brs.length+1) xc)))
  have GR:Hid (∀ b,Grow G (w2.alloc (.cells #[.bool true] 4)) w4 b→Grow G w (w4.setCell ⟨bm,4,none⟩ (.slice xa (m.t.brs.length+1) xc)) b):=fun b hb=>hb.elim .inl fun k=>.inr ⟨Nat.le_trans HAL.out.size k.1,by simpa using k.2⟩
  have hres2:Hid (doM f ins ⟨ck,co,cd,cn,cra,crb⟩ m 8={ m with pc:=cn,t:={ m.t with brs:=m.t.brs++[true] } }):=by show _=_;rw[hres.out,HZ.out,if_neg (by simpa using HZ.out)]
  have c15:=row_of M4.out.box 15 _ rfl
  have f15:=frozen_of_row _ bm 15 _ _ M4.out.box
  have k3:=(cell_setCell_other w4 bm 4 (.slice xa (m.t.brs.length+1) xc) w.heap.size 3 (by omega)).trans (row_of HG4.out 3 (.int .i64 cn) rfl)
  have M5:=hid (M4.out.setPc cn)
  have T5:=hid (T4.out.setCell (a:=⟨bm,15,none⟩) H3.out.bG.1 (.int .i64 cn))
  clear HH c4 f4 hown
  generalize w4.setCell ⟨bm,4,none⟩ (.slice xa (m.t.brs.length+1) xc)=w5 at *
  go_wp2
  go_end0
  exact⟨rfl,by rw[hres2.out];exact post_in M5.out.isIn (fun b hb=>(GR.out b hb).elim .inl fun k=>.inr ⟨k.1,by simpa using k.2⟩) T5.out⟩
theorem two_keep {W w':World} {a b:Nat} (ha:w'.heap[a]?=W.heap[a]?) (hb:w'.heap[b]?=W.heap[b]?):∀ x∈[a,b],w'.heap[x]?=W.heap[x]?:=by
 intro x hx;simp only[List.mem_cons,List.not_mem_nil,or_false] at hx;rcases hx with rfl|rfl;exact ha;exact hb
theorem machWrite {G I:Nat→Prop} {w:World} {bm:Nat} {f:FlatD} {ins:List (List Int)} {m:MachD} {c8 c9 c10 kv iv av ov rv bv:Value} {gb db:Nat} {bs:List Nat} (h:MachAt G I w bm f ins m c8 c9 c10 kv iv av ov rv bv gb db bs) (c:CodeD) (hl:m.regs.length≤2097152) (ha:RefIn m c.a) (hN:m.t.outs.length≤1000000000) :
  Calls Tryz.prog 166 #[.pointer (some ⟨bm,0,none⟩),codeV c] w fun e w'=>e=.returned (.tuple #[])∧Post G w w' bm f ins (doM f ins c m 5):=by
 obtain⟨ck,co,cd,cn,cra,crb⟩:=c
 obtain⟨i0,hi,hz0,hz1,hz2⟩:=info_parts infoEv
 have hb:Below w.heap.size w (w.alloc (.cells #[.int .u8 ck,.int .u8 co,.int .i64 cd,.int .i64 cn,.int .i64 cra.reg,.int .u64 cra.num,.int .i64 crb.reg,.int .u64 crb.num] 91)):=(Below.refl _ _).alloc (Nat.le_refl _) _
 have hgb:=heap_alloc_new w (.cells #[.int .u8 ck,.int .u8 co,.int .i64 cd,.int .i64 cn,.int .i64 cra.reg,.int .u64 cra.num,.int .i64 crb.reg,.int .u64 crb.num] 91)
 have h1:=h.keep hb
 have hlt:bm<w.heap.size:=(gsMMm h.box)
 have hres:Hid (doM f ins ⟨ck,co,cd,cn,cra,crb⟩ m 5={ m with t:={ m.t with outs:=m.t.outs++[⟨cn,valM m cra⟩] } }):=rfl
 go_enter Tryz.func166,Tryz.ntmps166
 go_upto_region 1 with fail
 generalize w.alloc (.cells #[.int .u8 ck,.int .u8 co,.int .i64 cd,.int .i64 cn,.int .i64 cra.reg,.int .u64 cra.num,.int .i64 crb.reg,.int .u64 crb.num] 91)=W at *
 have HB:=hid hb
 have HG:=hid hgb
 have l2:=keepS_cell (S:=[bm,w.heap.size]) (by simp) (row_of h1.box 2 _ rfl)
 have k3:=keepS_cell (S:=[bm,w.heap.size]) (by simp) (row_of HG.out 3 (.int .i64 cn) rfl)
 have k4:=keepS_cell (S:=[bm,w.heap.size]) (by simp) (row_of HG.out 4 (.int .i64 cra.reg) rfl)
 have k5:=keepS_cell (S:=[bm,w.heap.size]) (by simp) (row_of HG.out 5 (.int .u64 cra.num) rfl)
 have H1:=hid h1
 have HV:=hid (machValue (h1.keep (Below.refl _ _).drew) cra ha hl)
 generalize hva:valM m cra=va at *
 clear h hb hgb h1 ha hva
 refine wp_region_mixS [bm,w.heap.size] (.one [0,1,2,3,4,5,6,7,8,9,10,11] 12 (.one [13] 14 (.one [] 15 (tailOf [16,17,18,19,20])))) (fun j=>decide (16≤j)) (by kernel_rfl) (by kernel_rfl) rfl (by kernel_rfl) (fun _ d _ _ _ h=>by cases d <;> exact h) ?_
 refine mix_one (by simp only[opsOf,List.filterMap_cons,List.filterMap_nil,List.getElem?_toArray,List.getElem?_cons_succ,List.getElem?_cons_zero];rfl) ⟨_,keepS_of (fun _ _=>rfl)⟩ ?_
 change wpQuiet _ _ _ _ [_,_,_,_,_,_,_,_,_,_,_,_] _
 (repeat (go_big_quiet_step (fail)))
 refine wpQuiet_nil ?_
 refine mix_step rfl ?_
 go_wp2_with (go_at_call 171;refine HV.out.mono ?_;rintro e w2 ⟨rfl,hb2⟩)
 have hbW:=bcomp (Below.refl W.heap.size W).drew hb2
 have H2:=hid (H1.out.keep hbW)
 have HG2:=hid ((hbW.block _ (gsMMm HG.out)).trans HG.out)
 have HB2:=hid (bcomp HB.out hbW)
 have HK2:=hid (two_keep (hbW.block _ (gsMMm H1.out.box)) (hbW.block _ (gsMMm HG.out)))
 clear hb2 hbW
 refine⟨fun _=>⟨_,keepS_of HK2.out⟩,?_⟩
 refine mix_one (by simp only[opsOf,List.filterMap_cons,List.filterMap_nil,List.getElem?_toArray,List.getElem?_cons_succ,List.getElem?_cons_zero];rfl) ⟨_,keepS_of HK2.out⟩ ?_
 change wpQuiet _ _ _ _ [_] _
 (repeat (go_big_quiet_step (fail)))
 refine wpQuiet_nil ?_
 refine mix_step rfl ?_
 have hal:Below w2.heap.size w2 (w2.alloc (.cells #[.int .i64 cn,.int .u64 va] 163)):=(Below.refl _ _).alloc (Nat.le_refl _) _
 have H3:=hid (H2.out.keep hal)
 have HAL:=hid (bcomp HB2.out hal)
 have HG3:=hid ((hal.block _ (gsMMm HG2.out)).trans HG2.out)
 have hown:=H3.out.mem.outs
 have hm1:m.t.outs.length+1≤maxLen:=by unfold maxLen;omega
 have hsz:w2.heap.size<(w2.alloc (.cells #[.int .i64 cn,.int .u64 va] 163)).heap.size:=by simp
 have hs2:bm<w2.heap.size:=(gsMMm H2.out.box)
 have hsw:w.heap.size<w2.heap.size:=(gsMMm HG2.out)
 have HNB:Hid (ov.ownBlock≠some bm∧ov.ownBlock≠some w.heap.size):=⟨fun e=>by obtain⟨cs,hr⟩:=own_row H3.out.mem.outs e;exact row_ne H3.out.box hr (by decide) rfl,fun e=>by obtain⟨cs,hr⟩:=own_row H3.out.mem.outs e;exact row_ne HG3.out hr (by decide) rfl⟩
 have hnews:=many_new w2 (cellsEv ⟨cn,va⟩) 163
 have HK3:=hid (two_keep (hal.block bm hs2) (hal.block w.heap.size hsw))
 clear hal
 go_wp2_with fail
 refine⟨fun _=>⟨_,keepS_of (fun b hb=>(HK3.out b hb).trans (HK2.out b hb))⟩,?_⟩
 refine mix_now ?_
 refine mix_step rfl ?_
 have h1c:∀ u∈cellsEv ⟨cn,va⟩,u.oneCell'=true:=by intro u hu;simp[cellsEv] at hu;rcases hu with rfl|rfl <;> rfl
 try (simp only[Act.put,List.setIfInBounds_toArray,List.set_cons_succ,List.set_cons_zero,List.getElem_toArray,List.getElem_cons_succ,List.getElem_cons_zero])
 refine wpList_append_own_at _ rfl (.tmp 10) (.tmp 18) 49 rfl 0 163 i0 (.agg #[.int .i64 0,.int .u64 0]) 2 16 Tryz.underlying49 hi hz0 hz1 hz2 rfl (by decide) _ _ _ rfl hown ⟨w2.heap.size,0,none⟩ 1 1 (cellsEv ⟨cn,va⟩) rfl rfl hnews h1c hm1 (by omega) (Nat.zero_le _) ?_
 intro v' w4 hown' hgrow _ hblk
 have hbx4:=(hgrow.block bm (by omega) (fun e=>HNB.out.1 e.symm)).trans H3.out.box
 have hcx4:=(hgrow.block w.heap.size (by omega) (fun e=>HNB.out.2 e.symm)).trans HG3.out
 have HH:=hid (And.intro hown' (And.intro hgrow hblk))
 obtain⟨xa,xc,rfl,_⟩:=own_read hown'
 clear hown' hgrow hblk
 try (simp only[Act.put,List.setIfInBounds_toArray,List.set_cons_succ,List.set_cons_zero,List.getElem_toArray,List.getElem_cons_succ,List.getElem_cons_zero])
 go_wp2_with fail
 refine⟨fun _=>⟨_,keepS_of (two_keep (hbx4.trans H1.out.box.symm) (hcx4.trans HG.out.symm))⟩,?_⟩
 have c2:=row_of hbx4 2 _ rfl
 have f2:=frozen_of_row w4 bm 2 _ _ hbx4
 have M4:=hid (H3.out.setOuts _ HH.out.1 HH.out.2.1 HH.out.2.2)
 have T4:=hid ((((Turn.of_below (B:=G) HAL.out).grown HH.out.2.1 (fun b hb=>(H3.out.mem.osep.1 b hb).1)).setCell (a:=⟨bm,2,none⟩) H3.out.bG.1 (.slice xa (m.t.outs.length+1) xc)))
 have GR:Hid (∀ b,Grow G (w2.alloc (.cells #[.int .i64 cn,.int .u64 va] 163)) w4 b→Grow G w (w4.setCell ⟨bm,2,none⟩ (.slice xa (m.t.outs.length+1) xc)) b):=fun b hb=>hb.elim .inl fun k=>.inr ⟨Nat.le_trans HAL.out.size k.1,by simpa using k.2⟩
 clear HH hown hbx4 hcx4 l2 k3 k4 k5
 refine mix_tail [16,17,18,19,20] [_,_,_,_,_] _ _ rfl rfl ?_
 simp only[Act.put,List.setIfInBounds_toArray,List.set_cons_succ,List.set_cons_zero,List.getElem_toArray,List.getElem_cons_succ,List.getElem_cons_zero]
 go_wp2_with fail
 go_end0
 exact⟨rfl,by rw[hres.out];exact post_in M4.out.isIn GR.out T4.out⟩
theorem machRelease {G I:Nat→Prop} {w:World} {bm:Nat} {f:FlatD} {ins:List (List Int)} {m:MachD} {c8 c9 c10 kv iv av ov rv bv:Value} {gb db:Nat} {bs:List Nat} (h:MachAt G I w bm f ins m c8 c9 c10 kv iv av ov rv bv gb db bs) (c:CodeD) (hl:m.regs.length≤2097152) (ha:RefIn m c.a) (hN:m.t.rels.length≤1000000000) (hd0:0≤c.dst) (hd1:c.dst<m.regs.length) :
  Calls Tryz.prog 167 #[.pointer (some ⟨bm,0,none⟩),codeV c] w fun e w'=>e=.returned (.tuple #[])∧Post G w w' bm f ins (doM f ins c m 6):=by
 obtain⟨ck,co,cd,cn,cra,crb⟩:=c
 obtain⟨d,rfl⟩:∃ d:Nat,cd=d:=⟨cd.toNat,by simp only at hd0;omega⟩
 simp only at ha hd0 hd1
 obtain⟨y,hy⟩:∃ y,m.regs[d]?=some y:=⟨_,lgMMm (by omega)⟩
 obtain⟨i0,hi,hz0,hz1,hz2⟩:=info_parts infoEv
 have hb:Below w.heap.size w (w.alloc (.cells #[.int .u8 ck,.int .u8 co,.int .i64 d,.int .i64 cn,.int .i64 cra.reg,.int .u64 cra.num,.int .i64 crb.reg,.int .u64 crb.num] 91)):=(Below.refl _ _).alloc (Nat.le_refl _) _
 have hgb:=heap_alloc_new w (.cells #[.int .u8 ck,.int .u8 co,.int .i64 d,.int .i64 cn,.int .i64 cra.reg,.int .u64 cra.num,.int .i64 crb.reg,.int .u64 crb.num] 91)
 have h1:=h.keep hb
 have hlt:bm<w.heap.size:=(gsMMm h.box)
 have hres:Hid (doM f ins ⟨ck,co,d,cn,cra,crb⟩ m 6=setR { m with t:={ m.t with rels:=m.t.rels++[⟨cn,valM m cra⟩] } } d (valM m cra)):=rfl
 go_enter Tryz.func167,Tryz.ntmps167
 go_upto_region 1 with fail
 generalize w.alloc (.cells #[.int .u8 ck,.int .u8 co,.int .i64 d,.int .i64 cn,.int .i64 cra.reg,.int .u64 cra.num,.int .i64 crb.reg,.int .u64 crb.num] 91)=W at *
 have HB:=hid hb
 have HG:=hid hgb
 have k4:=row_of hgb 4 (.int .i64 cra.reg) rfl
 have k5:=row_of hgb 5 (.int .u64 cra.num) rfl
 have H1:=hid h1
 have HV:=hid (machValue h1 cra ha hl)
 have HY:=hid hy
 generalize hva:valM m cra=va at *
 clear h hb hgb h1 ha hva hy
 go_upto_region 2 with (go_at_call 171;refine HV.out.mono ?_;rintro e w2 ⟨rfl,hb2⟩)
 have H2:=hid (H1.out.keep hb2)
 have HG2:=hid ((hb2.block _ (gsMMm HG.out)).trans HG.out)
 have HB2:=hid (bcomp HB.out hb2)
 clear k4 k5 hb2
 have l3:=keepS_cell (S:=[bm,w.heap.size]) (by simp) (row_of H2.out.box 3 _ rfl)
 have k3:=keepS_cell (S:=[bm,w.heap.size]) (by simp) (row_of HG2.out 3 (.int .i64 cn) rfl)
 refine wp_region_mixS [bm,w.heap.size] (.one [0,1,2,3,4,5,6,7,8,9,10] 11 (.one [] 12 (tailOf [13,14,15,16,17]))) (fun j=>decide (13≤j)) (by kernel_rfl) (by kernel_rfl) rfl (by kernel_rfl) (fun _ d _ _ _ h=>by cases d <;> exact h) ?_
 have H2:=hid (H2.out.keep (Below.refl _ _).drew)
 have HG2:Hid (w2.drew.heap[w.heap.size]?=_):=HG2.out
 have HB2:=hid (bcomp HB2.out (Below.refl _ _).drew)
 have HK0:Hid (∀ x:Nat,w2.drew.heap[x]?=w2.heap[x]?):=fun _=>rfl
 generalize w2.drew=w3 at *
 refine mix_one (by simp only[opsOf,List.filterMap_cons,List.filterMap_nil,List.getElem?_toArray,List.getElem?_cons_succ,List.getElem?_cons_zero];rfl) ⟨_,keepS_of (fun x _=>HK0.out x)⟩ ?_
 change wpQuiet _ _ _ _ [_,_,_,_,_,_,_,_,_,_,_] _
 (repeat (go_big_quiet_step (fail)))
 refine wpQuiet_nil ?_
 refine mix_step rfl ?_
 have hal:Below w3.heap.size w3 (w3.alloc (.cells #[.int .i64 cn,.int .u64 va] 163)):=(Below.refl _ _).alloc (Nat.le_refl _) _
 have H3:=hid (H2.out.keep hal)
 have HAL:=hid (bcomp HB2.out hal)
 have HG3:=hid ((hal.block _ (gsMMm HG2.out)).trans HG2.out)
 have hown:=H3.out.mem.rels
 have hm1:m.t.rels.length+1≤maxLen:=by unfold maxLen;omega
 have hsz:w3.heap.size<(w3.alloc (.cells #[.int .i64 cn,.int .u64 va] 163)).heap.size:=by simp
 have hs2:bm<w3.heap.size:=(gsMMm H2.out.box)
 have hsw:w.heap.size<w3.heap.size:=(gsMMm HG2.out)
 have HNB:Hid (rv.ownBlock≠some bm∧rv.ownBlock≠some w.heap.size):=⟨fun e=>by obtain⟨cs,hr⟩:=own_row H3.out.mem.rels e;exact row_ne H3.out.box hr (by decide) rfl,fun e=>by obtain⟨cs,hr⟩:=own_row H3.out.mem.rels e;exact row_ne HG3.out hr (by decide) rfl⟩
 have hnews:=many_new w3 (cellsEv ⟨cn,va⟩) 163
 have HK3:=hid (two_keep (hal.block bm hs2) (hal.block w.heap.size hsw))
 clear hal
 go_wp2_with fail
 refine⟨fun _=>⟨_,keepS_of (fun b hb=>(HK3.out b hb).trans (HK0.out b))⟩,?_⟩
 refine mix_now ?_
 refine mix_step rfl ?_
 have h1c:∀ u∈cellsEv ⟨cn,va⟩,u.oneCell'=true:=by intro u hu;simp[cellsEv] at hu;rcases hu with rfl|rfl <;> rfl
 try (simp only[Act.put,List.setIfInBounds_toArray,List.set_cons_succ,List.set_cons_zero,List.getElem_toArray,List.getElem_cons_succ,List.getElem_cons_zero])
 refine wpList_append_own_at _ rfl (.tmp 15) (.tmp 20) 49 rfl 0 163 i0 (.agg #[.int .i64 0,.int .u64 0]) 2 16 Tryz.underlying49 hi hz0 hz1 hz2 rfl (by decide) _ _ _ rfl hown ⟨w3.heap.size,0,none⟩ 1 1 (cellsEv ⟨cn,va⟩) rfl rfl hnews h1c hm1 (by omega) (Nat.zero_le _) ?_
 intro v' w4 hown' hgrow _ hblk
 have hbx4:=(hgrow.block bm (by omega) (fun e=>HNB.out.1 e.symm)).trans H3.out.box
 have hcx4:=(hgrow.block w.heap.size (by omega) (fun e=>HNB.out.2 e.symm)).trans HG3.out
 have HH:=hid (And.intro hown' (And.intro hgrow hblk))
 obtain⟨xa,xc,rfl,_⟩:=own_read hown'
 clear hown' hgrow hblk
 try (simp only[Act.put,List.setIfInBounds_toArray,List.set_cons_succ,List.set_cons_zero,List.getElem_toArray,List.getElem_cons_succ,List.getElem_cons_zero])
 refine⟨fun _=>⟨_,keepS_of (two_keep (hbx4.trans (H2.out.box.symm.trans (HK0.out _))) (hcx4.trans (HG2.out.symm.trans (HK0.out _))))⟩,?_⟩
 have c3:=row_of hbx4 3 _ rfl
 have f3:=frozen_of_row w4 bm 3 _ _ hbx4
 have M4:=hid (H3.out.setRels _ HH.out.1 HH.out.2.1 HH.out.2.2)
 have T4:=hid ((((Turn.of_below (B:=G) HAL.out).grown HH.out.2.1 (fun b hb=>(H3.out.mem.osep.2.1 b hb).1)).setCell (a:=⟨bm,3,none⟩) H3.out.bG.1 (.slice xa (m.t.rels.length+1) xc)))
 have GR:Hid (∀ b,Grow G (w3.alloc (.cells #[.int .i64 cn,.int .u64 va] 163)) w4 b→Grow G w (w4.setCell ⟨bm,3,none⟩ (.slice xa (m.t.rels.length+1) xc)) b):=fun b hb=>hb.elim .inl fun k=>.inr ⟨Nat.le_trans HAL.out.size k.1,by simpa using k.2⟩
 have hcb:=(heap_setCell_other w4 ⟨bm,3,none⟩ w.heap.size (.slice xa (m.t.rels.length+1) xc) (by simp;omega)).trans hcx4
 have HCB:=hid hcb
 clear HH hown hbx4 hcx4 l3 k3 hcb
 refine mix_tail [13,14,15,16,17] [_,_,_,_,_] _ _ rfl rfl ?_
 simp only[Act.put,List.setIfInBounds_toArray,List.set_cons_succ,List.set_cons_zero,List.getElem_toArray,List.getElem_cons_succ,List.getElem_cons_zero]
 go_wp2_with fail
 go_upto_region 3 with fail
 clear c3 f3
 generalize w4.setCell ⟨bm,3,none⟩ (.slice xa (m.t.rels.length+1) xc)=w5 at *
 have l13:=ext_cell (row_of M4.out.box 13 _ rfl)
 have k2:=ext_cell (row_of HCB.out 2 (.int .i64 d) rfl)
 (refine wp_region_calm_tail 7 (by kernel_rfl) (by kernel_rfl) ?_;simp only[List.take_succ_cons,List.take_zero,List.drop_succ_cons,List.drop_zero];(repeat (go_big_quiet_step (fail)));refine wpQuiet_nil ?_;intro wc hwc)
 have M5:=M4.out.keep hwc
 have cg:=row_of M5.mem.regs d _ (u64s_get _ _ _ HY.out)
 have fg:=frozen_of_row wc gb d _ _ M5.mem.regs
 have HP:=hid (M5.setReg d va)
 have hgG:=H3.out.mem.sep.1
 have hT:Hid (Turn G w (wc.setCell ⟨gb,(d:Int).toNat,none⟩ (.int .u64 va))):=(T4.out.trans (Turn.of_below hwc)).setCell hgG _
 have hi':(d:Int)<(m.regs.length:Int):=hd1
 have GR2:Hid (∀ b,Grow G (w3.alloc (.cells #[.int .i64 cn,.int .u64 va] 163)) w4 b→Grow G w (wc.setCell ⟨gb,(d:Int).toNat,none⟩ (.int .u64 va)) b):=fun b hb=>(GR.out b hb).elim .inl fun k=>.inr ⟨k.1,by have:=hwc.size;simp;omega⟩
 clear M5 hwc l13 k2
 go_wp2
 go_end0
 exact⟨rfl,by rw[hres.out];exact post_in HP.out.isIn GR2.out hT.out⟩
theorem machRead {G I:Nat→Prop} {w:World} {bm:Nat} {f:FlatD} {ins:List (List Int)} {m:MachD} {c8 c9 c10 kv iv av ov rv bv:Value} {gb db:Nat} {bs:List Nat} (h:MachAt G I w bm f ins m c8 c9 c10 kv iv av ov rv bv gb db bs) (c:CodeD) (hl:m.regs.length≤2097152) (hw1:1≤f.width) (hw2:f.width≤64) (hn0:0≤c.n) (hn1:c.n<m.t.reads.length) (hins:ins.length=m.t.reads.length) (hrd:∀ x∈m.t.reads,0≤x∧x≤1000000000) (hd0:0≤c.dst) (hd1:c.dst<m.regs.length) (hsz:m.t.reads.length≤1000) :
  Calls Tryz.prog 165 #[.pointer (some ⟨bm,0,none⟩),codeV c] w fun e w'=>e=.returned (.tuple #[])∧Post G w w' bm f ins (doM f ins c m 4):=by
 obtain⟨ck,co,cd,cn,cra,crb⟩:=c
 obtain⟨d,rfl⟩:∃ d:Nat,cd=d:=⟨cd.toNat,by simp only at hd0;omega⟩
 obtain⟨n,rfl⟩:∃ n:Nat,cn=n:=⟨cn.toNat,by simp only at hn0;omega⟩
 obtain⟨wd,hwd⟩:∃ wd:Nat,f.width=wd:=⟨f.width.toNat,by omega⟩
 simp only at hd0 hd1 hn0 hn1
 obtain⟨y,hy⟩:∃ y,m.regs[d]?=some y:=⟨_,lgMMm (by omega)⟩
 obtain⟨r,hr⟩:∃ r,m.t.reads[n]?=some r:=⟨_,lgMMm (by omega)⟩
 obtain⟨hr0,hr1⟩:=hrd r (List.mem_of_getElem? hr)
 obtain⟨q,rfl⟩:∃ q:Nat,r=q:=⟨r.toNat,by omega⟩
 obtain⟨L,hL⟩:∃ L,ins[n]?=some L:=⟨_,lgMMm (by omega)⟩
 have hwd1:1≤wd:=by omega
 have hwd2:wd≤64:=by omega
 have hres:Hid (doM f ins ⟨ck,co,d,n,cra,crb⟩ m 4=setR { m with t:={ m.t with reads:=m.t.reads.set n ((q:Int)+1) } } d (match L[q]? with|some v=>v%2 ^ wd|none=>0)):=by
  show setR { m with t:={ m.t with reads:=m.t.reads.set (n:Int).toNat (m.t.reads.getD (n:Int).toNat 0+1) } } d (match inAt ins (n:Int).toNat (m.t.reads.getD (n:Int).toNat 0).toNat with|some v=>v%2 ^ f.width.toNat|none=>0)=_
  have e1:m.t.reads.getD n 0=(q:Int):=by rw[List.getD_eq_getElem?_getD,hr];rfl
  rw[Int.toNat_natCast,e1,Int.toNat_natCast,inAt,hL,hwd]
  rfl
 have hb:Below w.heap.size w (w.alloc (.cells #[.int .u8 ck,.int .u8 co,.int .i64 d,.int .i64 n,.int .i64 cra.reg,.int .u64 cra.num,.int .i64 crb.reg,.int .u64 crb.num] 91)):=(Below.refl _ _).alloc (Nat.le_refl _) _
 have hgb:=heap_alloc_new w (.cells #[.int .u8 ck,.int .u8 co,.int .i64 d,.int .i64 n,.int .i64 cra.reg,.int .u64 cra.num,.int .i64 crb.reg,.int .u64 crb.num] 91)
 have h1:=h.keep hb
 have hlt:bm<w.heap.size:=(gsMMm h.box)
 go_enter Tryz.func165,Tryz.ntmps165
 go_upto_region 2 with fail
 generalize w.alloc (.cells #[.int .u8 ck,.int .u8 co,.int .i64 d,.int .i64 n,.int .i64 cra.reg,.int .u64 cra.num,.int .i64 crb.reg,.int .u64 crb.num] 91)=W at *
 have HB:=hid hb
 have HG:=hid hgb
 obtain⟨ia,ic,rfl⟩:=h1.mem.ins.is
 have hLs:=hL
 have c5:=row_of h1.box 5 _ rfl
 have k3:=row_of hgb 3 (.int .i64 n) rfl
 have cr:=row_of h1.mem.reads n _ (i64s_get _ _ _ hr)
 have hi1:(n:Int)<(m.t.reads.length:Int):=hn1
 have hi2:(n:Int)<(ins.length:Int):=by omega
 have H1:=hid h1
 have HY:=hid hy
 have HR:=hid hr
 have HLL:=hid hL
 have HWD:=hid hwd
 clear h hb hgb h1 hy hr hrd hL hLs hwd
 go_quiet (fail)
 have H2:=hid (H1.out.keep (below_drewN (Below.refl W.heap.size W) nq))
 have HG2:Hid ((W.drewN nq).heap[w.heap.size]?=_):=HG.out
 have HB2:=hid (below_drewN HB.out nq)
 clear c5 k3 cr
 generalize W.drewN nq=W2 at *
 go_upto_region 3 with fail
 have c12:=row_of H2.out.box 12 _ rfl
 have k3:=row_of HG2.out 3 (.int .i64 n) rfl
 obtain⟨ib,io,la,lc,rfl,_,cI,hRL⟩:=H2.out.mem.ins.at HLL.out
 have hLsz:=hRL.size
 have HRL:=hid hRL
 clear hRL
 have HF:Hid (∀ (w5:World) (v:Int),Below w.heap.size w w5→Below W2.heap.size W2 w5→True):=fun _ _ _ _=>trivial
 by_cases hlt:(q:Int)<(L.length:Int)
 ·obtain⟨v,hv⟩:∃ v,L[q]?=some v:=⟨_,lgMMm (by omega)⟩
  obtain⟨vb,vo,rfl,_,cV,hvI⟩:=atNum HRL.out hv
  have HT:=hid (fun w=>wordTrim wd v hwd1 hwd2 hvI w)
  have hres2:Hid (doM f ins ⟨ck,co,d,n,cra,crb⟩ m 4=setR { m with t:={ m.t with reads:=m.t.reads.set n ((q:Int)+1) } } d (v%2 ^ wd)):=by show _=_;rw[hres.out,hv]
  generalize v%2 ^ wd=rv' at *
  have c6:W2.cell? ⟨bm,6,none⟩=some (.int .i64 wd):=by rw[← HWD.out];exact row_of H2.out.box 6 _ rfl
  clear hv hvI HRL HF
  go_quiet (fail)
  have HBa:=below_drewN (Below.refl W2.heap.size W2) nq
  replace H2:=hid (H2.out.keep HBa)
  replace HG2:Hid ((W2.drewN nq).heap[w.heap.size]?=_):=HG2.out
  replace HB2:=hid (below_drewN HB2.out nq)
  replace c12:(W2.drewN nq).cell? _=_:=c12
  replace cI:(W2.drewN nq).cell? _=_:=cI
  replace k3:(W2.drewN nq).cell? _=_:=k3
  replace cV:(W2.drewN nq).cell? _=_:=cV
  replace c6:(W2.drewN nq).cell? _=_:=c6
  clear HBa
  generalize W2.drewN nq=W2a at *
  go_upto_region 4 with fail
  go_quiet (first|(go_at_call 174;exact quiet_same (HT.out _)))
  go_upto_region 5 with fail
  have HBD:=hid (below_drewN (Below.refl W2a.heap.size W2a) (nq))
  have H3:=hid (H2.out.keep HBD.out)
  have HG3:Hid ((W2a.drewN (nq)).heap[w.heap.size]?=_):=HG2.out
  have HB3:=hid (below_drewN HB2.out (nq))
  clear c12 k3 cI cV c6
  generalize W2a.drewN (nq)=W3 at *
  have l5:=ext_cell (row_of H3.out.box 5 _ rfl)
  have k3:=ext_cell (row_of HG3.out 3 (.int .i64 n) rfl)
  have cr:=ext_cell (row_of H3.out.mem.reads n _ (i64s_get _ _ _ HR.out))
  (refine wp_region_calm_tail 11 (by kernel_rfl) (by kernel_rfl) ?_;simp only[List.take_succ_cons,List.take_zero,List.drop_succ_cons,List.drop_zero];(repeat (go_big_quiet_step (fail)));refine wpQuiet_nil ?_;intro wc hwc)
  have M4:=hid (H3.out.keep hwc)
  have cg:=row_of M4.out.mem.reads n _ (i64s_get _ _ _ HR.out)
  have fg:=frozen_of_row wc db n _ _ M4.out.mem.reads
  have HG4:=(hwc.block _ (gsMMm HG3.out)).trans HG3.out
  have hne:w.heap.size≠db:=row_ne HG4 M4.out.mem.reads (by decide)
  have HG5:=hid ((heap_setCell_other wc ⟨db,n,none⟩ w.heap.size (.int .i64 ((q:Int)+1)) (by simpa using hne)).trans HG4)
  have M5:=hid (M4.out.setRead n ((q:Int)+1))
  have T5:Hid (Turn G w (wc.setCell ⟨db,n,none⟩ (.int .i64 ((q:Int)+1)))):=((Turn.of_below HB3.out).trans (Turn.of_below hwc)).setCell M4.out.mem.sep.2.2.1 _
  have hS5:Hid (w.heap.size≤(wc.setCell ⟨db,n,none⟩ (.int .i64 ((q:Int)+1))).heap.size):=T5.out.size
  clear hwc l5 k3 cr HG4 hne
  go_upto_region 6 with fail
  clear cg fg
  generalize wc.setCell ⟨db,n,none⟩ (.int .i64 ((q:Int)+1))=w5 at *
  have l13:=ext_cell (row_of M5.out.box 13 _ rfl)
  have k2:=ext_cell (row_of HG5.out 2 (.int .i64 d) rfl)
  (refine wp_region_calm_tail 7 (by kernel_rfl) (by kernel_rfl) ?_;simp only[List.take_succ_cons,List.take_zero,List.drop_succ_cons,List.drop_zero];(repeat (go_big_quiet_step (fail)));refine wpQuiet_nil ?_;intro wc hwc)
  have M6:=M5.out.keep hwc
  have cg:=row_of M6.mem.regs d _ (u64s_get _ _ _ HY.out)
  have fg:=frozen_of_row wc gb d _ _ M6.mem.regs
  have HP:=hid (M6.setReg d (rv'))
  have hT:Hid (Turn G w (wc.setCell ⟨gb,(d:Int).toNat,none⟩ (.int .u64 (rv')))):=(T5.out.trans (Turn.of_below hwc)).setCell M6.mem.sep.1 _
  have hi':(d:Int)<(m.regs.length:Int):=hd1
  clear M6 hwc l13 k2
  go_wp2
  go_end0
  exact⟨rfl,by rw[hres2.out];exact post_of HP.out hT.out⟩
 ·have hres2:Hid (doM f ins ⟨ck,co,d,n,cra,crb⟩ m 4=setR { m with t:={ m.t with reads:=m.t.reads.set n ((q:Int)+1) } } d 0):=by show _=_;rw[hres.out,List.getElem?_eq_none (by omega)]
  have hge:(L.length:Int)≤(q:Int):=by omega
  go_quiet (fail)
  go_upto_region 5 with fail
  have HBD:=hid (below_drewN (Below.refl W2.heap.size W2) (nq))
  have H3:=hid (H2.out.keep HBD.out)
  have HG3:Hid ((W2.drewN (nq)).heap[w.heap.size]?=_):=HG2.out
  have HB3:=hid (below_drewN HB2.out (nq))
  clear c12 k3 cI
  generalize W2.drewN (nq)=W3 at *
  have l5:=ext_cell (row_of H3.out.box 5 _ rfl)
  have k3:=ext_cell (row_of HG3.out 3 (.int .i64 n) rfl)
  have cr:=ext_cell (row_of H3.out.mem.reads n _ (i64s_get _ _ _ HR.out))
  (refine wp_region_calm_tail 11 (by kernel_rfl) (by kernel_rfl) ?_;simp only[List.take_succ_cons,List.take_zero,List.drop_succ_cons,List.drop_zero];(repeat (go_big_quiet_step (fail)));refine wpQuiet_nil ?_;intro wc hwc)
  have M4:=hid (H3.out.keep hwc)
  have cg:=row_of M4.out.mem.reads n _ (i64s_get _ _ _ HR.out)
  have fg:=frozen_of_row wc db n _ _ M4.out.mem.reads
  have HG4:=(hwc.block _ (gsMMm HG3.out)).trans HG3.out
  have hne:w.heap.size≠db:=row_ne HG4 M4.out.mem.reads (by decide)
  have HG5:=hid ((heap_setCell_other wc ⟨db,n,none⟩ w.heap.size (.int .i64 ((q:Int)+1)) (by simpa using hne)).trans HG4)
  have M5:=hid (M4.out.setRead n ((q:Int)+1))
  have T5:Hid (Turn G w (wc.setCell ⟨db,n,none⟩ (.int .i64 ((q:Int)+1)))):=((Turn.of_below HB3.out).trans (Turn.of_below hwc)).setCell M4.out.mem.sep.2.2.1 _
  have hS5:Hid (w.heap.size≤(wc.setCell ⟨db,n,none⟩ (.int .i64 ((q:Int)+1))).heap.size):=T5.out.size
  clear hwc l5 k3 cr HG4 hne
  go_upto_region 6 with fail
  clear cg fg
  generalize wc.setCell ⟨db,n,none⟩ (.int .i64 ((q:Int)+1))=w5 at *
  have l13:=ext_cell (row_of M5.out.box 13 _ rfl)
  have k2:=ext_cell (row_of HG5.out 2 (.int .i64 d) rfl)
  (refine wp_region_calm_tail 7 (by kernel_rfl) (by kernel_rfl) ?_;simp only[List.take_succ_cons,List.take_zero,List.drop_succ_cons,List.drop_zero];(repeat (go_big_quiet_step (fail)));refine wpQuiet_nil ?_;intro wc hwc)
  have M6:=M5.out.keep hwc
  have cg:=row_of M6.mem.regs d _ (u64s_get _ _ _ HY.out)
  have fg:=frozen_of_row wc gb d _ _ M6.mem.regs
  have HP:=hid (M6.setReg d (0))
  have hT:Hid (Turn G w (wc.setCell ⟨gb,(d:Int).toNat,none⟩ (.int .u64 (0)))):=(T5.out.trans (Turn.of_below hwc)).setCell M6.mem.sep.1 _
  have hi':(d:Int)<(m.regs.length:Int):=hd1
  clear M6 hwc l13 k2
  go_wp2
  go_end0
  exact⟨rfl,by rw[hres2.out];exact post_of HP.out hT.out⟩
structure HeadP (f:FlatD):Prop where
 w1:1≤f.width
 w2:f.width≤64
 r0:0≤f.regs
 r1:f.regs≤2097152
 chans:f.chans.length≤32
 sites:f.sites.length≤32
 arrays:f.arrays.length≤32
 code0:1≤f.code.length
 code1:f.code.length≤4096
 arr:∀ n∈f.arrays,1≤n∧n≤64
 codes:∀ c∈f.code,codeOk f c=true
 last:lastK f=9 ∨ lastK f=7
theorem headP {f:FlatD} (h:flatOk f=true):HeadP f:=by
 simp only[flatOk,headOk,namesOk,Bool.and_eq_true,Bool.or_eq_true,decide_eq_true_eq,List.all_eq_true,beq_iff_eq,arrOk] at h
 obtain⟨⟨⟨⟨⟨⟨⟨⟨⟨h1,h2⟩,h3⟩,h4⟩,_,h5⟩,_,h6⟩,⟨h7,h8⟩,h9⟩,ha⟩,hc⟩,hl⟩:=h
 exact⟨h1,h2,h3,h4,h5,h6,h7,h8,h9,ha,hc,hl⟩
structure CodeP (f:FlatD) (c:CodeD):Prop where
 kind:c.kind≤9
 op:c.kind=1→2≤c.op∧c.op≤20
 n0:0≤c.n
 n1:c.n<mostF f c.kind
 dst:dstK c.kind=true→0≤c.dst∧c.dst<f.regs
 a:refOk f c.a (aK c.kind)=true
 b:refOk f c.b (bK c.kind c.op)=true
theorem codeP {f:FlatD} {c:CodeD} (h:codeOk f c=true):CodeP f c:=by
 simp only[codeOk,Bool.and_eq_true,decide_eq_true_eq] at h
 obtain⟨⟨⟨⟨⟨h1,h2⟩,h3,h4⟩,h5⟩,h6⟩,h7⟩:=h
 refine⟨h1,?_,h3,h4,?_,h6,h7⟩
 ·intro hk;rw[if_pos (by simp[hk])] at h2;simpa using h2
 ·intro hk;rw[if_pos hk] at h5;simpa using h5
abbrev CodeIn (x:CodeD):Prop:=InU8 x.kind∧InU8 x.op∧InI64 x.dst∧InI64 x.n∧InI64 x.a.reg∧InU64 x.a.num∧InI64 x.b.reg∧InU64 x.b.num
theorem refIn_of {f:FlatD} {m:MachD} {r:RefD} {has:Bool} (hh:HeadP f) (g:Good f m) (h:refOk f r has=true) (h1:InI64 r.reg) (h2:InU64 r.num) (hs:has=true ∨ 0<f.regs):RefIn m r:=by
 refine⟨h1,h2,?_⟩
 have hl:=g.regs
 have:=hh.r0
 unfold refOk at h
 cases has with
 | true=>
  rw[if_pos rfl] at h
  by_cases hr:r.reg=-1
  ·omega
  ·rw[if_neg (by simpa using hr)] at h
   simp only[Bool.and_eq_true,decide_eq_true_eq] at h
   omega
 | false=>
  simp only[Bool.false_eq_true,if_false,Bool.and_eq_true,beq_iff_eq,false_or] at h hs
  omega
structure Ready (f:FlatD) (ins:List (List Int)) (m:MachD):Prop where
 head:HeadP f
 good:Good f m
 ins:ins.length=f.chans.length
 few:m.t.steps≤1000000
 pc0:0≤m.pc
 pc1:m.pc≤4096
theorem machDo {G I:Nat→Prop} {w:World} {bm:Nat} {f:FlatD} {ins:List (List Int)} {m:MachD} {c8 c9 c10 kv iv av ov rv bv:Value} {gb db:Nat} {bs:List Nat} (h:MachAt G I w bm f ins m c8 c9 c10 kv iv av ov rv bv gb db bs) (c:CodeD) (hr:Ready f ins m) (hc:CodeP f c) (hi:CodeIn c) :
  Calls Tryz.prog (kindF c.kind.toNat) #[.pointer (some ⟨bm,0,none⟩),codeV c] w fun e w'=>e=.returned (.tuple #[])∧Post G w w' bm f ins (doM f ins c m c.kind.toNat):=by
 obtain⟨hh,g,hins,hfew,hp0,hp1⟩:=hr
 obtain⟨i1,i2,i3,i4,i5,i6,i7,i8⟩:=hi
 have hl:m.regs.length≤2097152:=by have:=g.regs;have:=hh.r1;omega
 have hreg:((m.regs.length:Nat):Int)=f.regs:=by have:=g.regs;have:=hh.r0;omega
 have hal:m.arrs.length=f.arrays.length:=by have:=congrArg List.length g.arrs;simpa using this
 have hla:∀ l∈m.arrs,l.length≤64:=by
  intro l hm
  have:l.length∈m.arrs.map List.length:=List.mem_map_of_mem hm
  rw[g.arrs] at this
  obtain⟨n,hn,e⟩:=List.mem_map.1 this
  have:=hh.arr n hn
  omega
 have hk:c.kind=0 ∨ c.kind=1 ∨ c.kind=2 ∨ c.kind=3 ∨ c.kind=4 ∨ c.kind=5 ∨ c.kind=6 ∨ c.kind=7 ∨ c.kind=8 ∨ c.kind=9:=by have:=hc.kind;have:=i1.1;omega
 have hn1:=hc.n1
 have ha:=hc.a
 have hb:=hc.b
 have hd:=hc.dst
 have ho:=hc.op
 have hrd:∀ x∈m.t.reads,0≤x∧x≤1000000000:=fun x hx=>by have:=g.rd x hx;omega
 have hcl:=hh.chans
 have hrl:=g.reads
 have ho1:=g.outs
 have ho2:=g.rels
 have ho3:=g.brs
 rcases hk with e|e|e|e|e|e|e|e|e|e <;> rw[e] at ha hb hd hn1 ho <;> rw[show c.kind.toNat=_ from by rw[e]]
 ·obtain⟨d0,d1⟩:=hd rfl
  exact machCopy h c hl (refIn_of hh g ha i5 i6 (.inl rfl)) d0 (by omega)
 ·obtain⟨d0,d1⟩:=hd rfl
  obtain⟨o0,o1⟩:=ho rfl
  exact machApply h c hl hh.w1 hh.w2 (refIn_of hh g ha i5 i6 (.inl rfl)) (refIn_of hh g hb i7 i8 (.inr (by omega))) g.rv o0 o1 d0 (by omega)
 ·obtain⟨d0,d1⟩:=hd rfl
  exact machLoad h c hl (refIn_of hh g ha i5 i6 (.inl rfl)) g.rv hp0 hp1 hc.n0 (by have:c.n<(f.arrays.length:Int):=hn1;omega) hla d0 (by omega)
 ·exact machStore h c hl (refIn_of hh g ha i5 i6 (.inl rfl)) (refIn_of hh g hb i7 i8 (.inl rfl)) g.rv hp0 hp1 hc.n0 (by have:c.n<(f.arrays.length:Int):=hn1;omega) hla
 ·obtain⟨d0,d1⟩:=hd rfl
  exact machRead h c hl hh.w1 hh.w2 hc.n0 (by have:c.n<(f.chans.length:Int):=hn1;omega) (by omega) hrd d0 (by omega) (by omega)
 ·exact machWrite h c hl (refIn_of hh g ha i5 i6 (.inl rfl)) (by omega)
 ·obtain⟨d0,d1⟩:=hd rfl
  exact machRelease h c hl (refIn_of hh g ha i5 i6 (.inl rfl)) (by omega) d0 (by omega)
 ·exact machJump h c
 ·exact machBranch h c hl (refIn_of hh g ha i5 i6 (.inl rfl)) (by omega)
 ·exact machHalt h c hp0 hp1
theorem callKind (k:Nat) (h1:k≤9) (args:Array Value) (w:World):(callFunc (kindF k) args).run Tryz.prog w=.ok (.enter (kindF k) args) w:=by
 have hk:k=0 ∨ k=1 ∨ k=2 ∨ k=3 ∨ k=4 ∨ k=5 ∨ k=6 ∨ k=7 ∨ k=8 ∨ k=9:=by omega
 rcases hk with rfl|rfl|rfl|rfl|rfl|rfl|rfl|rfl|rfl|rfl
 ·exact Tryz.call161 args w
 ·exact Tryz.call162 args w
 ·exact Tryz.call163 args w
 ·exact Tryz.call164 args w
 ·exact Tryz.call165 args w
 ·exact Tryz.call166 args w
 ·exact Tryz.call167 args w
 ·exact Tryz.call168 args w
 ·exact Tryz.call169 args w
 ·exact Tryz.call170 args w
theorem good_tick {f:FlatD} {m:MachD} (g:Good f m):Good f (tickM m):=
 ⟨g.regs,g.rv,g.arrs,g.av,g.reads,fun x hx=>by have:=g.rd x hx;simp only[tickM];omega,by have:=g.outs;simp only[tickM];omega,by have:=g.rels;simp only[tickM];omega,by have:=g.brs;simp only[tickM];omega,g.ov,g.lv,g.st,by have:=g.steps;simp only[tickM];omega⟩
theorem Post.after {G:Nat→Prop} {w w1 w2:World} {bm:Nat} {f:FlatD} {ins:List (List Int)} {m:MachD} (t:Turn G w w1) (h:Post G w1 w2 bm f ins m):Post G w w2 bm f ins m:=
 ⟨h.1.mono fun b hb'=>hb'.elim .inl fun k=>.inr ⟨Nat.le_trans t.size k.1,k.2⟩,t.trans h.2⟩
theorem kinds_ne {G I:Nat→Prop} {w:World} {bm:Nat} {f:FlatD} {ins:List (List Int)} {m:MachD} {c8 c9 c10 kv iv av ov rv bv:Value} {gb db:Nat} {bs:List Nat} (h:MachAt G I w bm f ins m c8 c9 c10 kv iv av ov rv bv gb db bs) (hL:Laid w):1≠bm:=by
 intro e
 have h0:=hL.kinds 0 (by decide)
 have h1:=row_of h.box 0 _ rfl
 rw[← e] at h1
 rw[h1] at h0
 simp at h0
theorem machStep {G I:Nat→Prop} {w:World} {bm:Nat} {f:FlatD} {ins:List (List Int)} {m:MachD} {c8 c9 c10 kv iv av ov rv bv:Value} {gb db:Nat} {bs:List Nat} (h:MachAt G I w bm f ins m c8 c9 c10 kv iv av ov rv bv gb db bs) (hL:Laid w) (hh:HeadP f) (g:Good f m) (hins:ins.length=f.chans.length) (hfew:m.t.steps<1000000) (hp0:0≤m.pc) (hp1:m.pc<f.code.length) :
  Calls Tryz.prog 76 #[.pointer (some ⟨bm,0,none⟩)] w fun e w'=>e=.returned (.bool (m.t.status==2))∧Post G w w' bm f ins (stepM f ins m):=by
 by_cases hs:m.t.status=2
 ·obtain⟨p,hp⟩:∃ p:Nat,m.pc=p:=⟨m.pc.toNat,by omega⟩
  obtain⟨c,hc⟩:∃ c,f.code[p]?=some c:=⟨_,lgMMm (by omega)⟩
  have hcp:=codeP (hh.codes c (List.mem_of_getElem? hc))
  have hci:CodeIn c:=h.mem.code.ok c (List.mem_of_getElem? hc)
  have hkm:=hcp.kind
  have hkn:=hci.1.1
  obtain⟨ck,co,cd,cn,cra,crb⟩:=c
  obtain⟨kk,rfl⟩:∃ kk:Nat,ck=kk:=⟨ck.toNat,by simp only at hkn;omega⟩
  have hk9:kk≤9:=by simp only at hkm;omega
  clear hkm hkn
  have hres:Hid ((m.t.status==2)=true∧stepM f ins m=doM f ins ⟨kk,co,cd,cn,cra,crb⟩ (tickM m) kk):=by
   refine⟨by simp[hs],?_⟩
   rw[stepM,if_pos hs,hp,Int.toNat_natCast,hc]
   rfl
  have hlen:=hh.code1
  have hready:Hid (Ready f ins (tickM m)):=⟨hh,good_tick g,hins,by simp only[tickM];omega,by simp only[tickM];omega,by simp only[tickM];omega⟩
  have hst:=g.steps
  obtain⟨ka,kc,rfl⟩:=h.mem.code.is
  obtain⟨kb,ko,rfl,_,e0,e1,e2,e3,e4,e5,e6,e7,_⟩:=atCode h.mem.code hc
  have hd:(m.t.status != 2)=false:=by simp[hs]
  have c16:w.cell? ⟨bm,16,none⟩=some (.bool false):=by rw[← hd];exact row_of h.box 16 _ rfl
  have hpl:(p:Int)<(f.code.length:Int):=by omega
  have H:=hid h
  have HL:=hid hL
  have HC:=hid hc
  have HP:=hid hp
  have HCP:=hid hcp
  have HCI:=hid hci
  have HT:Hid (tickM m={ m with pc:=(p:Int)+1,t:={ m.t with steps:=m.t.steps+1 } }):=by show tickM m=_;rw[tickM,hp]
  have HNE:=hid (kinds_ne h hL)
  have HKF:=hid (hL.kinds kk (by omega))
  have HDO:=hid (fun (w':World) (hm:MachAt G I w' bm f ins (tickM m) c8 c9 c10 (.slice (some ⟨kb,ko,none⟩) f.code.length kc) iv av ov rv bv gb db bs)=>machDo hm ⟨kk,co,cd,cn,cra,crb⟩ hready.out hcp hci)
  simp only[Int.toNat_natCast] at HDO
  have hcall:=fun args w=>callKind kk hk9 args w
  generalize kindF kk=fo at *
  clear h hL hc hp hcp hci hd hins hh g
  go_enter Tryz.func76,Tryz.ntmps76
  go_upto_region 3 with fail
  have l11:=ext_cell (row_of H.out.box 11 _ rfl)
  have l15:∀ x,(ext w x).cell? ⟨bm,15,none⟩=some (.int .i64 p):=by rw[← HP.out];exact ext_cell (row_of H.out.box 15 _ rfl)
  have f0:=ext_cell e0
  have f1:=ext_cell e1
  have f2:=ext_cell e2
  have f3:=ext_cell e3
  have f4:=ext_cell e4
  have f5:=ext_cell e5
  have f6:=ext_cell e6
  have f7:=ext_cell e7
  refine wp_region_mix (.one [0,1,2,3,4,5,6,7,8,9,10] 11 (tailOf [12])) (fun j=>decide (12≤j)) (by kernel_rfl) (by kernel_rfl) rfl (by kernel_rfl) (fun _ d _ _ _ h=>by cases d <;> exact h) ?_
  have HBd:Hid (Below w.heap.size w w.drew):=(Below.refl _ _).drew
  generalize w.drew=wn at *
  refine mix_one (by simp only[opsOf,List.filterMap_cons,List.filterMap_nil,List.getElem?_toArray,List.getElem?_cons_succ,List.getElem?_cons_zero];rfl) ⟨_,ext_of HBd.out⟩ ?_
  change wpQuiet _ _ _ _ [_,_,_,_,_,_,_,_,_,_,_] _
  (repeat (go_big_quiet_step (fail)))
  refine wpQuiet_nil ?_
  refine mix_step rfl ?_
  go_wp2_with fail
  refine⟨⟨_,ext_of (HBd.out.alloc HBd.out.size _)⟩,?_⟩
  refine mix_tail [12] [_] _ _ rfl rfl ?_
  go_upto_region 4 with fail
  have hal:=HBd.out.alloc HBd.out.size (.cells #[.int .u8 kk,.int .u8 co,.int .i64 cd,.int .i64 cn,.int .i64 cra.reg,.int .u64 cra.num,.int .i64 crb.reg,.int .u64 crb.num] 91)
  have HG:=hid (heap_alloc_new wn (.cells #[.int .u8 kk,.int .u8 co,.int .i64 cd,.int .i64 cn,.int .i64 cra.reg,.int .u64 cra.num,.int .i64 crb.reg,.int .u64 crb.num] 91))
  have H1:=hid (H.out.keep hal)
  have HK1:=hid (cell_keep hal HKF.out)
  have T1:=hid (Turn.of_below (B:=G) hal)
  clear hal l11 l15 f0 f1 f2 f3 f4 f5 f6 f7 e0 e1 e2 e3 e4 e5 e6 e7 c16 HBd
  generalize wn.alloc (.cells #[.int .u8 kk,.int .u8 co,.int .i64 cd,.int .i64 cn,.int .i64 cra.reg,.int .u64 cra.num,.int .i64 crb.reg,.int .u64 crb.num] 91)=W at *
  generalize wn.heap.size=cb at *
  have c15:W.cell? ⟨bm,15,none⟩=some (.int .i64 p):=by rw[← HP.out];exact row_of H1.out.box 15 _ rfl
  have c1:=row_of H1.out.box 1 _ rfl
  have f15:=frozen_of_row W bm 15 _ _ H1.out.box
  have f1:=frozen_of_row W bm 1 _ _ H1.out.box
  go_upto_region 6 with fail
  have H2:=hid ((H1.out.setPc ((p:Int)+1)).setSteps (m.t.steps+1))
  have T2:=hid ((T1.out.setCell (a:=⟨bm,15,none⟩) H1.out.bG.1 (.int .i64 ((p:Int)+1))).setCell (a:=⟨bm,1,none⟩) H1.out.bG.1 (.int .i64 (m.t.steps+1)))
  have hne:cb≠bm:=row_ne HG.out H1.out.box (by decide)
  have HG2:=hid (((heap_setCell_other (W.setCell ⟨bm,15,none⟩ (.int .i64 ((p:Int)+1))) ⟨bm,1,none⟩ cb (.int .i64 (m.t.steps+1)) (by simpa using hne)).trans (heap_setCell_other W ⟨bm,15,none⟩ cb (.int .i64 ((p:Int)+1)) (by simpa using hne))).trans HG.out)
  have HK2:=hid ((World.cell?_of_block ((heap_setCell_other (W.setCell ⟨bm,15,none⟩ (.int .i64 ((p:Int)+1))) ⟨bm,1,none⟩ 1 (.int .i64 (m.t.steps+1)) (by simpa using HNE.out)).trans (heap_setCell_other W ⟨bm,15,none⟩ 1 (.int .i64 ((p:Int)+1)) (by simpa using HNE.out)))).trans HK1.out)
  rw[← HT.out] at H2
  clear c15 c1 f15 f1 hne
  generalize (W.setCell ⟨bm,15,none⟩ (.int .i64 ((p:Int)+1))).setCell ⟨bm,1,none⟩ (.int .i64 (m.t.steps+1))=W2 at *
  have r0:=ext_cell (row_of HG2.out 0 (.int .u8 kk) rfl)
  have r1:=ext_cell (row_of HG2.out 1 (.int .u8 co) rfl)
  have r2:=ext_cell (row_of HG2.out 2 (.int .i64 cd) rfl)
  have r3:=ext_cell (row_of HG2.out 3 (.int .i64 cn) rfl)
  have r4:=ext_cell (row_of HG2.out 4 (.int .i64 cra.reg) rfl)
  have r5:=ext_cell (row_of HG2.out 5 (.int .u64 cra.num) rfl)
  have r6:=ext_cell (row_of HG2.out 6 (.int .i64 crb.reg) rfl)
  have r7:=ext_cell (row_of HG2.out 7 (.int .u64 crb.num) rfl)
  have rk:=ext_cell HK2.out
  have hk10:(kk:Int)<10:=by omega
  (refine wp_region_calm_tail 6 (by kernel_rfl) (by kernel_rfl) ?_;simp only[List.take_succ_cons,List.take_zero,List.drop_succ_cons,List.drop_zero];(repeat (go_big_quiet_step (fail)));refine wpQuiet_nil ?_;intro wc hwc)
  have HM:=hid (HDO.out _ (H2.out.keep hwc))
  have T3:=hid (T2.out.trans (Turn.of_below hwc))
  clear r0 r1 r2 r3 r4 r5 r6 r7 rk hwc
  go_wp2_with (refine HM.out.mono ?_;rintro e w9 ⟨rfl,hpost⟩)
  go_ret
  exact⟨by rw[hres.out.1];rfl,by rw[hres.out.2];exact hpost.after T3.out⟩
 ·have hres:Hid ((m.t.status==2)=false∧stepM f ins m=m):=⟨by simp[hs],by rw[stepM,if_neg hs]⟩
  have hd:(m.t.status != 2)=true:=by simp[hs]
  have c16:w.cell? ⟨bm,16,none⟩=some (.bool true):=by rw[← hd];exact row_of h.box 16 _ rfl
  have HP:Hid (Post G w w bm f ins m):=post_of h (Turn.refl _ _)
  clear h hL hs hd hh g
  go_enter Tryz.func76,Tryz.ntmps76
  go_wp2
  go_ret
  exact⟨by rw[hres.out.1];rfl,by rw[hres.out.2];exact HP.out⟩
theorem ints_rd {W:World} {g:Nat} {l:List Int} (hg:W.heap[g]?=some (.cells (i64s l) 3 (0,0))) (hz:l.length≤1000) (hv:∀ x∈l,InI64 x):RdRow kInt none W (.slice (some ⟨g,0,none⟩) l.length l.length) l:=by
 refine⟨_,l.length,rfl,⟨by show l.length*8≤_;omega,Nat.le_refl _⟩,fun i x hx=>⟨g,0,rfl,Free.none _ _ _,fun j u hj=>?_,hv x (List.mem_of_getElem? hx)⟩⟩
 have:j=0∧u=.int .i64 x:=by
  cases j with
  | zero=>simp[cellsInt] at hj;exact⟨rfl,hj.symm⟩
  | succ j=>simp[cellsInt] at hj
 obtain⟨rfl,rfl⟩:=this
 have:=row_of hg i _ (i64s_get l i x hx)
 simpa using this
theorem machTrace {G I:Nat→Prop} {w:World} {bm:Nat} {f:FlatD} {ins:List (List Int)} {m:MachD} {c8 c9 c10 kv iv av ov rv bv:Value} {gb db:Nat} {bs:List Nat} (h:MachAt G I w bm f ins m c8 c9 c10 kv iv av ov rv bv gb db bs) (hh:HeadP f) (g:Good f m) (hfew:m.t.steps≤1000000) :
  Calls Tryz.prog 77 #[.pointer (some ⟨bm,0,none⟩)] w fun e w'=>∃ xo xr xb xd,e=.returned (traceV m.t xo xr xb xd)∧RdTrace (some (upFrom w.heap.size)) w' m.t xo xr xb xd∧Below w.heap.size w w':=by
 have ho:RdRow kEv none w ov m.t.outs:=(own_rows (K:=kEv) h.mem.outs (by show m.t.outs.length*16≤_;have:=g.outs;omega) g.ov).forget
 have hr:RdRow kEv none w rv m.t.rels:=(own_rows (K:=kEv) h.mem.rels (by show m.t.rels.length*16≤_;have:=g.rels;omega) g.lv).forget
 have hb:RdRow kBool none w bv m.t.brs:=(own_rows (K:=kBool) h.mem.brs (by show m.t.brs.length*1≤_;have:=g.brs;omega) (fun _ _=>trivial)).forget
 have hd:RdRow kInt none w (.slice (some ⟨db,0,none⟩) m.t.reads.length m.t.reads.length) m.t.reads:=ints_rd h.mem.reads (by have:=g.reads;have:=hh.chans;omega) (fun x hx=>by have:=g.rd x hx;exact⟨by omega,by omega⟩)
 have hst:InU8 m.t.status∧InI64 m.t.steps:=⟨by rcases g.st with e|e|e <;> rw[e] <;> exact⟨by decide,by decide⟩,by have:=g.steps;exact⟨by omega,by omega⟩⟩
 obtain⟨oa,oc,rfl⟩:=ho.is
 obtain⟨ra,rc,rfl⟩:=hr.is
 obtain⟨ba,bc,rfl⟩:=hb.is
 have c0:w.cell? ⟨bm,0,none⟩=some (.int .u8 m.t.status):=row_of h.box 0 _ rfl
 have c1:w.cell? ⟨bm,1,none⟩=some (.int .i64 m.t.steps):=row_of h.box 1 _ rfl
 have c2:w.cell? ⟨bm,2,none⟩=some (.slice oa m.t.outs.length oc):=row_of h.box 2 _ rfl
 have c3:w.cell? ⟨bm,3,none⟩=some (.slice ra m.t.rels.length rc):=row_of h.box 3 _ rfl
 have c4:w.cell? ⟨bm,4,none⟩=some (.slice ba m.t.brs.length bc):=row_of h.box 4 _ rfl
 have c5:w.cell? ⟨bm,5,none⟩=some (.slice (some ⟨db,0,none⟩) m.t.reads.length m.t.reads.length):=row_of h.box 5 _ rfl
 have hlt:bm<w.heap.size:=(gsMMm h.box)
 have HO:=hid ho
 have HR:=hid hr
 have HB:=hid hb
 have HD:=hid hd
 have HST:=hid hst
 clear h ho hr hb hd hst hh g
 go_enter Tryz.func77,Tryz.ntmps77
 go_upto_region 4 with fail
 have hal0:=(Below.refl w.heap.size w).alloc (Nat.le_refl _) (.cells #[.int .u8 0,.int .i64 0,.slice none 0 0,.slice none 0 0,.slice none 0 0,.slice none 0 0] 52)
 have HW:=hid (hal0.alloc hal0.size (.cells #[.int .u8 m.t.status,.int .i64 m.t.steps,.slice oa m.t.outs.length oc,.slice ra m.t.rels.length rc,.slice ba m.t.brs.length bc,.slice (some ⟨db,0,none⟩) m.t.reads.length m.t.reads.length] 52))
 have hk:=(Below.refl (w.alloc (.cells #[.int .u8 0,.int .i64 0,.slice none 0 0,.slice none 0 0,.slice none 0 0,.slice none 0 0] 52)).heap.size (w.alloc (.cells #[.int .u8 0,.int .i64 0,.slice none 0 0,.slice none 0 0,.slice none 0 0,.slice none 0 0] 52))).alloc (Nat.le_refl _) (.cells #[.int .u8 m.t.status,.int .i64 m.t.steps,.slice oa m.t.outs.length oc,.slice ra m.t.rels.length rc,.slice ba m.t.brs.length bc,.slice (some ⟨db,0,none⟩) m.t.reads.length m.t.reads.length] 52)
 have HG0:=hid ((hk.block w.heap.size (by simp)).trans (heap_alloc_new w (.cells #[.int .u8 0,.int .i64 0,.slice none 0 0,.slice none 0 0,.slice none 0 0,.slice none 0 0] 52)))
 have HG1:Hid (((w.alloc (.cells #[.int .u8 0,.int .i64 0,.slice none 0 0,.slice none 0 0,.slice none 0 0,.slice none 0 0] 52)).alloc (.cells #[.int .u8 m.t.status,.int .i64 m.t.steps,.slice oa m.t.outs.length oc,.slice ra m.t.rels.length rc,.slice ba m.t.brs.length bc,.slice (some ⟨db,0,none⟩) m.t.reads.length m.t.reads.length] 52)).heap[w.heap.size+1]?=some (.cells #[.int .u8 m.t.status,.int .i64 m.t.steps,.slice oa m.t.outs.length oc,.slice ra m.t.rels.length rc,.slice ba m.t.brs.length bc,.slice (some ⟨db,0,none⟩) m.t.reads.length m.t.reads.length] 52)):=by
  show _=_
  rw[show w.heap.size+1=(w.alloc (.cells #[.int .u8 0,.int .i64 0,.slice none 0 0,.slice none 0 0,.slice none 0 0,.slice none 0 0] 52)).heap.size by simp]
  exact heap_alloc_new _ _
 clear hal0 hk c0 c1 c2 c3 c4 c5
 generalize (w.alloc (.cells #[.int .u8 0,.int .i64 0,.slice none 0 0,.slice none 0 0,.slice none 0 0,.slice none 0 0] 52)).alloc (.cells #[.int .u8 m.t.status,.int .i64 m.t.steps,.slice oa m.t.outs.length oc,.slice ra m.t.rels.length rc,.slice ba m.t.brs.length bc,.slice (some ⟨db,0,none⟩) m.t.reads.length m.t.reads.length] 52)=W at *
 refine wp_region_mix (.one [0,1,3,4,6,7,9,10] 2 (.one [12] 5 (.one [] 8 (.one [] 11 (tailOf [13,14,15,16,17,18,19]))))) (fun j=>decide (13≤j)) (by kernel_rfl) (by kernel_rfl) rfl (by kernel_rfl) (fun _ d _ _ _ h=>by cases d <;> exact h) ?_
 have HBd:Hid (Below W.heap.size W W.drew):=(Below.refl _ _).drew
 have b1:Below w.heap.size w W.drew:=HW.out.drew
 generalize W.drew=wn at *
 have l2:=ext_cell (row_of HG1.out 2 (.slice oa m.t.outs.length oc) rfl)
 have l3:=ext_cell (row_of HG1.out 3 (.slice ra m.t.rels.length rc) rfl)
 have l4:=ext_cell (row_of HG1.out 4 (.slice ba m.t.brs.length bc) rfl)
 have l5:=ext_cell (row_of HG1.out 5 (.slice (some ⟨db,0,none⟩) m.t.reads.length m.t.reads.length) rfl)
 refine mix_one (by simp only[opsOf,List.filterMap_cons,List.filterMap_nil,List.getElem?_toArray,List.getElem?_cons_succ,List.getElem?_cons_zero];rfl) ⟨_,ext_of HBd.out⟩ ?_
 change wpQuiet _ _ _ _ [_,_,_,_,_,_,_,_] _
 (repeat (go_big_quiet_step (fail)))
 refine wpQuiet_nil ?_
 clear l2 l3 l4 l5
 have R1:=HO.out.keep b1
 refine mix_step rfl ?_
 go_wp2_with (go_at_call 110;refine (cloneEv _ _ _ R1).mono ?_;rintro e w2 ⟨v,rfl,_,r2,b2⟩)
 obtain⟨xa2,xc2,rfl⟩:=r2.is
 have B2:=bcomp HBd.out b2
 have k2:=bcomp b1 b2
 have R2:=HR.out.keep k2
 refine⟨fun _=>⟨_,ext_of B2⟩,?_⟩
 refine mix_one (by simp only[opsOf,List.filterMap_cons,List.filterMap_nil,List.getElem?_toArray,List.getElem?_cons_succ,List.getElem?_cons_zero];rfl) ⟨_,ext_of B2⟩ ?_
 change wpQuiet _ _ _ _ [_] _
 (repeat (go_big_quiet_step (fail)))
 refine wpQuiet_nil ?_
 refine mix_step rfl ?_
 go_wp2_with (go_at_call 110;refine (cloneEv _ _ _ R2).mono ?_;rintro e w3 ⟨v,rfl,_,r3,b3⟩)
 obtain⟨xa3,xc3,rfl⟩:=r3.is
 have B3:=bcomp B2 b3
 have k3:=bcomp k2 b3
 have R3:=HB.out.keep k3
 refine⟨fun _=>⟨_,ext_of B3⟩,?_⟩
 refine mix_now ?_
 refine mix_step rfl ?_
 go_wp2_with (go_at_call 111;refine (cloneBool _ _ _ R3).mono ?_;rintro e w4 ⟨v,rfl,_,r4,b4⟩)
 obtain⟨xa4,xc4,rfl⟩:=r4.is
 have B4:=bcomp B3 b4
 have k4:=bcomp k3 b4
 have R4:=HD.out.keep k4
 refine⟨fun _=>⟨_,ext_of B4⟩,?_⟩
 refine mix_now ?_
 refine mix_step rfl ?_
 go_wp2_with (go_at_call 112;refine (cloneInt _ _ _ R4).mono ?_;rintro e w5 ⟨v,rfl,_,r5,b5⟩)
 obtain⟨xa5,xc5,rfl⟩:=r5.is
 have B5:=bcomp B4 b5
 have k5:=bcomp k4 b5
 refine⟨fun _=>⟨_,ext_of B5⟩,?_⟩
 refine mix_tail [13,14,15,16,17,18,19] [_,_,_,_,_,_,_] _ _ rfl rfl ?_
 have hszW:w.heap.size+1<W.heap.size:=(gsMMm HG1.out)
 have hszn:w.heap.size+1<wn.heap.size:=by have:=HBd.out.size;omega
 have hsz5:w.heap.size+1<w5.heap.size:=by have:=B5.size;omega
 have G5:=(B5.block _ hszW).trans HG1.out
 have Z5:=(B5.block _ (by omega:w.heap.size<W.heap.size)).trans HG0.out
 have HR5:Hid (RdTrace (some (upFrom (w.heap.size+2))) w5 m.t (.slice xa2 m.t.outs.length xc2) (.slice xa3 m.t.rels.length xc3) (.slice xa4 m.t.brs.length xc4) (.slice xa5 m.t.reads.length xc5)):=
  ⟨(r2.keep (bcomp b3 (bcomp b4 b5))).up (by omega),(r3.keep (bcomp b4 b5)).up (by have:=b2.size;omega),(r4.keep b5).up (by have:=b2.size;have:=b3.size;omega),r5.up (by have:=b2.size;have:=b3.size;have:=b4.size;omega),HST.out⟩
 have HB5:=hid k5
 have x2:=row_of G5 2 (.slice oa m.t.outs.length oc) rfl
 have x3:=row_of G5 3 (.slice ra m.t.rels.length rc) rfl
 have x4:=row_of G5 4 (.slice ba m.t.brs.length bc) rfl
 have x5:=row_of G5 5 (.slice (some ⟨db,0,none⟩) m.t.reads.length m.t.reads.length) rfl
 have f2:=frozen_of_row w5 (w.heap.size+1) 2 _ _ G5
 have f3:=frozen_of_row w5 (w.heap.size+1) 3 _ _ G5
 have f4:=frozen_of_row w5 (w.heap.size+1) 4 _ _ G5
 have f5:=frozen_of_row w5 (w.heap.size+1) 5 _ _ G5
 have HG6:Hid (((((w5.setCell ⟨w.heap.size+1,2,none⟩ (.slice xa2 m.t.outs.length xc2)).setCell ⟨w.heap.size+1,3,none⟩ (.slice xa3 m.t.rels.length xc3)).setCell ⟨w.heap.size+1,4,none⟩ (.slice xa4 m.t.brs.length xc4)).setCell ⟨w.heap.size+1,5,none⟩ (.slice xa5 m.t.reads.length xc5)).heap[w.heap.size+1]?=some (.cells #[.int .u8 m.t.status,.int .i64 m.t.steps,.slice xa2 m.t.outs.length xc2,.slice xa3 m.t.rels.length xc3,.slice xa4 m.t.brs.length xc4,.slice xa5 m.t.reads.length xc5] 52 (0,0))):=by
  show _=_
  rw[heap_setCell_same _ _ _ _ _ _ (heap_setCell_same _ _ _ _ _ _ (heap_setCell_same _ _ _ _ _ _ (heap_setCell_same _ _ _ _ _ _ G5)))]
  rfl
 have hoth:∀ b,b≠w.heap.size+1→((((w5.setCell ⟨w.heap.size+1,2,none⟩ (.slice xa2 m.t.outs.length xc2)).setCell ⟨w.heap.size+1,3,none⟩ (.slice xa3 m.t.rels.length xc3)).setCell ⟨w.heap.size+1,4,none⟩ (.slice xa4 m.t.brs.length xc4)).setCell ⟨w.heap.size+1,5,none⟩ (.slice xa5 m.t.reads.length xc5)).heap[b]?=w5.heap[b]?:=fun b hb=>by
  rw[heap_setCell_other _ _ _ _ (by simpa using hb),heap_setCell_other _ _ _ _ (by simpa using hb),heap_setCell_other _ _ _ _ (by simpa using hb),heap_setCell_other _ _ _ _ (by simpa using hb)]
 have HZ6:=hid ((hoth w.heap.size (by omega)).trans Z5)
 have HR6:Hid (RdTrace (some (upFrom (w.heap.size+2))) ((((w5.setCell ⟨w.heap.size+1,2,none⟩ (.slice xa2 m.t.outs.length xc2)).setCell ⟨w.heap.size+1,3,none⟩ (.slice xa3 m.t.rels.length xc3)).setCell ⟨w.heap.size+1,4,none⟩ (.slice xa4 m.t.brs.length xc4)).setCell ⟨w.heap.size+1,5,none⟩ (.slice xa5 m.t.reads.length xc5)) m.t (.slice xa2 m.t.outs.length xc2) (.slice xa3 m.t.rels.length xc3) (.slice xa4 m.t.brs.length xc4) (.slice xa5 m.t.reads.length xc5)):=by
  obtain⟨h1,h2,h3,h4,h5⟩:=HR5.out
  have ho:∀ b,upFrom (w.heap.size+2) b→b<w5.heap.size→((((w5.setCell ⟨w.heap.size+1,2,none⟩ (.slice xa2 m.t.outs.length xc2)).setCell ⟨w.heap.size+1,3,none⟩ (.slice xa3 m.t.rels.length xc3)).setCell ⟨w.heap.size+1,4,none⟩ (.slice xa4 m.t.brs.length xc4)).setCell ⟨w.heap.size+1,5,none⟩ (.slice xa5 m.t.reads.length xc5)).heap[b]?=w5.heap[b]?:=fun b hb _=>hoth b (by have:w.heap.size+2≤b:=hb;omega)
  exact⟨h1.same ho (fun _ _ k=>k),h2.same ho (fun _ _ k=>k),h3.same ho (fun _ _ k=>k),h4.same ho (fun _ _ k=>k),h5⟩
 have HB6:Hid (Below w.heap.size w ((((w5.setCell ⟨w.heap.size+1,2,none⟩ (.slice xa2 m.t.outs.length xc2)).setCell ⟨w.heap.size+1,3,none⟩ (.slice xa3 m.t.rels.length xc3)).setCell ⟨w.heap.size+1,4,none⟩ (.slice xa4 m.t.brs.length xc4)).setCell ⟨w.heap.size+1,5,none⟩ (.slice xa5 m.t.reads.length xc5))):=(((HB5.out.setCell (by simp) _).setCell (by simp) _).setCell (by simp) _).setCell (by simp) _
 clear r2 r3 r4 r5 b1 b2 b3 b4 b5 B2 B3 B4 B5 k2 k3 k4 k5 R1 R2 R3 R4 G5 Z5 hoth HR5
 go_upto_region 5 with fail
 clear x2 x3 x4 x5 f2 f3 f4 f5
 generalize ((((w5.setCell ⟨w.heap.size+1,2,none⟩ (.slice xa2 m.t.outs.length xc2)).setCell ⟨w.heap.size+1,3,none⟩ (.slice xa3 m.t.rels.length xc3)).setCell ⟨w.heap.size+1,4,none⟩ (.slice xa4 m.t.brs.length xc4)).setCell ⟨w.heap.size+1,5,none⟩ (.slice xa5 m.t.reads.length xc5))=W6 at *
 have y0:=row_of HG6.out 0 (.int .u8 m.t.status) rfl
 have y1:=row_of HG6.out 1 (.int .i64 m.t.steps) rfl
 have y2:=row_of HG6.out 2 (.slice xa2 m.t.outs.length xc2) rfl
 have y3:=row_of HG6.out 3 (.slice xa3 m.t.rels.length xc3) rfl
 have y4:=row_of HG6.out 4 (.slice xa4 m.t.brs.length xc4) rfl
 have y5:=row_of HG6.out 5 (.slice xa5 m.t.reads.length xc5) rfl
 have z0:=row_of HZ6.out 0 (.int .u8 0) rfl
 have u0:=frozen_of_row W6 w.heap.size 0 _ _ HZ6.out
 have z1:=row_of HZ6.out 1 (.int .i64 0) rfl
 have u1:=frozen_of_row W6 w.heap.size 1 _ _ HZ6.out
 have z2:=row_of HZ6.out 2 (.slice none 0 0) rfl
 have u2:=frozen_of_row W6 w.heap.size 2 _ _ HZ6.out
 have z3:=row_of HZ6.out 3 (.slice none 0 0) rfl
 have u3:=frozen_of_row W6 w.heap.size 3 _ _ HZ6.out
 have z4:=row_of HZ6.out 4 (.slice none 0 0) rfl
 have u4:=frozen_of_row W6 w.heap.size 4 _ _ HZ6.out
 have z5:=row_of HZ6.out 5 (.slice none 0 0) rfl
 have u5:=frozen_of_row W6 w.heap.size 5 _ _ HZ6.out
 have HG7:Hid (((((((W6.setCell ⟨w.heap.size,0,none⟩ (.int .u8 m.t.status)).setCell ⟨w.heap.size,1,none⟩ (.int .i64 m.t.steps)).setCell ⟨w.heap.size,2,none⟩ (.slice xa2 m.t.outs.length xc2)).setCell ⟨w.heap.size,3,none⟩ (.slice xa3 m.t.rels.length xc3)).setCell ⟨w.heap.size,4,none⟩ (.slice xa4 m.t.brs.length xc4)).setCell ⟨w.heap.size,5,none⟩ (.slice xa5 m.t.reads.length xc5)).heap[w.heap.size]?=some (.cells #[.int .u8 m.t.status,.int .i64 m.t.steps,.slice xa2 m.t.outs.length xc2,.slice xa3 m.t.rels.length xc3,.slice xa4 m.t.brs.length xc4,.slice xa5 m.t.reads.length xc5] 52 (0,0))):=by
  show _=_
  rw[heap_setCell_same _ _ _ _ _ _ (heap_setCell_same _ _ _ _ _ _ (heap_setCell_same _ _ _ _ _ _ (heap_setCell_same _ _ _ _ _ _ (heap_setCell_same _ _ _ _ _ _ (heap_setCell_same _ _ _ _ _ _ HZ6.out)))))]
  rfl
 have hoth:∀ b,b≠w.heap.size→((((((W6.setCell ⟨w.heap.size,0,none⟩ (.int .u8 m.t.status)).setCell ⟨w.heap.size,1,none⟩ (.int .i64 m.t.steps)).setCell ⟨w.heap.size,2,none⟩ (.slice xa2 m.t.outs.length xc2)).setCell ⟨w.heap.size,3,none⟩ (.slice xa3 m.t.rels.length xc3)).setCell ⟨w.heap.size,4,none⟩ (.slice xa4 m.t.brs.length xc4)).setCell ⟨w.heap.size,5,none⟩ (.slice xa5 m.t.reads.length xc5)).heap[b]?=W6.heap[b]?:=fun b hb=>by
  rw[heap_setCell_other _ _ _ _ (by simpa using hb),heap_setCell_other _ _ _ _ (by simpa using hb),heap_setCell_other _ _ _ _ (by simpa using hb),heap_setCell_other _ _ _ _ (by simpa using hb),heap_setCell_other _ _ _ _ (by simpa using hb),heap_setCell_other _ _ _ _ (by simpa using hb)]
 have HR7:Hid (RdTrace (some (upFrom w.heap.size)) ((((((W6.setCell ⟨w.heap.size,0,none⟩ (.int .u8 m.t.status)).setCell ⟨w.heap.size,1,none⟩ (.int .i64 m.t.steps)).setCell ⟨w.heap.size,2,none⟩ (.slice xa2 m.t.outs.length xc2)).setCell ⟨w.heap.size,3,none⟩ (.slice xa3 m.t.rels.length xc3)).setCell ⟨w.heap.size,4,none⟩ (.slice xa4 m.t.brs.length xc4)).setCell ⟨w.heap.size,5,none⟩ (.slice xa5 m.t.reads.length xc5)) m.t (.slice xa2 m.t.outs.length xc2) (.slice xa3 m.t.rels.length xc3) (.slice xa4 m.t.brs.length xc4) (.slice xa5 m.t.reads.length xc5)):=by
  obtain⟨h1,h2,h3,h4,h5⟩:=HR6.out
  have ho:∀ b,upFrom (w.heap.size+2) b→b<W6.heap.size→((((((W6.setCell ⟨w.heap.size,0,none⟩ (.int .u8 m.t.status)).setCell ⟨w.heap.size,1,none⟩ (.int .i64 m.t.steps)).setCell ⟨w.heap.size,2,none⟩ (.slice xa2 m.t.outs.length xc2)).setCell ⟨w.heap.size,3,none⟩ (.slice xa3 m.t.rels.length xc3)).setCell ⟨w.heap.size,4,none⟩ (.slice xa4 m.t.brs.length xc4)).setCell ⟨w.heap.size,5,none⟩ (.slice xa5 m.t.reads.length xc5)).heap[b]?=W6.heap[b]?:=fun b hb _=>hoth b (by have:w.heap.size+2≤b:=hb;omega)
  have hup:∀ b,b<W6.heap.size→upFrom (w.heap.size+2) b→upFrom w.heap.size b:=fun b _ hb=>by have:w.heap.size+2≤b:=hb;show w.heap.size≤b;omega
  exact⟨h1.same ho hup,h2.same ho hup,h3.same ho hup,h4.same ho hup,h5⟩
 have HB7:Hid (Below w.heap.size w ((((((W6.setCell ⟨w.heap.size,0,none⟩ (.int .u8 m.t.status)).setCell ⟨w.heap.size,1,none⟩ (.int .i64 m.t.steps)).setCell ⟨w.heap.size,2,none⟩ (.slice xa2 m.t.outs.length xc2)).setCell ⟨w.heap.size,3,none⟩ (.slice xa3 m.t.rels.length xc3)).setCell ⟨w.heap.size,4,none⟩ (.slice xa4 m.t.brs.length xc4)).setCell ⟨w.heap.size,5,none⟩ (.slice xa5 m.t.reads.length xc5))):=(((((HB6.out.setCell (Nat.le_refl _) _).setCell (Nat.le_refl _) _).setCell (Nat.le_refl _) _).setCell (Nat.le_refl _) _).setCell (Nat.le_refl _) _).setCell (Nat.le_refl _) _
 clear hoth
 go_wp2
 try simp only[Exit.inBlock,Exit.then]
 refine bodyPost_ret (v:=traceV m.t (.slice xa2 m.t.outs.length xc2) (.slice xa3 m.t.rels.length xc3) (.slice xa4 m.t.brs.length xc4) (.slice xa5 m.t.reads.length xc5)) ?_ rfl ⟨_,_,_,_,rfl,HR7.out,HB7.out⟩
 exact results_cell_row (P:=Tryz.prog) (fn:=Tryz.f77) rfl _ _ w.heap.size 52 #[.int .u8 m.t.status,.int .i64 m.t.steps,.slice xa2 m.t.outs.length xc2,.slice xa3 m.t.rels.length xc3,.slice xa4 m.t.brs.length xc4,.slice xa5 m.t.reads.length xc5] (0,0) _ rfl HG7.out Tryz.underlying52 rfl (by as_aux_lemma=>kernel_rfl)
theorem Good.setR {f:FlatD} {m:MachD} (g:Good f m) (d v:Int) (hv:InU64 v):Good f (setR m d v):=
 ⟨by have:=g.regs;simpa[Go.Proofs.YtkjkpddajjmloaaGreatDoor.setR] using this,fun x hx=>by
  rcases List.mem_or_eq_of_mem_set hx with h|rfl
  ·exact g.rv x h
  ·exact hv,g.arrs,g.av,g.reads,g.rd,g.outs,g.rels,g.brs,g.ov,g.lv,g.st,g.steps⟩
theorem Good.endM {f:FlatD} {m:MachD} (g:Good f m) (s:Int) (hs:s=0 ∨ s=1):Good f (endM m s):=
 ⟨g.regs,g.rv,g.arrs,g.av,g.reads,g.rd,g.outs,g.rels,g.brs,g.ov,g.lv,by rcases hs with rfl|rfl;exact .inl rfl;exact .inr (.inl rfl),g.steps⟩
theorem Good.pc {f:FlatD} {m:MachD} (g:Good f m) (p:Int):Good f { m with pc:=p }:=
 ⟨g.regs,g.rv,g.arrs,g.av,g.reads,g.rd,g.outs,g.rels,g.brs,g.ov,g.lv,g.st,g.steps⟩
theorem Good.putA {f:FlatD} {m:MachD} (g:Good f m) (n i:Nat) (v:Int) (hv:InU64 v):Good f (putA m n i v):=
 ⟨g.regs,g.rv,by show (m.arrs.modify n fun l=>l.set i v).map List.length=_;rw[modify_len];exact g.arrs,fun l hl x hx=>by
  obtain⟨j,hj⟩:=List.getElem?_of_mem hl
  change (m.arrs.modify n fun l=>l.set i v)[j]?=some l at hj
  rw[List.getElem?_modify] at hj
  cases hq:m.arrs[j]? with
  | none=>rw[hq] at hj;simp at hj
  | some l0=>
   rw[hq] at hj
   simp only[Option.map_eq_map,Option.map_some,Option.some.injEq] at hj
   have hm:=List.mem_of_getElem? hq
   subst hj
   split at hx
   ·rcases List.mem_or_eq_of_mem_set hx with h|rfl
    ·exact g.av l0 hm x h
    ·exact hv
   ·exact g.av l0 hm x hx,g.reads,g.rd,g.outs,g.rels,g.brs,g.ov,g.lv,g.st,g.steps⟩
theorem elem_in {f:FlatD} {m:MachD} (g:Good f m) {c:CodeD} {x:Int} (h:elemM m c=some x):InU64 x:=by
 unfold elemM at h
 cases hq:m.arrs[c.n.toNat]? with
 | none=>rw[hq] at h;simp at h
 | some l=>rw[hq] at h;exact g.av l (List.mem_of_getElem? hq) x (List.mem_of_getElem? h)
theorem last_is {f:FlatD} (hh:HeadP f) {p:Nat} {c:CodeD} (hc:f.code[p]?=some c) (hl:p+1=f.code.length):c.kind=9 ∨ c.kind=7:=by
 have:=hh.last
 unfold lastK at this
 rw[List.getLast?_eq_getElem?,← hl,Nat.add_sub_cancel,hc] at this
 exact this
theorem mod_inU (n:Nat) (h:n≤64) (a:Int):InU64 (a%2 ^ n):=by
 obtain⟨h0,h1,h2⟩:=mod_in n h a
 exact⟨h0,by omega⟩
theorem step_good {f:FlatD} {ins:List (List Int)} {m:MachD} (hh:HeadP f) (hci:∀ c∈f.code,CodeIn c) (g:Good f m) (hp0:0≤m.pc) (hp1:m.pc<f.code.length) :
  Good f (stepM f ins m)∧0≤(stepM f ins m).pc∧(stepM f ins m).pc<f.code.length:=by
 by_cases hs:m.t.status=2
 ·obtain⟨p,hp⟩:∃ p:Nat,m.pc=p:=⟨m.pc.toNat,by omega⟩
  obtain⟨c,hc⟩:∃ c,f.code[p]?=some c:=⟨_,lgMMm (by omega)⟩
  have hm:=List.mem_of_getElem? hc
  have hcp:=codeP (hh.codes c hm)
  obtain⟨i1,i2,i3,i4,i5,i6,i7,i8⟩:=hci c hm
  have hlast:=last_is hh hc
  rw[stepM,if_pos hs,hp,Int.toNat_natCast,hc]
  show Good f (doM f ins c (tickM m) c.kind.toNat)∧0≤(doM f ins c (tickM m) c.kind.toNat).pc∧(doM f ins c (tickM m) c.kind.toNat).pc<f.code.length
  have g1:=good_tick g
  have hpc:(tickM m).pc=p+1:=by simp only[tickM];omega
  have hrn:∀ x∈(tickM m).t.reads,0≤x∧x+1≤(tickM m).t.steps:=fun x hx=>by have:=g.rd x hx;simp only[tickM];omega
  have hon:((tickM m).t.outs.length:Int)+1≤(tickM m).t.steps:=by have:=g.outs;simp only[tickM];omega
  have hln:((tickM m).t.rels.length:Int)+1≤(tickM m).t.steps:=by have:=g.rels;simp only[tickM];omega
  have hbn:((tickM m).t.brs.length:Int)+1≤(tickM m).t.steps:=by have:=g.brs;simp only[tickM];omega
  generalize tickM m=m1 at *
  have hw:f.width.toNat≤64:=by have:=hh.w2;omega
  have hreg:=g1.regs
  have hk:c.kind=0 ∨ c.kind=1 ∨ c.kind=2 ∨ c.kind=3 ∨ c.kind=4 ∨ c.kind=5 ∨ c.kind=6 ∨ c.kind=7 ∨ c.kind=8 ∨ c.kind=9:=by have:=hcp.kind;have:=i1.1;omega
  have hn1:=hcp.n1
  have ha:=hcp.a
  have hb:=hcp.b
  have hn0:=hcp.n0
  rcases hk with e|e|e|e|e|e|e|e|e|e <;> rw[e] at ha hb hn1 hlast <;> rw[show c.kind.toNat=_ from by rw[e]]
  ·have va:=valM_in (refIn_of hh g1 ha i5 i6 (.inl rfl)) g1.rv
   exact⟨g1.setR _ _ va,by show 0≤m1.pc;omega,by show m1.pc<_;omega⟩
  ·exact⟨g1.setR _ _ (mod_inU _ hw _),by show 0≤m1.pc;omega,by show m1.pc<_;omega⟩
  ·change Good f (match elemM m1 c with|some x=>setR m1 c.dst x|none=>endM m1 1)∧0≤(match elemM m1 c with|some x=>setR m1 c.dst x|none=>endM m1 1).pc∧(match elemM m1 c with|some x=>setR m1 c.dst x|none=>endM m1 1).pc<_
   cases hq:elemM m1 c with
   | some x=>exact⟨g1.setR _ _ (elem_in g1 hq),by show 0≤m1.pc;omega,by show m1.pc<_;omega⟩
   | none=>exact⟨g1.endM 1 (.inr rfl),by show 0≤m1.pc-1;omega,by show m1.pc-1<_;omega⟩
  ·have vb:=valM_in (refIn_of hh g1 hb i7 i8 (.inl rfl)) g1.rv
   change Good f (match elemM m1 c with|some _=>putA m1 c.n.toNat (valM m1 c.a).toNat (valM m1 c.b)|none=>endM m1 1)∧0≤(match elemM m1 c with|some _=>putA m1 c.n.toNat (valM m1 c.a).toNat (valM m1 c.b)|none=>endM m1 1).pc∧(match elemM m1 c with|some _=>putA m1 c.n.toNat (valM m1 c.a).toNat (valM m1 c.b)|none=>endM m1 1).pc<_
   cases hq:elemM m1 c with
   | some x=>exact⟨g1.putA _ _ _ vb,by show 0≤m1.pc;omega,by show m1.pc<_;omega⟩
   | none=>exact⟨g1.endM 1 (.inr rfl),by show 0≤m1.pc-1;omega,by show m1.pc-1<_;omega⟩
  ·have hr:m1.t.reads.getD c.n.toNat 0+1≤m1.t.steps∧0≤m1.t.reads.getD c.n.toNat 0:=by
    rw[List.getD_eq_getElem?_getD]
    cases hq:m1.t.reads[c.n.toNat]? with
    | none=>have:=g1.reads;have:c.n<(f.chans.length:Int):=hn1;rw[List.getElem?_eq_none_iff] at hq;omega
    | some x=>have:=hrn x (List.mem_of_getElem? hq);simp only[Option.getD_some];omega
   have g2:Good f { m1 with t:={ m1.t with reads:=m1.t.reads.set c.n.toNat (m1.t.reads.getD c.n.toNat 0+1) } }:=
    ⟨g1.regs,g1.rv,g1.arrs,g1.av,by have:=g1.reads;simpa using this,fun x hx=>by
     rcases List.mem_or_eq_of_mem_set hx with h|rfl
     ·exact g1.rd x h
     ·show 0≤_∧_≤m1.t.steps;omega,g1.outs,g1.rels,g1.brs,g1.ov,g1.lv,g1.st,g1.steps⟩
   refine⟨g2.setR _ _ ?_,by show 0≤m1.pc;omega,by show m1.pc<_;omega⟩
   split
   ·exact mod_inU _ hw _
   ·exact⟨by decide,by decide⟩
  ·have va:=valM_in (refIn_of hh g1 ha i5 i6 (.inl rfl)) g1.rv
   refine⟨⟨g1.regs,g1.rv,g1.arrs,g1.av,g1.reads,g1.rd,by show ((m1.t.outs++[_]).length:Int)≤m1.t.steps;rw[List.length_append,List.length_singleton];omega,g1.rels,g1.brs,fun x hx=>?_,g1.lv,g1.st,g1.steps⟩,by show 0≤m1.pc;omega,by show m1.pc<_;omega⟩
   rcases List.mem_append.1 hx with h|h
   ·exact g1.ov x h
   ·rw[List.mem_singleton] at h;subst h;exact⟨i4,va⟩
  ·have va:=valM_in (refIn_of hh g1 ha i5 i6 (.inl rfl)) g1.rv
   have g2:Good f { m1 with t:={ m1.t with rels:=m1.t.rels++[⟨c.n,valM m1 c.a⟩] } }:=by
    refine⟨g1.regs,g1.rv,g1.arrs,g1.av,g1.reads,g1.rd,g1.outs,by show ((m1.t.rels++[_]).length:Int)≤m1.t.steps;rw[List.length_append,List.length_singleton];omega,g1.brs,g1.ov,fun x hx=>?_,g1.st,g1.steps⟩
    rcases List.mem_append.1 hx with h|h
    ·exact g1.lv x h
    ·rw[List.mem_singleton] at h;subst h;exact⟨i4,va⟩
   exact⟨g2.setR _ _ va,by show 0≤m1.pc;omega,by show m1.pc<_;omega⟩
  ·have hn2:c.n<(f.code.length:Int):=hn1
   exact⟨g1.pc _,hn0,hn2⟩
  ·have hn2:c.n<(f.code.length:Int):=hn1
   refine⟨⟨g1.regs,g1.rv,g1.arrs,g1.av,g1.reads,g1.rd,g1.outs,g1.rels,by show ((m1.t.brs++[_]).length:Int)≤m1.t.steps;rw[List.length_append,List.length_singleton];omega,g1.ov,g1.lv,g1.st,g1.steps⟩,?_,?_⟩
   ·show 0≤(if valM m1 c.a=0 then m1.pc else c.n);split <;> omega
   ·show (if valM m1 c.a=0 then m1.pc else c.n)<_;split <;> omega
  ·exact⟨g1.endM 0 (.inl rfl),by show 0≤m1.pc-1;omega,by show m1.pc-1<_;omega⟩
 ·rw[stepM,if_neg hs];exact⟨g,hp0,hp1⟩
end Go.Proofs.YtkjkpddajjmloaaGreatDoor
