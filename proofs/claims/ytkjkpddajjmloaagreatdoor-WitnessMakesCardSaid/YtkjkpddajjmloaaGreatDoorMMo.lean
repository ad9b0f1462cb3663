/- Plain lemmas on what New of the program lays: its inputs, its arrays, and the run before its first step. Conditions: where the parts lie. -/
import Derived.Test.YtkjkpddajjmloaaGreatDoorMMm
import Derived.Test.YtkjkpddajjmloaaGreatDoorMFc
import Derived.Test.YtkjkpddajjmloaaGreatDoorOwn
set_option linter.all false
set_option maxRecDepth 1000000
set_option maxHeartbeats 6400000
namespace Go.Proofs.YtkjkpddajjmloaaGreatDoor
open Go.ChangeShapes Go.WideShapes Go.ChangeAt Go.RowKit
open Go.Lib (hid)
theorem gsMMo {α:Type} {a:Array α} {i:Nat} {v:α} (h:a[i]?=some v):i<a.size:=(Array.getElem?_eq_some_iff.1 h).1
theorem lgMMo {α:Type} {l:List α} {i:Nat} (h:i<l.length):l[i]?=some l[i]:=List.getElem?_eq_getElem h
theorem RdRow.inside {α:Type} {K:Kind α} {n:Nat} {w:World} {v:Value} {l:List α} (h:RdRow K (some (upFrom n)) w v l):RdRow K (some (within n w.heap.size)) w v l:=RdRow.same h (fun _ _ _=>rfl) (fun _ hb hg=>⟨hg,hb⟩)
theorem Turn.below {B:Nat→Prop} {a w w':World} (t:Turn B w w') (h:Below a.heap.size a w) (k:∀ b,B b→a.heap.size≤b):Below a.heap.size a w':=
 ⟨t.os.trans h.os,t.tape.trans h.tape,t.output.trans h.output,Nat.le_trans h.size t.size,fun b hb=>(t.block b (Nat.lt_of_lt_of_le hb h.size) (fun e=>by have:=k b e;omega)).trans (h.block b hb)⟩
theorem Turn.grownUp {B:Nat→Prop} {w w1 w':World} {row:Option Nat} (h:Turn B w w1) (g:w1.grownBy w' row) (hr:∀ b,row=some b→w.heap.size≤b):Turn B w w':=
 ⟨g.os.trans h.os,g.tape.trans h.tape,g.output.trans h.output,Nat.le_trans h.size g.size,fun b hb hB=>(g.block b (Nat.lt_of_lt_of_le hb h.size) (fun e=>by have:=hr b e.symm;omega)).trans (h.block b hb hB)⟩
def LaidIn (ib lo n:Nat) (L:List (List Int)) (k:Nat) (w:World):Prop:=
 ∃ vs:List Value,vs.length=k∧w.heap[ib]?=some (.cells (vs++List.replicate (n-k) (Value.slice none 0 0)).toArray 61 (0,0))∧∀ (j:Nat) (v:Value) (l:List Int),vs[j]?=some v→L[j]?=some l→RdRow kNum (some (within lo w.heap.size)) w v l
theorem LaidIn.step {ib lo n:Nat} {L:List (List Int)} {k:Nat} {w w1:World} {v:Value} {l:List Int} (h:LaidIn ib lo n L k w) (hb:Below w.heap.size w w1) (hlo:ib<lo) (hlw:lo≤w.heap.size) (hk:k<n) (hl:L[k]?=some l) (hv:RdRow kNum (some (upFrom w.heap.size)) w1 v l):LaidIn ib lo n L (k+1) (w1.setCell ⟨ib,k,none⟩ v):=by
 obtain⟨vs,rfl,hr,hx⟩:=h
 have hr1:=(hb.block _ (gsMMo hr)).trans hr
 have hoth:∀ b,within lo w1.heap.size b→b<w1.heap.size→(w1.setCell ⟨ib,vs.length,none⟩ v).heap[b]?=w1.heap[b]?:=fun b hb' _=>heap_setCell_other _ _ _ _ (by have:=hb'.1;show b≠ib;omega)
 have hsz:(w1.setCell ⟨ib,vs.length,none⟩ v).heap.size=w1.heap.size:=by simp
 refine⟨vs++[v],by simp,?_,?_⟩
 ·rw[heap_setCell_same _ _ _ _ _ _ hr1]
  congr 2
  obtain⟨m,hm⟩:∃ m,n-vs.length=m+1:=⟨n-vs.length-1,by omega⟩
  rw[show n-(vs.length+1)=m by omega,hm,List.replicate_succ]
  simp
 ·intro j u l' hj hl'
  rw[hsz]
  rw[List.getElem?_append] at hj
  split at hj
  ·exact ((hx j u l' hj hl').keep hb).same (fun b hb' hlt=>hoth b ⟨hb'.1,hlt⟩ hlt) (fun b hlt hb'=>⟨hb'.1,hlt⟩)
  ·have hj0:j=vs.length:=by
    rcases Nat.lt_or_ge (j-vs.length) 1 with h1|h1
    ·omega
    ·rw[List.getElem?_eq_none (by simpa using h1)] at hj;cases hj
   subst hj0
   simp only[Nat.sub_self,List.getElem?_cons_zero,Option.some.injEq] at hj
   subst hj
   rw[hl] at hl'
   cases hl'
   exact hv.same (fun b hb' hlt=>hoth b ⟨by have:w.heap.size≤b:=hb';omega,hlt⟩ hlt) (fun b hlt hb'=>⟨by have:w.heap.size≤b:=hb';omega,hlt⟩)
structure MadeArr (lo:Nat) (A:List Int) (k:Nat) (w:World) (av:Value) (bs:List Nat):Prop where
 len:bs.length=k
 own:w.ownsRow lo 61 1 av k ((bs.zip ((A.take k).map Int.toNat)).flatMap kSlc.cells)
 rows:∀ (i:Nat) (b:Nat) (n:Int),bs[i]?=some b→A[i]?=some n→w.heap[b]?=some (.cells (u64s (List.replicate n.toNat 0)) 58 (0,0))
 from_:∀ b∈bs,lo≤b
 nodup:bs.Nodup
theorem MadeArr.step {lo:Nat} {A:List Int} {k:Nat} {w w2 w4:World} {av v':Value} {bs:List Nat} (h:MadeArr lo A k w av bs) (hb:Below w.heap.size w w2) {x n:Nat} (hx0:w.heap.size≤x) (hx:w2.heap[x]?=some (.cells (u64s (List.replicate n 0)) 58 (0,0))) (hn:A[k]?=some (n:Int)) (hlo:lo≤w.heap.size)
  (hown:w4.ownsRow lo 61 1 v' (k+1) (((bs.zip ((A.take k).map Int.toNat)).flatMap kSlc.cells)++kSlc.cells (x,n))) (hg:w2.grownBy w4 av.ownBlock) {bm:Nat} (hbm:bm<lo) (c:Nat) (u:Value):MadeArr lo A (k+1) (w4.setCell ⟨bm,c,none⟩ u) v' (bs++[x]):=by
 have hs:∀ b,lo≤b→(w4.setCell ⟨bm,c,none⟩ u).heap[b]?=w4.heap[b]?:=fun b hb'=>heap_setCell_other _ _ _ _ (by show b≠bm;omega)
 have hk:∀ b cs,w2.heap[b]?=some (.cells cs 58 (0,0))→lo≤b→(w4.setCell ⟨bm,c,none⟩ u).heap[b]?=some (.cells cs 58 (0,0)):=fun b cs hb' hl=>by
  rw[hs b hl,hg.block b (gsMMo hb') (fun e=>by obtain⟨cs',hr⟩:=own_row (own_below h.own hb) e.symm;exact row_ne hb' hr (by decide) rfl)];exact hb'
 refine⟨by simp[h.len],?_,?_,?_,?_⟩
 ·have e:((bs++[x]).zip ((A.take (k+1)).map Int.toNat)).flatMap kSlc.cells=((bs.zip ((A.take k).map Int.toNat)).flatMap kSlc.cells)++kSlc.cells (x,n):=by
   rw[List.take_add_one,hn,List.map_append,List.zip_append]
   ·simp
   ·have:=(List.getElem?_eq_some_iff.1 hn).1
    rw[h.len,List.length_map,List.length_take];omega
  rw[e]
  exact own_same hown fun b hb'=>hs b (own_row_le hown b hb')
 ·intro i b m hi hm
  rw[List.getElem?_append] at hi
  split at hi
  ·exact hk b _ ((hb.block b (Array.getElem?_eq_some_iff.1 (h.rows i b m hi hm)).1).trans (h.rows i b m hi hm)) (h.from_ b (List.mem_of_getElem? hi))
  ·have hj:i=bs.length:=by
    rcases Nat.lt_or_ge (i-bs.length) 1 with h1|h1
    ·omega
    ·rw[List.getElem?_eq_none (by simpa using h1)] at hi;cases hi
   subst hj
   simp only[Nat.sub_self,List.getElem?_cons_zero,Option.some.injEq] at hi
   subst hi
   rw[h.len,hn] at hm
   cases hm
   exact hk x _ hx (by omega)
 ·intro b hb'
  rcases List.mem_append.1 hb' with h1|h1
  ·exact h.from_ b h1
  ·simp at h1;omega
 ·rw[List.nodup_append]
  refine⟨h.nodup,by simp,fun a ha b hb' e=>?_⟩
  simp only[List.mem_singleton] at hb'
  obtain⟨i,hi⟩:=List.getElem?_of_mem ha
  have hil:i<A.length:=by have:=(List.getElem?_eq_some_iff.1 hi).1;have:=h.len;have:=(List.getElem?_eq_some_iff.1 hn).1;omega
  have:=(Array.getElem?_eq_some_iff.1 (h.rows i a _ hi (List.getElem?_eq_getElem hil))).1
  omega
theorem own_block {α:Type} {K:Kind α} {w:World} {base:Nat} {v:Value} {l:List α} (h:w.ownsRow base K.T K.sz v l.length (l.flatMap K.cells)) (hl:l.length*K.bytes≤140737488351232) (hs:∀ s∈l,K.ok s):RdRow K (some fun b=>v.ownBlock=some b) w v l:=by
 obtain⟨a,c,rfl,hc,hr⟩:=own_rows h hl hs
 refine⟨a,c,rfl,hc,fun i x hx=>?_⟩
 obtain⟨b,o,rfl,hf,h0,hz⟩:=hr i x hx
 obtain⟨g1,cs,g2⟩:=hf _ rfl
 exact⟨b,o,rfl,Free.of rfl g2,h0,hz⟩
theorem new_at {W:World} {f:FlatD} {L:List (List Int)} {c8 c9 c10 kv av:Value} {bs:List Nat} {vs:List Value} {a s2 s3 s8 s9 gb ib db bm rg:Nat} (hC:RdRow kCode (some (within s2 s3)) W kv f.code)
  (hib:W.heap[ib]?=some (.cells (vs++List.replicate (f.chans.length-L.length) (Value.slice none 0 0)).toArray 61 (0,0))) (hvl:vs.length=L.length) (hn:L.length≤f.chans.length) (hcl:f.chans.length≤1000000)
  (hvs:∀ (j:Nat) (v:Value) (l:List Int),vs[j]?=some v→L[j]?=some l→RdRow kNum (some (within s8 s9)) W v l)
  (hg:W.heap[gb]?=some (.cells (u64s (List.replicate rg 0)) 58 (0,0))) (hrg:f.regs.toNat=rg) (hd:W.heap[db]?=some (.cells (i64s (List.replicate f.chans.length 0)) 3 (0,0)))
  (hm:MadeArr s9 f.arrays f.arrays.length W av bs) (hal:f.arrays.length≤1000000)
  (hb:W.heap[bm]?=some (.cells #[.int .u8 2,.int .i64 0,.slice none 0 0,.slice none 0 0,.slice none 0 0,.slice (some ⟨db,0,none⟩) f.chans.length f.chans.length,.int .i64 f.width,.int .i64 f.regs,c8,c9,c10,kv,.slice (some ⟨ib,0,none⟩) f.chans.length f.chans.length,.slice (some ⟨gb,0,none⟩) rg rg,av,.int .i64 0,.bool false] 183 (0,0)))
  (h1:a≤s2) (h2:s2≤s3) (h3:s3≤gb∧s3≤ib∧s3≤db∧s3≤bm) (h8:gb<s8∧ib<s8∧db<s8∧bm<s8) (h9:s8≤s9) (h10:s9≤W.heap.size) :
  MachIn (fun b=>a≤b∧b<W.heap.size) W bm f (L++List.replicate (f.chans.length-L.length) []) (newM f):=by
 subst hrg
 have hown:=fun b (e:av.ownBlock=some b)=>And.intro (own_row_le hm.own b e) (own_lt hm.own b e)
 have hnb:∀ b∈bs,(s9≤b∧b<W.heap.size)∧av.ownBlock≠some b:=by
  intro b hb'
  obtain⟨i,hi⟩:=List.getElem?_of_mem hb'
  have hil:i<f.arrays.length:=by have:=(List.getElem?_eq_some_iff.1 hi).1;have:=hm.len;omega
  have hr:=hm.rows i b _ hi (List.getElem?_eq_getElem hil)
  exact⟨⟨hm.from_ b hb',(gsMMo hr)⟩,fun e=>by obtain⟨cs',hr'⟩:=own_row hm.own e;exact row_ne hr hr' (by decide) rfl⟩
 have hlt:=(gsMMo hib)
 have hlen:(newM f).arrs.length=f.arrays.length:=by simp[newM]
 refine⟨fun b=>within s2 s3 b ∨ b=ib ∨ within s8 s9 b ∨ av.ownBlock=some b,c8,c9,c10,kv,.slice (some ⟨ib,0,none⟩) f.chans.length f.chans.length,av,.slice none 0 0,.slice none 0 0,.slice none 0 0,gb,db,bs,?_,?_,?_⟩
 ·refine⟨?_,?_,?_,?_,?_,?_,?_,?_,?_,?_,World.ownsRow_nil _ _ _ _,World.ownsRow_nil _ _ _ _,World.ownsRow_nil _ _ _ _,?_⟩
  ·rintro b (⟨k1,k2⟩|rfl|⟨k1,k2⟩|e)
   ·exact⟨by omega,by omega⟩
   ·exact⟨by omega,by omega⟩
   ·exact⟨by omega,by omega⟩
   ·have:=hown b e;exact⟨by omega,by omega⟩
  ·exact hC.same (fun _ _ _=>rfl) (fun b _ hb'=>.inl hb')
  ·refine⟨some ⟨ib,0,none⟩,f.chans.length,?_,?_,fun i l hl=>?_⟩
   ·rw[show (L++List.replicate (f.chans.length-L.length) ([]:List Int)).length=f.chans.length by simp;omega]
   ·simp;omega
   ·have hil:=(List.getElem?_eq_some_iff.1 hl).1
    simp only[List.length_append,List.length_replicate] at hil
    refine⟨ib,0,(vs++List.replicate (f.chans.length-L.length) (Value.slice none 0 0)).getD i (.slice none 0 0),rfl,Free.of (.inr (.inl rfl)) hib,?_,?_⟩
    ·refine row_of hib (0+i) _ ?_
     rw[Nat.zero_add,List.getElem?_toArray,List.getD_eq_getElem?_getD,List.getElem?_eq_getElem (by simp;omega)];rfl
    ·rw[List.getElem?_append] at hl
     rw[List.getD_eq_getElem?_getD,List.getElem?_append]
     split at hl
     ·rename_i hc
      rw[if_pos (by omega),List.getElem?_eq_getElem (by omega)]
      exact (hvs i _ l (List.getElem?_eq_getElem (by omega)) hl).same (fun _ _ _=>rfl) (fun b _ hb'=>.inr (.inr (.inl hb')))
     ·rename_i hc
      rw[List.getElem?_replicate] at hl
      split at hl
      ·cases hl
       rw[if_neg (by omega),List.getElem?_replicate,if_pos (by omega)]
       exact⟨none,0,rfl,⟨by simp,by simp⟩,fun i x hx=>by simp at hx⟩
      ·cases hl
  ·exact hg
  ·exact hd
  ·have he:(newM f).arrs.map List.length=(f.arrays.take f.arrays.length).map Int.toNat:=by
    rw[List.take_length];simp[newM,Function.comp_def]
   rw[he]
   have hz:(bs.zip ((f.arrays.take f.arrays.length).map Int.toNat)).length=f.arrays.length:=by simp[hm.len]
   have hmo:=hm.own
   rw[← hz] at hmo
   refine (own_block (K:=kSlc) (base:=s9) ?_ (by rw[hz];show f.arrays.length*24≤_;omega) (fun _ _=>trivial)).same (fun _ _ _=>rfl) (fun b _ hb'=>.inr (.inr (.inr hb')))
   rw[hz] at hmo ⊢
   exact hmo
  ·intro i b l hi hl
   simp only[newM,List.getElem?_map,Option.map_eq_some_iff] at hl
   obtain⟨n,hn',rfl⟩:=hl
   exact hm.rows i b n hi hn'
  ·rw[hlen,hm.len]
  ·exact List.nodup_cons.2 ⟨fun hb'=>by have:=(hnb gb hb').1.1;omega,hm.nodup⟩
  ·refine⟨⟨by omega,(gsMMo hg)⟩,?_,⟨by omega,(gsMMo hd)⟩,?_,fun b hb'=>⟨⟨by have:=(hnb b hb').1;omega,(hnb b hb').1.2⟩,?_⟩⟩
   ·rintro (⟨k1,k2⟩|e|⟨k1,k2⟩|e)
    ·omega
    ·exact row_ne hg hib (by decide) e
    ·omega
    ·have:=hown _ e;omega
   ·rintro (⟨k1,k2⟩|e|⟨k1,k2⟩|e)
    ·omega
    ·exact row_ne hd hib (by decide) e
    ·omega
    ·have:=hown _ e;omega
   ·have:=hnb b hb'
    rintro (⟨k1,k2⟩|e|⟨k1,k2⟩|e)
    ·omega
    ·omega
    ·omega
    ·exact this.2 e
  ·exact⟨fun b e=>by simp[Value.ownBlock] at e,fun b e=>by simp[Value.ownBlock] at e,fun b e=>by simp[Value.ownBlock] at e⟩
 ·rw[hb];simp[cellsP,newM]
 ·refine⟨⟨by omega,(gsMMo hb)⟩,?_⟩
  rintro (⟨k1,k2⟩|e|⟨k1,k2⟩|e)
  ·omega
  ·exact row_ne hb hib (by decide) e
  ·omega
  ·have:=hown _ e;omega
theorem made_rep {α:Type} (z:Value) (g:α→Value) (x:α) (hz:g x=z) (n:Nat):madeCells #[z] (n*1)=((List.replicate n x).map g).toArray:=by
 rw[Nat.mul_one,List.map_replicate,hz]
 apply Array.ext_getElem?
 intro i
 simp only[madeCells,Array.getElem?_map,Array.getElem?_range,List.getElem?_toArray,List.getElem?_replicate]
 split
 ·simp[Nat.mod_one]
 ·rfl
theorem infoNumS:(Tryz.prog.info? 61).map (fun i=>(i.zero,i.size,i.bytes))=some (some (.slice none 0 0),1,24):=by kernel_rfl
theorem makeNums (n:Nat) (h:n≤2097152) (w:World):(Instr.makeSlice 61 (.int .i64 n) (.int .i64 n)).run Tryz.prog w=.ok (.slice (some ⟨w.heap.size,0,none⟩) n n) (w.alloc (.cells (u64s (List.replicate n 0)) 58)):=by
 obtain⟨i0,hi,hz0,hz1,hz2⟩:=info_parts infoNum
 have:=run_make (P:=Tryz.prog) w 61 58 i0 (.int .u64 0) Tryz.underlying61 hi hz0 .i64 .i64 n n (by omega) (Int.le_refl _) (by rw[hz2];omega) (by omega)
 rw[hz1,Int.toNat_natCast,show (Value.int .u64 0).cells=#[Value.int .u64 0] from rfl,made_rep (Value.int .u64 0) (fun x:Int=>Value.int .u64 x) 0 rfl] at this
 exact this
theorem makeInts (n:Nat) (h:n≤2097152) (w:World):(Instr.makeSlice 23 (.int .i64 n) (.int .i64 n)).run Tryz.prog w=.ok (.slice (some ⟨w.heap.size,0,none⟩) n n) (w.alloc (.cells (i64s (List.replicate n 0)) 3)):=by
 obtain⟨i0,hi,hz0,hz1,hz2⟩:=info_parts infoInt
 have:=run_make (P:=Tryz.prog) w 23 3 i0 (.int .i64 0) Tryz.underlying23 hi hz0 .i64 .i64 n n (by omega) (Int.le_refl _) (by rw[hz2];omega) (by omega)
 rw[hz1,Int.toNat_natCast,show (Value.int .i64 0).cells=#[Value.int .i64 0] from rfl,made_rep (Value.int .i64 0) (fun x:Int=>Value.int .i64 x) 0 rfl] at this
 exact this
theorem makeLists (n:Nat) (h:n≤2097152) (w:World):(Instr.makeSlice 35 (.int .i64 n) (.int .i64 n)).run Tryz.prog w=.ok (.slice (some ⟨w.heap.size,0,none⟩) n n) (w.alloc (.cells (List.replicate n (Value.slice none 0 0)).toArray 61)):=by
 obtain⟨i0,hi,hz0,hz1,hz2⟩:=info_parts infoNumS
 have:=run_make (P:=Tryz.prog) w 35 61 i0 (.slice none 0 0) Tryz.underlying35 hi hz0 .i64 .i64 n n (by omega) (Int.le_refl _) (by rw[hz2];omega) (by omega)
 rw[hz1,Int.toNat_natCast,show (Value.slice none 0 0).cells=#[Value.slice none 0 0] from rfl,made_rep (Value.slice none 0 0) id (Value.slice none 0 0) rfl,List.map_id] at this
 exact this
theorem machNewBad (f:FlatD) (cv sv av kv:Value) (ia:Option Addr) (n ic:Nat) (w:World) (hF:RdFlat none w f cv sv av kv) (hL:Laid w) (hn:n≤1000000) (hb:flatOk f=false ∨ f.chans.length<n) :
  Calls Tryz.prog 75 #[flatV f cv sv av kv,.slice ia n ic] w fun e w'=>e=.returned (.tuple #[.pointer none,.int .i64 (if flatOk f then 5 else 2)])∧Below w.heap.size w w':=by
 obtain⟨r,hr⟩:∃ r:Int,(if flatOk f=true then (5:Int) else 2)=r:=⟨_,rfl⟩
 rw[hr]
 obtain⟨ca,cc,rfl⟩:=hF.1.is
 obtain⟨sa,sc,rfl⟩:=hF.2.1.is
 obtain⟨aa,ac,rfl⟩:=hF.2.2.1.is
 obtain⟨ka,kc,rfl⟩:=hF.2.2.2.1.is
 have hcl:f.chans.length*16≤140737488351232:=hF.1.size
 have hal:=(Below.refl w.heap.size w).alloc (Nat.le_refl _) (.cells #[.int .i64 f.width,.int .i64 f.regs,.slice ca f.chans.length cc,.slice sa f.sites.length sc,.slice aa f.arrays.length ac,.slice ka f.code.length kc] 26)
 have hg:=heap_alloc_new w (.cells #[.int .i64 f.width,.int .i64 f.regs,.slice ca f.chans.length cc,.slice sa f.sites.length sc,.slice aa f.arrays.length ac,.slice ka f.code.length kc] 26)
 have HF:=hid (hF.keep hal)
 have HL:=hid (hL.keep hal)
 clear hF hL
 go_enter Tryz.func75,Tryz.ntmps75
 go_upto_region 1 with fail
 have HB:=hid hal
 have HG:=hid hg
 have y0:=row_of hg 0 (.int .i64 f.width) rfl
 have y1:=row_of hg 1 (.int .i64 f.regs) rfl
 have y2:=row_of hg 2 (.slice ca f.chans.length cc) rfl
 have y3:=row_of hg 3 (.slice sa f.sites.length sc) rfl
 have y4:=row_of hg 4 (.slice aa f.arrays.length ac) rfl
 have y5:=row_of hg 5 (.slice ka f.code.length kc) rfl
 clear hal hg
 generalize w.alloc (.cells #[.int .i64 f.width,.int .i64 f.regs,.slice ca f.chans.length cc,.slice sa f.sites.length sc,.slice aa f.arrays.length ac,.slice ka f.code.length kc] 26)=W at *
 have HC:=hid (flatCheck f _ _ _ _ W HF.out HL.out)
 cases hok:flatOk f <;> rw[hok] at hr
 ·have he:flatE f=2:=by rw[flatE,hok];rfl
  rw[he] at HC
  obtain rfl:r=2:=hr.symm
  clear he hok hb hr
  go_wp2_with (go_at_call 45;refine HC.out.mono ?_;rintro e w2 ⟨rfl,hb2⟩)
  go_ret2
  exact⟨rfl,bcomp HB.out hb2⟩
 ·have he:flatE f=0:=by rw[flatE,hok];rfl
  rw[he] at HC
  have hlt:(f.chans.length:Int)<(n:Int):=by rcases hb with h|h;exact absurd hok (by rw[h];decide);omega
  obtain rfl:r=5:=hr.symm
  clear he hok hb hr
  go_upto_region 2 with (go_at_call 45;refine HC.out.mono ?_;rintro e w2 ⟨rfl,hb2⟩)
  trace_state
  have z2:=cell_keep hb2 y2
  clear y2
  go_wp2
  go_ret2
  exact⟨rfl,bcomp HB.out hb2⟩
theorem machNew (f:FlatD) (cv sv av kv iv:Value) (L:List (List Int)) (w:World) (hF:RdFlat none w f cv sv av kv) (hI:RdLists none w iv L) (hL:Laid w) (hok:flatOk f=true) (hn:L.length≤f.chans.length) :
  Calls Tryz.prog 75 #[flatV f cv sv av kv,iv] w fun e w'=>∃ bm,e=.returned (.tuple #[.pointer (some ⟨bm,0,none⟩),.int .i64 0])∧MachIn (fun b=>w.heap.size≤b∧b<w'.heap.size) w' bm f (L++List.replicate (f.chans.length-L.length) []) (newM f)∧Below w.heap.size w w':=by
 have hh:=headP hok
 obtain⟨ca,cc,rfl⟩:=hF.1.is
 obtain⟨sa,sc,rfl⟩:=hF.2.1.is
 obtain⟨aa,ac,rfl⟩:=hF.2.2.1.is
 obtain⟨ka,kc,rfl⟩:=hF.2.2.2.1.is
 obtain⟨ia,ic,rfl⟩:=hI.is
 obtain⟨rg,hrg⟩:∃ rg:Nat,f.regs=rg:=⟨f.regs.toNat,by have:=hh.r0;omega⟩
 have hrg1:rg≤2097152:=by have:=hh.r1;omega
 have hcl1:f.chans.length≤32:=hh.chans
 have hrt:f.regs.toNat=rg:=by omega
 have hal:=(Below.refl w.heap.size w).alloc (Nat.le_refl _) (.cells #[.int .i64 f.width,.int .i64 f.regs,.slice ca f.chans.length cc,.slice sa f.sites.length sc,.slice aa f.arrays.length ac,.slice ka f.code.length kc] 26)
 have hg:=heap_alloc_new w (.cells #[.int .i64 f.width,.int .i64 f.regs,.slice ca f.chans.length cc,.slice sa f.sites.length sc,.slice aa f.arrays.length ac,.slice ka f.code.length kc] 26)
 have HF:=hid (hF.keep hal)
 have HL:=hid (hL.keep hal)
 have HI:=hid (hI.keep hal)
 have HF0:=hid hF
 have HI0:=hid hI
 have HMK1:Hid (∀ w,(Instr.makeSlice 61 (.int .i64 f.regs) (.int .i64 f.regs)).run Tryz.prog w=.ok (.slice (some ⟨w.heap.size,0,none⟩) rg rg) (w.alloc (.cells (u64s (List.replicate rg 0)) 58))):=fun w=>by rw[hrg];exact makeNums rg hrg1 w
 have HMK2:=hid (fun w=>makeLists f.chans.length (by omega) w)
 have HMK3:=hid (fun w=>makeInts f.chans.length (by omega) w)
 have HH:=hid hh
 have HRG:=hid hrg
 have HRT:=hid hrt
 have HN:=hid hn
 have hle:(L.length:Int)≤(f.chans.length:Int):=by omega
 clear hF hL hI hh hrg hrt hn hrg1
 go_enter Tryz.func75,Tryz.ntmps75
 go_upto_region 1 with fail
 have HB:=hid hal
 have HG:=hid hg
 have y0:=row_of hg 0 (.int .i64 f.width) rfl
 have y1:=row_of hg 1 (.int .i64 f.regs) rfl
 have y2:=row_of hg 2 (.slice ca f.chans.length cc) rfl
 have y3:=row_of hg 3 (.slice sa f.sites.length sc) rfl
 have y4:=row_of hg 4 (.slice aa f.arrays.length ac) rfl
 have y5:=row_of hg 5 (.slice ka f.code.length kc) rfl
 clear hal hg
 generalize w.alloc (.cells #[.int .i64 f.width,.int .i64 f.regs,.slice ca f.chans.length cc,.slice sa f.sites.length sc,.slice aa f.arrays.length ac,.slice ka f.code.length kc] 26)=W at *
 have he:flatE f=0:=by rw[flatE,hok];rfl
 have HC:=hid (flatCheck f _ _ _ _ W HF.out HL.out)
 rw[he] at HC
 clear he hok
 go_upto_region 2 with (go_at_call 45;refine HC.out.mono ?_;rintro e w2 ⟨rfl,hb2⟩)
 have z2:=cell_keep hb2 y2
 clear y2
 go_upto_region 6 with fail
 have z5:=cell_keep hb2 y5
 have HF2:=hid (HF.out.keep hb2)
 have HB2:=hid (bcomp HB.out hb2)
 have HI2:=hid (HI.out.keep hb2)
 have HG2:=hid ((hb2.block _ (gsMMo HG.out)).trans HG.out)
 clear y0 y1 y3 y4 y5 hb2 z2
 have hfl:w.heap.size<w2.heap.size:=(gsMMo HG2.out)
 have HK:Hid (∀ w3:World,Below w2.heap.size w2 w3→w3.heap[w.heap.size]?=w2.heap[w.heap.size]?):=fun w3 h=>h.block _ hfl
 have HFR:Hid (∀ w3:World,Below w2.heap.size w2 w3→w3.heap[w.heap.size]?=some (.cells #[.int .i64 f.width,.int .i64 f.regs,.slice ca f.chans.length cc,.slice sa f.sites.length sc,.slice aa f.arrays.length ac,.slice ka f.code.length kc] 26 (0,0))):=fun w3 h=>(HK.out w3 h).trans HG2.out
 go_upto_region 7 with (go_at_call 108;refine (cloneCode _ _ _ HF2.out.2.2.2.1).mono ?_;rintro e w3 ⟨v,rfl,_,r3,b3⟩;obtain⟨xa,xc,rfl⟩:=r3.is;have hfr:=frozen_of_row w3 w.heap.size 5 _ _ (HFR.out w3 b3);have hcr:=row_of (HFR.out w3 b3) 5 _ rfl)
 have HG3:Hid ((w3.setCell ⟨w.heap.size,5,none⟩ (.slice xa f.code.length xc)).heap[w.heap.size]?=some (.cells #[.int .i64 f.width,.int .i64 f.regs,.slice ca f.chans.length cc,.slice sa f.sites.length sc,.slice aa f.arrays.length ac,.slice xa f.code.length xc] 26 (0,0))):=by
  show _=_
  rw[heap_setCell_same _ _ _ _ _ _ (HFR.out w3 b3)];rfl
 have hb3:Below w.heap.size w (w3.setCell ⟨w.heap.size,5,none⟩ (.slice xa f.code.length xc)):=(bcomp HB2.out b3).setCell (Nat.le_refl _) _
 have HC3:Hid (RdRow kCode (some (within w2.heap.size w3.heap.size)) (w3.setCell ⟨w.heap.size,5,none⟩ (.slice xa f.code.length xc)) (.slice xa f.code.length xc) f.code):=
  r3.inside.same (fun b hb _=>heap_setCell_other _ _ _ _ (by have:=hb.1;show b≠w.heap.size;omega)) (fun _ _ k=>k)
 have HS3:Hid (w2.heap.size≤w3.heap.size∧w3.heap.size=(w3.setCell ⟨w.heap.size,5,none⟩ (.slice xa f.code.length xc)).heap.size):=⟨b3.size,by simp⟩
 have HI3:=hid (HI0.out.keep hb3)
 have HF3:=hid (HF0.out.keep hb3)
 have HB3:=hid hb3
 clear hfr hcr r3 b3 hb3 HK HFR HG2 HI2 HF2 HF HL HI HB HG HC
 generalize w3.setCell ⟨w.heap.size,5,none⟩ (.slice xa f.code.length xc)=W3 at *
 go_cut [7] from 27 to 36 (fun mm wx=>∃ gb ib bm:Nat,mm=.pointer (some ⟨bm,0,none⟩)∧W3.heap.size≤gb∧W3.heap.size≤ib∧W3.heap.size≤bm∧wx.heap[gb]?=some (.cells (u64s (List.replicate rg 0)) 58 (0,0))∧wx.heap[ib]?=some (.cells (List.replicate f.chans.length (Value.slice none 0 0)).toArray 61 (0,0))∧wx.heap[bm]?=some (.cells #[.int .u8 0,.int .i64 0,.slice none 0 0,.slice none 0 0,.slice none 0 0,.slice none 0 0,.int .i64 f.width,.int .i64 f.regs,.slice ca f.chans.length cc,.slice sa f.sites.length sc,.slice aa f.arrays.length ac,.slice xa f.code.length xc,.slice (some ⟨ib,0,none⟩) f.chans.length f.chans.length,.slice (some ⟨gb,0,none⟩) rg rg,.slice none 0 0,.int .i64 0,.bool false] 183 (0,0))∧Below W3.heap.size W3 wx)
 case first=>
  refine wp_region_own [0,1,2,4,5,6] [⟨3,some 30,[]⟩,⟨7,some 34,[]⟩,⟨8,some 35,[(3,some 30),(7,some 34)]⟩,⟨9,some 36,[(8,some 35)]⟩] [10] [_] (fun j=>decide (10≤j))
   (fun j v w lo hi=>match j with
    | 3=>∃ gb:Nat,v=.slice (some ⟨gb,0,none⟩) rg rg∧W3.heap.size≤gb∧w.heap[gb]?=some (.cells (u64s (List.replicate rg 0)) 58 (0,0))
    | 7=>∃ ib:Nat,v=.slice (some ⟨ib,0,none⟩) f.chans.length f.chans.length∧W3.heap.size≤ib∧w.heap[ib]?=some (.cells (List.replicate f.chans.length (Value.slice none 0 0)).toArray 61 (0,0))
    | 8=>∃ gb ib:Nat,v=.agg #[.int .u8 0,.int .i64 0,.slice none 0 0,.slice none 0 0,.slice none 0 0,.slice none 0 0,.int .i64 f.width,.int .i64 f.regs,.slice ca f.chans.length cc,.slice sa f.sites.length sc,.slice aa f.arrays.length ac,.slice xa f.code.length xc,.slice (some ⟨ib,0,none⟩) f.chans.length f.chans.length,.slice (some ⟨gb,0,none⟩) rg rg,.slice none 0 0,.int .i64 0,.bool false]∧W3.heap.size≤gb∧W3.heap.size≤ib∧w.heap[gb]?=some (.cells (u64s (List.replicate rg 0)) 58 (0,0))∧w.heap[ib]?=some (.cells (List.replicate f.chans.length (Value.slice none 0 0)).toArray 61 (0,0))
    | 9=>∃ gb ib bm:Nat,v=.pointer (some ⟨bm,0,none⟩)∧W3.heap.size≤bm∧W3.heap.size≤gb∧W3.heap.size≤ib∧w.heap[gb]?=some (.cells (u64s (List.replicate rg 0)) 58 (0,0))∧w.heap[ib]?=some (.cells (List.replicate f.chans.length (Value.slice none 0 0)).toArray 61 (0,0))∧w.heap[bm]?=some (.cells #[.int .u8 0,.int .i64 0,.slice none 0 0,.slice none 0 0,.slice none 0 0,.slice none 0 0,.int .i64 f.width,.int .i64 f.regs,.slice ca f.chans.length cc,.slice sa f.sites.length sc,.slice aa f.arrays.length ac,.slice xa f.code.length xc,.slice (some ⟨ib,0,none⟩) f.chans.length f.chans.length,.slice (some ⟨gb,0,none⟩) rg rg,.slice none 0 0,.int .i64 0,.bool false] 183 (0,0))
    | _=>True) (by kernel_rfl) (by kernel_rfl) rfl (by kernel_rfl) rfl rfl (fun _ d _ _ _ h=>by cases d <;> exact h) ?_ ?_
  ·intro j v w w' lo hi hy hbw
   have hk:∀ {b:Nat} {o:Obj},w.heap[b]?=some o→w'.heap[b]?=some o:=fun h=>(hbw.block _ (gsMMo h)).trans h
   match j,hy with
   | 3,⟨g,e,l,h⟩=>exact⟨g,e,l,hk h⟩
   | 7,⟨g,e,l,h⟩=>exact⟨g,e,l,hk h⟩
   | 8,⟨g,i,e,l,l',h,h'⟩=>exact⟨g,i,e,l,l',hk h,hk h'⟩
   | 9,⟨g,i,m,e,l0,l,l',h,h',h2⟩=>exact⟨g,i,m,e,l0,l,l',hk h,hk h',hk h2⟩
   | 0,_|1,_|2,_|4,_|5,_|6,_|(x+10),_=>trivial
  ·have l0:=ext_cell (row_of HG3.out 0 (.int .i64 f.width) rfl)
   have l1:=ext_cell (row_of HG3.out 1 (.int .i64 f.regs) rfl)
   have l2:=ext_cell (row_of HG3.out 2 (.slice ca f.chans.length cc) rfl)
   have l3:=ext_cell (row_of HG3.out 3 (.slice sa f.sites.length sc) rfl)
   have l4:=ext_cell (row_of HG3.out 4 (.slice aa f.arrays.length ac) rfl)
   have l5:=ext_cell (row_of HG3.out 5 (.slice xa f.code.length xc) rfl)
   refine mix_reads (by simp only[opsOf,List.filterMap_cons,List.filterMap_nil,List.getElem?_toArray,List.getElem?_cons_succ,List.getElem?_cons_zero];rfl) ⟨_,ext_of (Below.refl _ _).drew⟩ ?_
   change wpQuiet _ _ _ _ [_,_,_,_,_,_] _
   (repeat (go_big_quiet_step (fail)))
   refine wpQuiet_nil ?_
   clear l0 l1 l2 l3 l4 l5
   refine⟨⟨fun vs w hb hn=>?_,fun vs w hb hn=>?_,fun vs w hb hn=>?_,fun vs w hb hn=>?_,trivial⟩,fun vs w hb hy hd=>?_⟩
   ·clear hn
    have hmk:=HMK1.out
    refine mix_step rfl ?_
    simp only[pv]
    go_wp2_with fail
    exact⟨_,rfl,(Below.refl _ _).alloc (Nat.le_refl _) _,w.heap.size,rfl,by have:=hb.size;simpa using this,heap_alloc_new _ _⟩
   ·clear hn
    have hmk:=HMK2.out
    refine mix_step rfl ?_
    simp only[pv]
    go_wp2_with fail
    exact⟨_,rfl,(Below.refl _ _).alloc (Nat.le_refl _) _,w.heap.size,rfl,by have:=hb.size;simpa using this,heap_alloc_new _ _⟩
   ·obtain⟨g,eg,lg,hg⟩:=hn (3,some 30) (by simp)
    obtain⟨i,ei,li,hi⟩:=hn (7,some 34) (by simp)
    clear hn
    refine mix_step rfl ?_
    simp only[pv]
    rw[eg,ei]
    go_wp2_with fail
    exact⟨_,rfl,Below.refl _ _,g,i,rfl,lg,li,hg,hi⟩
   ·obtain⟨g,i,eg,lg,li,hg,hi⟩:=hn (8,some 35) (by simp)
    clear hn
    refine mix_step rfl ?_
    simp only[pv]
    rw[eg]
    go_wp2_with fail
    have hal:=(Below.refl w.heap.size w).alloc (Nat.le_refl _) (.cells #[.int .u8 0,.int .i64 0,.slice none 0 0,.slice none 0 0,.slice none 0 0,.slice none 0 0,.int .i64 f.width,.int .i64 f.regs,.slice ca f.chans.length cc,.slice sa f.sites.length sc,.slice aa f.arrays.length ac,.slice xa f.code.length xc,.slice (some ⟨i,0,none⟩) f.chans.length f.chans.length,.slice (some ⟨g,0,none⟩) rg rg,.slice none 0 0,.int .i64 0,.bool false] 183)
    exact⟨_,rfl,hal,g,i,w.heap.size,rfl,by have:=hb.size;simpa using this,lg,li,(hal.block _ (gsMMo hg)).trans hg,(hal.block _ (gsMMo hi)).trans hi,heap_alloc_new _ _⟩
   ·obtain⟨⟨g,i,m,em,lm,lg,li,hg,hi,hm⟩,-⟩:=hy ⟨9,some 36,[(8,some 35)]⟩ (by simp)
    clear hy hd
    simp only[List.map,Maker.pr,pv]
    have em':(vs 9).1=.pointer (some ⟨m,0,none⟩):=em
    rw[em']
    clear em em'
    simp only[Act.put,List.setIfInBounds_toArray,List.set_cons_succ,List.set_cons_zero,List.getElem_toArray,List.getElem_cons_succ,List.getElem_cons_zero]
    go_wp2_with fail
    go_meet
    exact⟨g,i,m,rfl,lg,li,lm,hg,hi,hm,(Below.refl _ _).drew.trans hb⟩
 case rest=>
  generalize wc=W7 at *
  obtain⟨gb,ib,bm,rfl,lg,li,lm,hg,hi,hm,hbx⟩:=hcut
  have HGx:=hid ((hbx.block _ (gsMMo HG3.out)).trans HG3.out)
  have HBX:=hid hbx
  have HGB:=hid hg
  have HIB:=hid hi
  have HBM:=hid hm
  have hfb:w.heap.size<W3.heap.size:=(gsMMo HG3.out)
  have hfm:w.heap.size≠bm:=by omega
  clear hg hi hm hbx
  go_upto_region 8 with fail
  go_cut [42] from 37 to 50 (fun _ wy=>∃ db:Nat,W7.heap.size≤db∧wy.heap[db]?=some (.cells (i64s (List.replicate f.chans.length 0)) 3 (0,0))∧wy.heap[bm]?=some (.cells #[.int .u8 2,.int .i64 0,.slice none 0 0,.slice none 0 0,.slice none 0 0,.slice (some ⟨db,0,none⟩) f.chans.length f.chans.length,.int .i64 f.width,.int .i64 f.regs,.slice ca f.chans.length cc,.slice sa f.sites.length sc,.slice aa f.arrays.length ac,.slice xa f.code.length xc,.slice (some ⟨ib,0,none⟩) f.chans.length f.chans.length,.slice (some ⟨gb,0,none⟩) rg rg,.slice none 0 0,.int .i64 0,.bool false] 183 (0,0))∧Turn (fun b=>b=bm) W7 wy)
  case first=>
   refine wp_region_mixS [w.heap.size] (.two [0,1,2,3,4,6,7,8,9] 5 10 (.one [] 10 (tailOf [11,12,13,14,15])) (.one [] 5 (tailOf [11,12,13,14,15]))) (fun j=>decide (11≤j)) (by kernel_rfl) (by kernel_rfl) rfl (by kernel_rfl) (fun _ d _ _ _ h=>by cases d <;> exact h) ?_
   have l2:=keepS_cell (S:=[w.heap.size]) (by simp) (row_of HGx.out 2 (.slice ca f.chans.length cc) rfl)
   have hmb:bm<W7.heap.size:=(gsMMo HBM.out)
   have B0:Hid (Below W7.heap.size W7 W7.drew):=(Below.refl _ _).drew
   have hs0:Hid (W7.drew.heap.size=W7.heap.size):=rfl
   have M0:Hid (W7.drew.heap[bm]?=_):=HBM.out
   have K0:Hid (W7.drew.heap[w.heap.size]?=W7.heap[w.heap.size]?):=rfl
   generalize W7.drew=w0 at *
   refine mix_two (by simp only[opsOf,List.filterMap_cons,List.filterMap_nil,List.getElem?_toArray,List.getElem?_cons_succ,List.getElem?_cons_zero];rfl) ⟨_,keepS_of (by intro b hb;simp only[List.mem_singleton] at hb;subst hb;exact K0.out)⟩ ?_
   change wpQuiet _ _ _ _ [_,_,_,_,_,_,_,_,_] _
   (repeat (go_big_quiet_step (fail)))
   clear l2
   have hmk:=HMK3.out
   have q0:=row_of M0.out 0 (.int .u8 0) rfl
   have q5:=row_of M0.out 5 (.slice none 0 0) rfl
   have t0:=frozen_of_row w0 bm 0 _ _ M0.out
   have t5:=frozen_of_row w0 bm 5 _ _ M0.out
   have hlt:bm<w0.heap.size:=by have:=hs0.out;omega
   have hlf:w.heap.size<w0.heap.size:=by have:=hs0.out;have:=HBX.out.size;omega
   have HFIN:Hid (∃ db:Nat,W7.heap.size≤db∧(((w0.setCell ⟨bm,0,none⟩ (.int .u8 2)).setCell ⟨bm,5,none⟩ (.slice (some ⟨w0.heap.size,0,none⟩) f.chans.length f.chans.length)).alloc (.cells (i64s (List.replicate f.chans.length 0)) 3)).heap[db]?=some (.cells (i64s (List.replicate f.chans.length 0)) 3 (0,0))∧(((w0.setCell ⟨bm,0,none⟩ (.int .u8 2)).setCell ⟨bm,5,none⟩ (.slice (some ⟨w0.heap.size,0,none⟩) f.chans.length f.chans.length)).alloc (.cells (i64s (List.replicate f.chans.length 0)) 3)).heap[bm]?=some (.cells #[.int .u8 2,.int .i64 0,.slice none 0 0,.slice none 0 0,.slice none 0 0,.slice (some ⟨db,0,none⟩) f.chans.length f.chans.length,.int .i64 f.width,.int .i64 f.regs,.slice ca f.chans.length cc,.slice sa f.sites.length sc,.slice aa f.arrays.length ac,.slice xa f.code.length xc,.slice (some ⟨ib,0,none⟩) f.chans.length f.chans.length,.slice (some ⟨gb,0,none⟩) rg rg,.slice none 0 0,.int .i64 0,.bool false] 183 (0,0))∧Turn (fun b=>b=bm) W7 (((w0.setCell ⟨bm,0,none⟩ (.int .u8 2)).setCell ⟨bm,5,none⟩ (.slice (some ⟨w0.heap.size,0,none⟩) f.chans.length f.chans.length)).alloc (.cells (i64s (List.replicate f.chans.length 0)) 3))):=by
    have hal:=(Below.refl ((w0.setCell ⟨bm,0,none⟩ (.int .u8 2)).setCell ⟨bm,5,none⟩ (.slice (some ⟨w0.heap.size,0,none⟩) f.chans.length f.chans.length)).heap.size ((w0.setCell ⟨bm,0,none⟩ (.int .u8 2)).setCell ⟨bm,5,none⟩ (.slice (some ⟨w0.heap.size,0,none⟩) f.chans.length f.chans.length))).alloc (Nat.le_refl _) (.cells (i64s (List.replicate f.chans.length 0)) 3)
    have h1:=heap_alloc_new ((w0.setCell ⟨bm,0,none⟩ (.int .u8 2)).setCell ⟨bm,5,none⟩ (.slice (some ⟨w0.heap.size,0,none⟩) f.chans.length f.chans.length)) (.cells (i64s (List.replicate f.chans.length 0)) 3)
    have hT:=(((Turn.of_below (B:=fun b=>b=bm) B0.out).setCell (a:=⟨bm,0,none⟩) rfl (.int .u8 2)).setCell (a:=⟨bm,5,none⟩) rfl (.slice (some ⟨w0.heap.size,0,none⟩) f.chans.length f.chans.length)).trans (Turn.of_below hal)
    have h2:=hal.block bm (by simpa using hlt)
    refine⟨w0.heap.size,by have:=hs0.out;omega,by simpa using h1,h2.trans ?_,hT⟩
    rw[heap_setCell_same _ _ _ _ _ _ (heap_setCell_same _ _ _ _ _ _ M0.out)]
    rfl
   have hA:(w0.alloc (.cells (i64s (List.replicate f.chans.length 0)) 3)).heap[w.heap.size]?=W7.heap[w.heap.size]?:=(((Below.refl w0.heap.size w0).alloc (Nat.le_refl _) (.cells (i64s (List.replicate f.chans.length 0)) 3)).block _ hlf).trans K0.out
   have hB:(w0.setCell ⟨bm,0,none⟩ (.int .u8 2)).heap[w.heap.size]?=W7.heap[w.heap.size]?:=(heap_setCell_other w0 ⟨bm,0,none⟩ w.heap.size _ (by simpa using hfm)).trans K0.out
   have hC:((w0.setCell ⟨bm,0,none⟩ (.int .u8 2)).alloc (.cells (i64s (List.replicate f.chans.length 0)) 3)).heap[w.heap.size]?=W7.heap[w.heap.size]?:=(((Below.refl (w0.setCell ⟨bm,0,none⟩ (.int .u8 2)).heap.size (w0.setCell ⟨bm,0,none⟩ (.int .u8 2))).alloc (Nat.le_refl _) (.cells (i64s (List.replicate f.chans.length 0)) 3)).block _ (by simpa using hlf)).trans hB
   refine wpQuiet_nil ⟨?_,?_⟩
   ·refine mix_step rfl ?_
    go_wp2_with fail
    refine⟨fun _=>⟨_,keepS_of (by intro b hb;simp only[List.mem_singleton] at hb;subst hb;exact hA)⟩,?_⟩
    refine mix_now ?_
    refine mix_step rfl ?_
    go_wp2_with fail
    refine⟨fun _=>⟨_,keepS_of (by intro b hb;simp only[List.mem_singleton] at hb;subst hb;exact hC)⟩,?_⟩
    refine mix_tail [11,12,13,14,15] [_,_,_,_,_] _ _ rfl rfl ?_
    go_wp2_with fail
    go_meet
    exact HFIN.out
   ·refine mix_step rfl ?_
    go_wp2_with fail
    refine⟨fun _=>⟨_,keepS_of (by intro b hb;simp only[List.mem_singleton] at hb;subst hb;exact hB)⟩,?_⟩
    refine mix_now ?_
    refine mix_step rfl ?_
    go_wp2_with fail
    refine⟨fun _=>⟨_,keepS_of (by intro b hb;simp only[List.mem_singleton] at hb;subst hb;exact hC)⟩,?_⟩
    refine mix_tail [11,12,13,14,15] [_,_,_,_,_] _ _ rfl rfl ?_
    go_wp2_with fail
    go_meet
    exact HFIN.out
  case rest=>
   generalize wc=W8 at *
   obtain⟨db,ldb,hd,hm8,hT8⟩:=hcut
   have hs7:=HBX.out.size
   have hs3:=HB3.out.size
   have HB8:=hid (hT8.below (bcomp HB3.out HBX.out) (fun b e=>by subst e;omega))
   have HI8:=hid (HI0.out.keep HB8.out)
   have HD8:=hid hd
   have HM8:=hid hm8
   have HT8:=hid hT8
   have hib:ib<W8.heap.size:=by have:=(gsMMo HIB.out);have:=hT8.size;omega
   have HI8b:Hid (LaidIn ib W8.heap.size f.chans.length L 0 W8):=⟨[],rfl,(hT8.block ib (gsMMo HIB.out) (row_ne HIB.out HBM.out (by decide))).trans HIB.out,fun j v l hj=>by simp at hj⟩
   clear hd hm8 hT8
   have hno:ib≠bm:=row_ne HIB.out HBM.out (by decide)
   go_wp2_with fail
   go_loopw [8,9,53] (fun _ _ i wr=>∃ k:Nat,k≤L.length∧i=.int .i64 k∧LaidIn ib W8.heap.size f.chans.length L k wr∧Turn (fun b=>b=ib) W8 wr) (fun _ _ i _=>L.length-(intOf i).toNat)
   case atStart=>exact⟨0,Nat.zero_le _,rfl,HI8b.out,Turn.refl _ _⟩
   case round=>
    obtain⟨k,hk,rfl,hli,hT⟩:=hrel
    by_cases hlt:k<L.length
    ·obtain⟨x,hx⟩:∃ x,L[k]?=some x:=⟨_,lgMMo hlt⟩
     have HIr:=HI0.out.keep (hT.below HB8.out (fun b e=>by subst e;omega))
     obtain⟨jb,jo,la,lc,rfl,_,cI,hRL⟩:=HIr.at hx
     have hmr:=(hT.block bm (gsMMo HM8.out) (fun e=>hno e.symm)).trans HM8.out
     have HMR:=hid hmr
     have HRL:=hid hRL
     have HLI:=hid hli
     have HT:=hid hT
     have HX:=hid hx
     have hk1:(k:Int)<(L.length:Int):=by omega
     have hk2:(k:Int)<(f.chans.length:Int):=by omega
     have hsr:=hT.size
     clear HIr hmr hRL hli hT hx
     go_upto_region 12 with fail
     refine wp_region_mix (.one [0,1,2,3,4,5] 6 (tailOf [7,8])) (fun j=>decide (7≤j)) (by kernel_rfl) (by kernel_rfl) rfl (by kernel_rfl) (fun _ d _ _ _ h=>by cases d <;> exact h) ?_
     have l12:=ext_cell (row_of HMR.out 12 (.slice (some ⟨ib,0,none⟩) f.chans.length f.chans.length) rfl)
     have HBd:Hid (Below wr.heap.size wr wr.drew):=(Below.refl _ _).drew
     have HS0:Hid (wr.heap.size≤wr.drew.heap.size):=Nat.le_refl _
     generalize wr.drew=w0 at *
     refine mix_one (by simp only[opsOf,List.filterMap_cons,List.filterMap_nil,List.getElem?_toArray,List.getElem?_cons_succ,List.getElem?_cons_zero];rfl) ⟨_,ext_of HBd.out⟩ ?_
     change wpQuiet _ _ _ _ [_,_,_,_,_,_] _
     (repeat (go_big_quiet_step (fail)))
     refine wpQuiet_nil ?_
     clear l12
     have R0:=HRL.out.keep HBd.out
     refine mix_step rfl ?_
     go_wp2_with (go_at_call 109;refine (cloneNum _ _ _ R0).mono ?_;rintro e w1 ⟨v,rfl,_,r1,b1⟩)
     obtain⟨xa1,xc1,rfl⟩:=r1.is
     have B1:=bcomp HBd.out b1
     refine⟨fun _=>⟨_,ext_of B1⟩,?_⟩
     have HST:=hid (HLI.out.step B1 hib (by have:=hsr;omega) (by omega) HX.out (r1.up HS0.out))
     have hT1:=HT.out.trans (Turn.of_below B1)
     have HT2:=hid (hT1.setCell (a:=⟨ib,k,none⟩) rfl (.slice xa1 x.length xc1))
     obtain⟨vs,hvs,hrow,-⟩:=id HLI.out
     have hrow1:=(B1.block _ (gsMMo hrow)).trans hrow
     have cw:=row_of hrow1 k (.slice none 0 0) (by simp only[List.getElem?_toArray];rw[List.getElem?_append_right (by omega),List.getElem?_replicate,if_pos (by omega)])
     have fw:=frozen_of_row w1 ib k _ _ hrow1
     clear R0 r1 b1 B1 hT1 hvs hrow hrow1
     refine mix_tail [7,8] [_,_] _ _ rfl rfl ?_
     go_wp2_with fail
     go_roundw
     case rel=>exact⟨k+1,by omega,by go_num,HST.out,HT2.out⟩
     case measure=>simp[intOf];omega
    ·obtain rfl:k=L.length:=by omega
     have hk1:(L.length:Int)≤(L.length:Int):=Int.le_refl _
     have hmr:=(hT.block bm (gsMMo HM8.out) (fun e=>hno e.symm)).trans HM8.out
     have HB9:=hid (hT.below HB8.out (fun b e=>by subst e;omega))
     have hne7:w.heap.size≠ib:=by omega
     have HM9:=hid hmr
     have HL9:=hid hli
     have HT9:=hid hT
     clear hmr hli hT
     go_upto_region 14 with fail
     have hs9:=HT9.out.size
     have hf7:=(gsMMo HGx.out)
     have HG9:=hid ((HT9.out.block w.heap.size (by have:=HT8.out.size;omega) hne7).trans ((HT8.out.block w.heap.size hf7 hfm).trans HGx.out))
     generalize wr=W9 at *
     have HF9:=hid (HF0.out.keep HB9.out)
     have y4:=row_of HG9.out 4 (.slice aa f.arrays.length ac) rfl
     go_wp2_with fail
     go_loopw [11,70] (fun _ i wr=>∃ (k:Nat) (av:Value) (bs:List Nat),k≤f.arrays.length∧i=.int .i64 k∧MadeArr W9.heap.size f.arrays k wr av bs∧wr.heap[bm]?=some (.cells #[.int .u8 2,.int .i64 0,.slice none 0 0,.slice none 0 0,.slice none 0 0,.slice (some ⟨db,0,none⟩) f.chans.length f.chans.length,.int .i64 f.width,.int .i64 f.regs,.slice ca f.chans.length cc,.slice sa f.sites.length sc,.slice aa f.arrays.length ac,.slice xa f.code.length xc,.slice (some ⟨ib,0,none⟩) f.chans.length f.chans.length,.slice (some ⟨gb,0,none⟩) rg rg,av,.int .i64 0,.bool false] 183 (0,0))∧Turn (fun b=>b=bm) W9 wr) (fun _ i _=>f.arrays.length-(intOf i).toNat)
     case atStart=>exact⟨0,.slice none 0 0,[],Nat.zero_le _,rfl,⟨rfl,World.ownsRow_nil _ _ _ _,fun i b n h=>by simp at h,fun b h=>by simp at h,List.nodup_nil⟩,HM9.out,Turn.refl _ _⟩
     case round=>
      obtain⟨k,av,bs,hk,rfl,hma,hbr,hTr⟩:=hrel
      by_cases hlt:k<f.arrays.length
      ·obtain⟨n,hn⟩:∃ n,f.arrays[k]?=some n:=⟨_,lgMMo hlt⟩
       have hnb:=HH.out.arr n (List.mem_of_getElem? hn)
       obtain⟨nn,rfl⟩:∃ nn:Nat,n=nn:=⟨n.toNat,by omega⟩
       obtain⟨va,vc,rfl,-⟩:=own_read hma.own
       have HFr:=HF0.out.2.2.1.keep (hTr.below HB9.out (fun b e=>by subst e;omega))
       obtain⟨jb,jo,rfl,_,cI,_⟩:=atInt HFr hn
       have HMA:=hid hma
       have HBR:=hid hbr
       have HTr:=hid hTr
       have HNn:=hid hn
       have hk1:(k:Int)<(f.arrays.length:Int):=by omega
       have hsr:=hTr.size
       have hn2:nn≤64:=by omega
       have HMK:=hid (fun w=>makeNums nn (by omega) w)
       clear HFr hma hbr hTr hn y4 hnb
       go_upto_region 17 with fail
       obtain⟨i0,hi0,hz0,hz1,hz2⟩:=info_parts infoNumS
       refine wp_region_mixS [bm] (.one [0,1,2,3,4,5] 6 (.one [] 7 (.one [] 8 (tailOf [9,10,11])))) (fun j=>decide (9≤j)) (by kernel_rfl) (by kernel_rfl) rfl (by kernel_rfl) (fun _ d _ _ _ h=>by cases d <;> exact h) ?_
       have l14:=keepS_cell (S:=[bm]) (by simp) (row_of HBR.out 14 (.slice va k vc) rfl)
       have HBd:Hid (Below wr.heap.size wr wr.drew):=(Below.refl _ _).drew
       have M0:Hid (wr.drew.heap[bm]?=wr.heap[bm]?):=rfl
       generalize wr.drew=w0 at *
       refine mix_one (by simp only[opsOf,List.filterMap_cons,List.filterMap_nil,List.getElem?_toArray,List.getElem?_cons_succ,List.getElem?_cons_zero];rfl) ⟨_,keepS_of (by intro b hb;simp only[List.mem_singleton] at hb;subst hb;exact M0.out)⟩ ?_
       change wpQuiet _ _ _ _ [_,_,_,_,_,_] _
       (repeat (go_big_quiet_step (fail)))
       refine wpQuiet_nil ?_
       clear l14
       have hmk:=HMK.out
       have hbl:bm<w0.heap.size:=by have:=(gsMMo HBR.out);have:=HBd.out.size;omega
       have hal:=(Below.refl w0.heap.size w0).alloc (Nat.le_refl _) (.cells (u64s (List.replicate nn 0)) 58)
       have B1:=hid (bcomp HBd.out hal)
       have G1:=hid (heap_alloc_new w0 (.cells (u64s (List.replicate nn 0)) 58))
       have M1:=hid ((hal.block bm hbl).trans M0.out)
       clear hal
       refine mix_step rfl ?_
       go_wp2_with fail
       refine⟨fun _=>⟨_,keepS_of (by intro b hb;simp only[List.mem_singleton] at hb;subst hb;exact M1.out)⟩,?_⟩
       refine mix_now ?_
       refine mix_step rfl ?_
       go_wp2_with fail
       have hs1:(w0.alloc (.cells (u64s (List.replicate nn 0)) 58)).heap.size=w0.heap.size+1:=by simp
       generalize w0.alloc (.cells (u64s (List.replicate nn 0)) 58)=w1 at *
       have hal2:=(Below.refl w1.heap.size w1).alloc (Nat.le_refl _) (.cells #[.slice (some ⟨w0.heap.size,0,none⟩) nn nn] 61)
       have hbl1:bm<w1.heap.size:=by omega
       have B2:=hid (bcomp B1.out hal2)
       have G2:=hid ((hal2.block _ (gsMMo G1.out)).trans G1.out)
       have M2:=hid ((hal2.block bm hbl1).trans M1.out)
       have hown:=own_below HMA.out.own B2.out
       have hnews:=many_new w1 (kSlc.cells (w0.heap.size,nn)) 61
       clear hal2
       refine⟨fun _=>⟨_,keepS_of (by intro b hb;simp only[List.mem_singleton] at hb;subst hb;exact M2.out)⟩,?_⟩
       refine mix_now ?_
       refine mix_step rfl ?_
       have h1c:∀ u∈kSlc.cells (w0.heap.size,nn),u.oneCell'=true:=by intro u hu;simp at hu;subst hu;rfl
       have hal32:f.arrays.length≤32:=HH.out.arrays
       rw[hs1] at hnews
       have hm1:k+1≤maxLen:=by unfold maxLen;omega
       have hb9:W9.heap.size≤(w1.alloc (.cells #[.slice (some ⟨w0.heap.size,0,none⟩) nn nn] 61)).heap.size:=by have:=B2.out.size;omega
       try (simp only[Act.put,List.setIfInBounds_toArray,List.set_cons_succ,List.set_cons_zero,List.getElem_toArray,List.getElem_cons_succ,List.getElem_cons_zero])
       refine wpList_append_own_at _ rfl (.tmp 78) (.tmp 81) 35 rfl W9.heap.size 61 i0 (.slice none 0 0) 1 24 Tryz.underlying35 hi0 hz0 hz1 hz2 rfl (by decide) _ _ _ rfl hown ⟨w0.heap.size+1,0,none⟩ 1 1 (kSlc.cells (w0.heap.size,nn)) rfl rfl hnews h1c hm1 (by omega) hb9 ?_
       intro v' w4 hown' hgrow _ hblk
       have hgrow:(w1.alloc (.cells #[.slice (some ⟨w0.heap.size,0,none⟩) nn nn] 61)).grownBy w4 (Value.slice va k vc).ownBlock:=hgrow
       have hbm9:bm<W9.heap.size:=(gsMMo HM9.out)
       have hbx4:=(hgrow.block bm (by simp;omega) (fun e=>by obtain⟨cs,hr⟩:=own_row hown e.symm;exact row_ne (M2.out.trans HBR.out) hr (by decide) rfl)).trans (M2.out.trans HBR.out)
       obtain⟨ya,yc,rfl,-⟩:=own_read hown'
       have HST:=hid (HMA.out.step B2.out (x:=w0.heap.size) (n:=nn) HBd.out.size G2.out HNn.out HTr.out.size hown' hgrow hbm9 14 (.slice ya (k+1) yc))
       have HT5:=hid (((HTr.out.trans (Turn.of_below B2.out)).grownUp hgrow (fun b e=>own_row_le hown b e)).setCell (a:=⟨bm,14,none⟩) rfl (.slice ya (k+1) yc))
       have HB5:Hid ((w4.setCell ⟨bm,14,none⟩ (.slice ya (k+1) yc)).heap[bm]?=some (.cells #[.int .u8 2,.int .i64 0,.slice none 0 0,.slice none 0 0,.slice none 0 0,.slice (some ⟨db,0,none⟩) f.chans.length f.chans.length,.int .i64 f.width,.int .i64 f.regs,.slice ca f.chans.length cc,.slice sa f.sites.length sc,.slice (some ⟨jb,jo,none⟩) f.arrays.length ac,.slice xa f.code.length xc,.slice (some ⟨ib,0,none⟩) f.chans.length f.chans.length,.slice (some ⟨gb,0,none⟩) rg rg,.slice ya (k+1) yc,.int .i64 0,.bool false] 183 (0,0))):=by
        show _=_
        rw[heap_setCell_same _ _ _ _ _ _ hbx4];rfl
       clear hown' hgrow hblk hown hnews
       simp only[Act.put,List.setIfInBounds_toArray,List.set_cons_succ,List.set_cons_zero,List.getElem_toArray,List.getElem_cons_succ,List.getElem_cons_zero]
       go_wp2_with fail
       refine⟨⟨_,keepS_of (by intro b hb;simp only[List.mem_singleton] at hb;subst hb;exact hbx4.trans HBR.out.symm)⟩,?_⟩
       have c14:=row_of hbx4 14 (.slice va k vc) rfl
       have f14:=frozen_of_row w4 bm 14 _ _ hbx4
       clear hbx4
       refine mix_tail [9,10,11] [_,_,_] _ _ rfl rfl ?_
       simp only[Act.put,List.setIfInBounds_toArray,List.set_cons_succ,List.set_cons_zero,List.getElem_toArray,List.getElem_cons_succ,List.getElem_cons_zero]
       go_wp2_with fail
       go_roundw
       case rel=>exact⟨k+1,_,_,by omega,by go_num,HST.out,HB5.out,HT5.out⟩
       case measure=>simp[intOf];omega
      ·obtain rfl:k=f.arrays.length:=by omega
       have hk1:(f.arrays.length:Int)≤(f.arrays.length:Int):=Int.le_refl _
       obtain⟨vs,hvl,hib9,hvs⟩:=HL9.out
       have hs7:W7.heap.size≤W8.heap.size:=HT8.out.size
       have hs8:W8.heap.size≤W9.heap.size:=HT9.out.size
       have hs10:W9.heap.size≤wr.heap.size:=hTr.size
       have hmb7:bm<W7.heap.size:=(gsMMo HBM.out)
       have hgb7:gb<W7.heap.size:=(gsMMo HGB.out)
       have hib7:ib<W7.heap.size:=(gsMMo HIB.out)
       have hdb8:db<W8.heap.size:=(gsMMo HD8.out)
       have hst:∀ b,b<W9.heap.size→b≠bm→wr.heap[b]?=W9.heap[b]?:=fun b hb hne=>hTr.block b hb hne
       have hs89:∀ b,b<W8.heap.size→b≠ib→W9.heap[b]?=W8.heap[b]?:=fun b hb hne=>HT9.out.block b hb hne
       have hs78:∀ b,b<W7.heap.size→b≠bm→W8.heap[b]?=W7.heap[b]?:=fun b hb hne=>HT8.out.block b hb hne
       have hgm:gb≠bm:=row_ne HGB.out HBM.out (by decide)
       have hgi:gb≠ib:=row_ne HGB.out HIB.out (by decide)
       have hdm:db≠bm:=row_ne HD8.out HM8.out (by decide)
       have hdi:db≠ib:=by omega
       have hg':=(hst gb (by omega) hgm).trans ((hs89 gb (by omega) hgi).trans ((hs78 gb hgb7 hgm).trans HGB.out))
       have hd':=(hst db (by omega) hdm).trans ((hs89 db hdb8 hdi).trans HD8.out)
       have hi':=(hst ib (by omega) hno).trans hib9
       have hc':=HC3.out.same (w':=wr) (g':=within w2.heap.size w3.heap.size) (fun b hb hlt=>by
        have hb3:=HS3.out.2
        have h1:=hb.2
        exact (hst b (by omega) (by omega)).trans ((hs89 b (by omega) (by omega)).trans ((hs78 b (by omega) (by omega)).trans (HBX.out.block b (by omega))))) (fun _ _ k=>k)
       have HMI:=hid (new_at (W:=wr) (f:=f) (L:=L) (a:=w.heap.size) (s2:=w2.heap.size) (s3:=w3.heap.size) (s8:=W8.heap.size) (s9:=W9.heap.size) hc' hi' hvl HN.out (by omega) (fun j v l h1 h2=>(hvs j v l h1 h2).same (fun b hb hlt=>hst b hlt (by have:=hb.1;omega)) (fun _ _ k=>k)) hg' HRT.out hd' hma (by have:=HH.out.arrays;omega) hbr (by omega) HS3.out.1 (by have:=HS3.out.2;omega) (by omega) (by omega) (by omega))
       have HBL:=hid (hTr.below HB9.out (fun b e=>by subst e;omega))
       clear hc' hi' hd' hg' hst hs89 hs78 hib9 hvs hma hbr hTr
       go_wp2_with fail
       go_ret2
       exact⟨bm,rfl,HMI.out,HBL.out⟩
end Go.Proofs.YtkjkpddajjmloaaGreatDoor
