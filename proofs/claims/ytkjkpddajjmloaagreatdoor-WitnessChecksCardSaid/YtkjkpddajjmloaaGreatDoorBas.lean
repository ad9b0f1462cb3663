/- Small laws on worlds, and what it means that a value reads as a list of elements of some fixed number of cells: plain lemmas, no Go function in sight. No condition. -/
import Derived.WalkKit
import Derived.ProofKit
import Derived.OpenShut
import Derived.WalkSpells
import Derived.WalkLawsBesides
import Derived.Lib.Hide
set_option linter.all false
set_option maxRecDepth 1000000
set_option maxHeartbeats 6400000
namespace Go.Proofs.YtkjkpddajjmloaaGreatDoor
open Go.ChangeShapes Go.WideShapes Go.ChangeAt Go.RowKit
theorem cell_keep {w w':World} (h:Below w.heap.size w w') {a:Addr} {v:Value} (hc:w.cell? a=some v):w'.cell? a=some v:=by
 rw [h.cell (block_lt_of_cell hc)];exact hc
theorem cell_keepB {B:Nat} {w w':World} (h:Below B w w') {a:Addr} {v:Value} (hc:w.cell? a=some v) (hb:a.block<B):w'.cell? a=some v:=by
 rw [h.cell hb];exact hc
theorem bcomp {w a b:World} (h:Below w.heap.size w a) (k:Below a.heap.size a b):Below w.heap.size w b:=h.trans (k.mono h.size)
theorem bcomp' {w a b:World} (k:Below a.heap.size a b) (h:Below w.heap.size w a):Below w.heap.size w b:=h.trans (k.mono h.size)
def Free (G:Option (Nat→Prop)) (T:TypeId) (w:World) (b:Nat):Prop:=∀ g,G=some g→g b∧∃ cs,w.heap[b]?=some (.cells cs T (0,0))
theorem Free.none (T:TypeId) (w:World) (b:Nat):Free Option.none T w b:=fun _ h=>by cases h
theorem Free.of {g:Nat→Prop} {T:TypeId} {w:World} {b:Nat} {cs:Array Value} (h:g b) (hb:w.heap[b]?=some (.cells cs T (0,0))):Free (some g) T w b:=fun g' e=>by cases e;exact ⟨h,cs,hb⟩
theorem Free.keep {G:Option (Nat→Prop)} {T:TypeId} {w w':World} {b:Nat} (h:Free G T w b) (hb:b<w.heap.size) (k:Below w.heap.size w w'):Free G T w' b:=
 fun g e=>⟨(h g e).1,by obtain ⟨cs,hc⟩:=(h g e).2;exact ⟨cs,(k.block b hb).trans hc⟩⟩
def upFrom (n:Nat):Nat→Prop:=fun b=>n≤b
def within (n m:Nat):Nat→Prop:=fun b=>n≤b∧b<m
theorem flat_get {α:Type} (f:α→List Value) (sz:Nat) (hf:∀ x,(f x).length=sz):∀ (l:List α) (i j:Nat) (x:α),l[i]?=some x→j<sz→(l.flatMap f)[i * sz+j]?=(f x)[j]?
 | [],i,j,x,h,_=>by simp at h
 | y :: r,0,j,x,h,hj=>by
  simp at h;subst h
  rw [List.flatMap_cons,Nat.zero_mul,Nat.zero_add,List.getElem?_append_left (by rw [hf];exact hj)]
 | y :: r,i+1,j,x,h,hj=>by
  rw [List.flatMap_cons,List.getElem?_append_right (by rw [hf,Nat.add_mul];omega),hf,show (i+1) * sz+j - sz=i * sz+j from by rw [Nat.add_mul];omega]
  exact flat_get f sz hf r i j x (by simpa using h) hj
theorem flat_take {α:Type} (f:α→List Value) (l:List α) (k:Nat) (x:α) (h:l[k]?=some x):(l.take (k+1)).flatMap f=(l.take k).flatMap f ++ f x:=by
 rw [List.take_add_one,h];simp
theorem flat_length {α:Type} (f:α→List Value) (sz:Nat) (hf:∀ x,(f x).length=sz):∀ l:List α,(l.flatMap f).length=l.length * sz
 | []=>by simp
 | y :: r=>by rw [List.flatMap_cons,List.length_append,hf,flat_length f sz hf r,List.length_cons,Nat.add_mul];omega
theorem own_read {w:World} {base:Nat} {e:TypeId} {size:Nat} {v:Value} {n:Nat} {xs:List Value} (h:w.ownsRow base e size v n xs) :
  ∃ a c,v=.slice a n c∧∀ j u,xs[j]?=some u→∃ g,a=some ⟨g,0,none⟩∧Free (some (upFrom base)) e w g∧w.cell? ⟨g,0+j,none⟩=some u:=by
 obtain ⟨hl,⟨rfl,rfl⟩|⟨g,cap,cur,rfl,hg,hb,hn,hc,hs,ht⟩⟩:=h
 ·refine ⟨none,0,rfl,fun j u hj=>?_⟩
  have:j<xs.length:=(List.getElem?_eq_some_iff.1 hj).1
  omega
 ·refine ⟨_,cap,rfl,fun j u hj=>⟨g,rfl,Free.of hg hb,?_⟩⟩
  ·rw [cell_of_row w g (0+j) cur _ (0,0) hb,Nat.zero_add]
   subst ht
   rw [List.getElem?_take] at hj
   split at hj
   ·rw [← Array.getElem?_toList];exact hj
   ·cases hj
theorem own_cap {w:World} {base:Nat} {e:TypeId} {size:Nat} {a:Option Addr} {c n:Nat} {xs:List Value} (h:w.ownsRow base e size (.slice a n c) n xs):n≤c:=by
 obtain ⟨_,⟨h1,h2⟩|⟨g,cap,cur,h1,_,_,hn,_⟩⟩:=h
 ·omega
 ·simp only [Value.slice.injEq] at h1;omega
theorem own_below {w w':World} {base:Nat} {e:TypeId} {size:Nat} {v:Value} {n:Nat} {xs:List Value} (h:w.ownsRow base e size v n xs) (hb:Below w.heap.size w w'):w'.ownsRow base e size v n xs:=by
 obtain ⟨hl,h|⟨g,cap,cur,rfl,hg,hc,hr⟩⟩:=h
 ·exact ⟨hl,.inl h⟩
 ·exact ⟨hl,.inr ⟨g,cap,cur,rfl,hg,(hb.block g (Array.getElem?_eq_some_iff.1 hc).1).trans hc,hr⟩⟩
theorem own_row_le {w:World} {base:Nat} {e:TypeId} {size:Nat} {v:Value} {n:Nat} {xs:List Value} (h:w.ownsRow base e size v n xs):∀ k,v.ownBlock=some k→base≤k:=by
 obtain ⟨_,⟨rfl,_⟩|⟨g,cap,cur,rfl,hg,_⟩⟩:=h
 ·intro k hk;simp [Value.ownBlock] at hk
 ·intro k hk;simp [Value.ownBlock] at hk;omega
theorem many_new (w:World) (xs:List Value) (t:TypeId):∀ j u,xs[j]?=some u→(w.alloc (.cells xs.toArray t)).cell? ((⟨w.heap.size,0,none⟩:Addr).add j)=some u:=by
 intro j u hj
 have e:(⟨w.heap.size,0,none⟩:Addr).add j=⟨w.heap.size,j,none⟩:=by simp [Addr.add];omega
 rw [e,cell_of_row _ _ j xs.toArray t (0,0) (heap_alloc_new w _)]
 simpa using hj
def InI64 (n:Int):Prop:=-9223372036854775808≤n∧n≤9223372036854775807
def InU64 (n:Int):Prop:=0≤n∧n<18446744073709551616
def InU8 (n:Int):Prop:=0≤n∧n≤255
theorem heap2_of {w wr:World} {A B:Obj} (hb:Below ((w.alloc A).alloc B).heap.size ((w.alloc A).alloc B) wr):wr.heap[w.heap.size]?=some A∧wr.heap[w.heap.size+1]?=some B∧Below w.heap.size w wr:=by
 have e:((w.alloc A).alloc B).heap.size=w.heap.size+1+1:=by
  show ((w.heap.push A).push B).size=_
  simp
 have hb':=hb
 rw [e] at hb
 exact ⟨(hb.block _ (by omega)).trans (heap_alloc2_old _ _ _),(hb.block _ (by omega)).trans (heap_alloc2_new _ _ _),(((Below.refl _ _).alloc (Nat.le_refl _) _).alloc (by simp) _).trans (hb'.mono (by rw [e];omega))⟩
theorem row_of {w:World} {g:Nat} {t:TypeId} {cs:Array Value} (hg:w.heap[g]?=some (.cells cs t (0,0))) (j:Nat) (v:Value) (h:cs[j]?=some v):w.cell? ⟨g,j,none⟩=some v:=by
 rw [cell_of_row w g j cs t (0,0) hg,h]
theorem below_row {B:Nat} {a w:World} (h:Below B a w) {g:Nat} (hg:B≤g) (cs:Array Value):Below B a (w.setRow g cs):=
 h.trans ⟨rfl,rfl,rfl,by simp,fun k hk=>setRow_other _ _ _ _ (by omega)⟩
theorem own_at {w:World} {base:Nat} {e:TypeId} {size:Nat} {v:Value} {n:Nat} {xs:List Value} (h:w.ownsRow base e size v n xs) (hp:0<xs.length) :
  ∃ g c,v=.slice (some ⟨g,0,none⟩) n c∧Free (some (upFrom base)) e w g∧∀ j u,xs[j]?=some u→w.cell? ⟨g,0+j,none⟩=some u:=by
 obtain ⟨a,c,rfl,hr⟩:=own_read h
 obtain ⟨g,rfl,hf,_⟩:=hr 0 _ (List.getElem?_eq_getElem hp)
 refine ⟨g,c,rfl,hf,fun j u hj=>?_⟩
 obtain ⟨g',e',_,hc⟩:=hr j u hj
 simp only [Option.some.injEq,Addr.mk.injEq,and_true] at e'
 subst e'
 exact hc
theorem grown_hF {base E:Nat} {w w':World} {v:Value} {size n:Nat} {xs:List Value} (hown:w.ownsRow base E size v n xs) (hg:w.grownBy w' v.ownBlock) :
  ∀ T b,T ≠ E→b<w.heap.size→Free (some (upFrom base)) T w b→Free (some (upFrom base)) T w' b:=by
 intro T b hT hb hf k e
 cases e
 obtain ⟨h1,cs,h2⟩:=hf _ rfl
 refine ⟨h1,cs,(hg.block b hb ?_).trans h2⟩
 intro e
 obtain ⟨_,⟨rfl,_⟩|⟨g,cap,cur,rfl,_,hb',_⟩⟩:=hown
 ·simp [Value.ownBlock] at e
 ·simp only [Value.ownBlock,Option.some.injEq] at e
  subst e
  rw [hb'] at h2
  simp at h2
  exact hT h2.2.symm
theorem grown_hC {base E:Nat} {w w':World} {v:Value} {size n:Nat} {xs:List Value} (hown:w.ownsRow base E size v n xs) (hg:w.grownBy w' v.ownBlock) :
  ∀ T b o u,T ≠ E→Free (some (upFrom base)) T w b→w.cell? ⟨b,o,none⟩=some u→w'.cell? ⟨b,o,none⟩=some u:=by
 intro T b o u hT hf hc
 have hb:=block_lt_of_cell hc
 obtain ⟨h1,cs,h2⟩:=hf _ rfl
 have:w'.heap[b]?=w.heap[b]?:=by
  refine hg.block b hb ?_
  intro e
  obtain ⟨_,⟨rfl,_⟩|⟨g,cap,cur,rfl,_,hb',_⟩⟩:=hown
  ·simp [Value.ownBlock] at e
  ·simp only [Value.ownBlock,Option.some.injEq] at e
   subst e
   rw [hb'] at h2
   simp at h2
   exact hT h2.2.symm
 rw [World.cell?_of_block (w:=w) this];exact hc
/-! ### lists of elements of sz cells each -/
structure Kind (α:Type) where
 T:TypeId
 sz:Nat
 bytes:Nat
 cells:α→List Value
 ok:α→Prop
 len:∀ x,(cells x).length=sz
 pos:0<sz
def RdRow {α:Type} (K:Kind α) (lo:Option (Nat→Prop)) (w:World) (v:Value) (l:List α):Prop:=
 ∃ a c,v=.slice a l.length c∧(l.length * K.bytes≤140737488351232∧l.length≤c)∧∀ i x,l[i]?=some x→∃ b o,a=some ⟨b,o,none⟩∧Free lo K.T w b∧(∀ j u,(K.cells x)[j]?=some u→w.cell? ⟨b,o+i * K.sz+j,none⟩=some u)∧K.ok x
theorem RdRow.lt {α:Type} {K:Kind α} {w:World} {b o:Nat} {x:α} (h:∀ j u,(K.cells x)[j]?=some u→w.cell? ⟨b,o+j,none⟩=some u):b<w.heap.size:=by
 have hp:0<(K.cells x).length:=by rw [K.len];exact K.pos
 exact block_lt_of_cell (h 0 _ (List.getElem?_eq_getElem hp))
theorem RdRow.map {α:Type} {K:Kind α} {lo lo':Option (Nat→Prop)} {w w':World} (hF:∀ b,b<w.heap.size→Free lo K.T w b→Free lo' K.T w' b) (hC:∀ b o v,Free lo K.T w b→w.cell? ⟨b,o,none⟩=some v→w'.cell? ⟨b,o,none⟩=some v)
  {v:Value} {l:List α} (h:RdRow K lo w v l):RdRow K lo' w' v l:=by
 obtain ⟨a,c,rfl,hl,hr⟩:=h
 refine ⟨a,c,rfl,hl,fun i x hx=>?_⟩
 obtain ⟨b,o,rfl,hf,h0,hz⟩:=hr i x hx
 exact ⟨b,o,rfl,hF b (RdRow.lt h0) hf,fun j u hj=>hC _ _ _ hf (h0 j u hj),hz⟩
theorem RdRow.keep {α:Type} {K:Kind α} {lo:Option (Nat→Prop)} {w w':World} {v:Value} {l:List α} (h:RdRow K lo w v l) (k:Below w.heap.size w w'):RdRow K lo w' v l:=
 RdRow.map (fun _ hb hf=>hf.keep hb k) (fun _ _ _ _ hc=>cell_keep k hc) h
theorem RdRow.forget {α:Type} {K:Kind α} {lo:Option (Nat→Prop)} {w:World} {v:Value} {l:List α} (h:RdRow K lo w v l):RdRow K none w v l:=
 RdRow.map (fun _ _ _=>Free.none _ _ _) (fun _ _ _ _ hc=>hc) h
theorem RdRow.same {α:Type} {K:Kind α} {g g':Nat→Prop} {w w':World} {v:Value} {l:List α} (h:RdRow K (some g) w v l) (k:∀ b,g b→b<w.heap.size→w'.heap[b]?=w.heap[b]?) (hg:∀ b,b<w.heap.size→g b→g' b):RdRow K (some g') w' v l:=
 RdRow.map (fun b hb hf=>by obtain ⟨h1,cs,h2⟩:=hf g rfl;exact Free.of (hg b hb h1) ((k b h1 hb).trans h2))
  (fun b o v hf hc=>by obtain ⟨h1,cs,h2⟩:=hf g rfl;rw [World.cell?_of_block (w:=w) (k b h1 (block_lt_of_cell hc))];exact hc) h
theorem RdRow.up {α:Type} {K:Kind α} {n m:Nat} {w:World} {v:Value} {l:List α} (h:RdRow K (some (upFrom n)) w v l) (hm:m≤n):RdRow K (some (upFrom m)) w v l:=RdRow.same h (fun _ _ _=>rfl) (fun _ _ k=>Nat.le_trans hm k)
theorem RdRow.ok {α:Type} {K:Kind α} {lo:Option (Nat→Prop)} {w:World} {v:Value} {l:List α} (h:RdRow K lo w v l):∀ x ∈ l,K.ok x:=by
 obtain ⟨a,c,rfl,hl,hr⟩:=h
 intro x hx
 obtain ⟨i,hi⟩:=List.getElem?_of_mem hx
 obtain ⟨b,o,_,_,_,h1⟩:=hr i x hi
 exact h1
theorem RdRow.is {α:Type} {K:Kind α} {lo:Option (Nat→Prop)} {w:World} {v:Value} {l:List α} (h:RdRow K lo w v l):∃ a c,v=.slice a l.length c:=by
 obtain ⟨a,c,rfl,_⟩:=h;exact ⟨a,c,rfl⟩
theorem RdRow.at {α:Type} {K:Kind α} {lo:Option (Nat→Prop)} {w:World} {a:Option Addr} {n c:Nat} {l:List α} (h:RdRow K lo w (.slice a n c) l) {i:Nat} {x:α} (hx:l[i]?=some x) :
  ∃ b o,a=some ⟨b,o,none⟩∧Free lo K.T w b∧(∀ j u,(K.cells x)[j]?=some u→w.cell? ⟨b,o+i * K.sz+j,none⟩=some u)∧K.ok x:=by
 obtain ⟨a',c',e,hl,hr⟩:=h
 simp only [Value.slice.injEq] at e
 obtain ⟨rfl,_,_⟩:=e
 exact hr i x hx
theorem RdRow.size {α:Type} {K:Kind α} {lo:Option (Nat→Prop)} {w:World} {v:Value} {l:List α} (h:RdRow K lo w v l):l.length * K.bytes≤140737488351232:=by
 obtain ⟨_,_,_,hl,_⟩:=h;exact hl.1
theorem RdRow.take {α:Type} {K:Kind α} {lo:Option (Nat→Prop)} {w:World} {a:Option Addr} {n c:Nat} {l:List α} (h:RdRow K lo w (.slice a n c) l) (k:Nat) (hk:k≤l.length):RdRow K lo w (.slice a k c) (l.take k):=by
 obtain ⟨a',c',e,hl,hr⟩:=h
 simp only [Value.slice.injEq] at e
 obtain ⟨rfl,_,rfl⟩:=e
 have hlen:(l.take k).length=k:=by rw [List.length_take];omega
 refine ⟨a,c,by rw [hlen],⟨Nat.le_trans (Nat.mul_le_mul_right _ (by omega)) hl.1,by omega⟩,fun i x hx=>hr i x ?_⟩
 rw [List.getElem?_take] at hx
 split at hx
 ·exact hx
 ·cases hx
theorem own_rows {α:Type} {K:Kind α} {w:World} {base:Nat} {v:Value} {l:List α} (h:w.ownsRow base K.T K.sz v l.length (l.flatMap K.cells)) (hl:l.length * K.bytes≤140737488351232) (hs:∀ s ∈ l,K.ok s):RdRow K (some (upFrom base)) w v l:=by
 obtain ⟨a,c,rfl,_⟩:=own_read h
 refine ⟨a,c,rfl,⟨hl,own_cap h⟩,fun i x hi=>?_⟩
 have hi':i<l.length:=(List.getElem?_eq_some_iff.1 hi).1
 have hlen:0<(l.flatMap K.cells).length:=by rw [flat_length K.cells K.sz K.len];exact Nat.mul_pos (by omega) K.pos
 obtain ⟨g,c',e',hf,hc⟩:=own_at h hlen
 simp only [Value.slice.injEq] at e'
 obtain ⟨rfl,_,_⟩:=e'
 refine ⟨g,0,rfl,hf,fun j u hj=>?_,hs x (List.mem_of_getElem? hi)⟩
 have hjl:j<K.sz:=by rw [← K.len x];exact (List.getElem?_eq_some_iff.1 hj).1
 have:=hc (i * K.sz+j) u (by rw [flat_get K.cells K.sz K.len l i j x hi hjl];exact hj)
 rw [Nat.zero_add] at this ⊢
 exact this
end Go.Proofs.YtkjkpddajjmloaaGreatDoor
