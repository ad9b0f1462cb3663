/- Small laws on worlds, and what it means that a value reads as a list of elements of some fixed number of cells: plain lemmas, no Go function in sight. -/
import Derived.Test.YtgllkgedjplpdaaGreatDoorLib
import Derived.WalkKit
import Derived.ProofKit
import Derived.OpenShut
import Derived.WalkSpells
import Derived.WalkLawsBesides
import Derived.Lib.Hide
set_option linter.all false
set_option maxRecDepth 1000000
set_option maxHeartbeats 12800000
namespace Go.Proofs.YtgllkgedjplpdaaGreatDoor
open Go.ChangeShapes Go.WideShapes Go.ChangeAt Go.RowKit
structure Kind (α:Type) where
 T:TypeId
 sz:Nat
 bytes:Nat
 cells:α->List Value
 ok:α->Prop
 len:∀ x,(cells x).length=sz
 pos:0<sz
def RdRow {α:Type} (K:Kind α) (lo:Option (Nat->Prop)) (w:World) (v:Value) (l:List α):Prop:=
 ∃ a c,v=.slice a l.length c/\(l.length * K.bytes<=140737488351232/\l.length<=c)/\∀ i x,l[i]?=some x->∃ b o,a=some ⟨b,o,none⟩/\Free lo K.T w b/\(∀ j u,(K.cells x)[j]?=some u->w.cell? ⟨b,o+i * K.sz+j,none⟩=some u)/\K.ok x
theorem RdRow.lt {α:Type} {K:Kind α} {w:World} {b o:Nat} {x:α} (h:∀ j u,(K.cells x)[j]?=some u->w.cell? ⟨b,o+j,none⟩=some u):b<w.heap.size:=by
 have hp:0<(K.cells x).length:=by rw [K.len];exact K.pos
 exact block_lt_of_cell (h 0 _ (lG hp))
theorem RdRow.map {α:Type} {K:Kind α} {lo lo':Option (Nat->Prop)} {w w':World} (hF:∀ b,b<w.heap.size->Free lo K.T w b->Free lo' K.T w' b) (hC:∀ b o v,Free lo K.T w b->w.cell? ⟨b,o,none⟩=some v->w'.cell? ⟨b,o,none⟩=some v)
  {v:Value} {l:List α} (h:RdRow K lo w v l):RdRow K lo' w' v l:=by
 obtain ⟨a,c,rfl,hl,hr⟩:=h
 refine ⟨a,c,rfl,hl,fun i x hx=>?_⟩
 obtain ⟨b,o,rfl,hf,h0,hz⟩:=hr i x hx
 exact ⟨b,o,rfl,hF b (RdRow.lt h0) hf,fun j u hj=>hC _ _ _ hf (h0 j u hj),hz⟩
theorem RdRow.keep {α:Type} {K:Kind α} {lo:Option (Nat->Prop)} {w w':World} {v:Value} {l:List α} (h:RdRow K lo w v l) (k:Below w.heap.size w w'):RdRow K lo w' v l:=
 RdRow.map (fun _ hb hf=>hf.keep hb k) (fun _ _ _ _ hc=>cell_keep k hc) h
theorem RdRow.forget {α:Type} {K:Kind α} {lo:Option (Nat->Prop)} {w:World} {v:Value} {l:List α} (h:RdRow K lo w v l):RdRow K none w v l:=
 RdRow.map (fun _ _ _=>Free.none _ _ _) (fun _ _ _ _ hc=>hc) h
theorem RdRow.same {α:Type} {K:Kind α} {g g':Nat->Prop} {w w':World} {v:Value} {l:List α} (h:RdRow K (some g) w v l) (k:∀ b,g b->b<w.heap.size->w'.heap[b]?=w.heap[b]?) (hg:∀ b,b<w.heap.size->g b->g' b):RdRow K (some g') w' v l:=
 RdRow.map (fun b hb hf=>by obtain ⟨h1,cs,h2⟩:=hf g rfl;exact Free.of (hg b hb h1) ((k b h1 hb).trans h2))
  (fun b o v hf hc=>by obtain ⟨h1,cs,h2⟩:=hf g rfl;rw [World.cell?_of_block (w:=w) (k b h1 (block_lt_of_cell hc))];exact hc) h
theorem RdRow.up {α:Type} {K:Kind α} {n m:Nat} {w:World} {v:Value} {l:List α} (h:RdRow K (some (upFrom n)) w v l) (hm:m<=n):RdRow K (some (upFrom m)) w v l:=RdRow.same h (fun _ _ _=>rfl) (fun _ _ k=>Nat.le_trans hm k)
theorem RdRow.ok {α:Type} {K:Kind α} {lo:Option (Nat->Prop)} {w:World} {v:Value} {l:List α} (h:RdRow K lo w v l):∀ x ∈ l,K.ok x:=by
 obtain ⟨a,c,rfl,hl,hr⟩:=h
 intro x hx
 obtain ⟨i,hi⟩:=List.getElem?_of_mem hx
 obtain ⟨b,o,_,_,_,h1⟩:=hr i x hi
 exact h1
theorem RdRow.is {α:Type} {K:Kind α} {lo:Option (Nat->Prop)} {w:World} {v:Value} {l:List α} (h:RdRow K lo w v l):∃ a c,v=.slice a l.length c:=by
 obtain ⟨a,c,rfl,_⟩:=h;exact ⟨a,c,rfl⟩
theorem RdRow.at {α:Type} {K:Kind α} {lo:Option (Nat->Prop)} {w:World} {a:Option Addr} {n c:Nat} {l:List α} (h:RdRow K lo w (.slice a n c) l) {i:Nat} {x:α} (hx:l[i]?=some x) :
  ∃ b o,a=some ⟨b,o,none⟩/\Free lo K.T w b/\(∀ j u,(K.cells x)[j]?=some u->w.cell? ⟨b,o+i * K.sz+j,none⟩=some u)/\K.ok x:=by
 obtain ⟨a',c',e,hl,hr⟩:=h
 simp only [Value.slice.injEq] at e
 obtain ⟨rfl,_,_⟩:=e
 exact hr i x hx
theorem RdRow.size {α:Type} {K:Kind α} {lo:Option (Nat->Prop)} {w:World} {v:Value} {l:List α} (h:RdRow K lo w v l):l.length * K.bytes<=140737488351232:=by
 obtain ⟨_,_,_,hl,_⟩:=h;exact hl.1
theorem RdRow.take {α:Type} {K:Kind α} {lo:Option (Nat->Prop)} {w:World} {a:Option Addr} {n c:Nat} {l:List α} (h:RdRow K lo w (.slice a n c) l) (k:Nat) (hk:k<=l.length):RdRow K lo w (.slice a k c) (l.take k):=by
 obtain ⟨a',c',e,hl,hr⟩:=h
 simp only [Value.slice.injEq] at e
 obtain ⟨rfl,_,rfl⟩:=e
 have hlen:(l.take k).length=k:=by rw [List.length_take];omega
 refine ⟨a,c,by rw [hlen],⟨Nat.le_trans (Nat.mul_le_mul_right _ (by omega)) hl.1,by omega⟩,fun i x hx=>hr i x ?_⟩
 rw [List.getElem?_take] at hx
 split at hx
 ·exact hx
 ·cases hx
theorem own_rows {α:Type} {K:Kind α} {w:World} {base:Nat} {v:Value} {l:List α} (h:w.ownsRow base K.T K.sz v l.length (l.flatMap K.cells)) (hl:l.length * K.bytes<=140737488351232) (hs:∀ s ∈ l,K.ok s):RdRow K (some (upFrom base)) w v l:=by
 obtain ⟨a,c,rfl,_⟩:=own_read h
 refine ⟨a,c,rfl,⟨hl,own_cap h⟩,fun i x hi=>?_⟩
 have hi':i<l.length:=(lE hi).1
 have hlen:0<(l.flatMap K.cells).length:=by rw [flat_length K.cells K.sz K.len];exact Nat.mul_pos (by omega) K.pos
 obtain ⟨g,c',e',hf,hc⟩:=own_at h hlen
 simp only [Value.slice.injEq] at e'
 obtain ⟨rfl,_,_⟩:=e'
 refine ⟨g,0,rfl,hf,fun j u hj=>?_,hs x (List.mem_of_getElem? hi)⟩
 have hjl:j<K.sz:=by rw [<- K.len x];exact (lE hj).1
 have:=hc (i * K.sz+j) u (by rw [flat_get K.cells K.sz K.len l i j x hi hjl];exact hj)
 rw [Nat.zero_add] at this ⊢
 exact this
end Go.Proofs.YtgllkgedjplpdaaGreatDoor
