/- Small laws on worlds, and what it means that a value reads as a list, an instruction, a function or a program: plain lemmas, no Go function in sight. -/
import Derived.Test.YtgllkgedjplpdaaGreatDoorSh
import Derived.WalkKit
import Derived.ProofKit
import Derived.OpenShut
import Derived.WalkSpells
import Derived.WalkLawsBesides
import Derived.Lib.Hide
set_option linter.all false
set_option maxRecDepth 1000000
set_option maxHeartbeats 12800000
namespace Go.Proofs.YtgllkgedjplpdaaGreatDoor
open Go.ChangeShapes Go.WideShapes Go.ChangeAt Go.RowKit
theorem cell_keep {w w':World} (h:Below w.heap.size w w') {a:Addr} {v:Value} (hc:w.cell? a=some v):w'.cell? a=some v:=by
 rw [h.cell (block_lt_of_cell hc)];exact hc
theorem cell_keepB {B:Nat} {w w':World} (h:Below B w w') {a:Addr} {v:Value} (hc:w.cell? a=some v) (hb:a.block<B):w'.cell? a=some v:=by
 rw [h.cell hb];exact hc
theorem bcomp {w a b:World} (h:Below w.heap.size w a) (k:Below a.heap.size a b):Below w.heap.size w b:=h.trans (k.mono h.size)
theorem free_keep {w w':World} (h:Below w.heap.size w w') {b o:Nat} {v:Value} (hc:w.cell? ⟨b,o,none⟩=some v) (hf:w.frozen? ⟨b,o,none⟩=false):w'.frozen? ⟨b,o,none⟩=false:=by
 have hb:b<w.heap.size:=block_lt_of_cell hc
 rw [<- hf];exact h.frozen hb
theorem bcomp' {w a b:World} (k:Below a.heap.size a b) (h:Below w.heap.size w a):Below w.heap.size w b:=h.trans (k.mono h.size)
def Free (G:Option (Nat->Prop)) (T:TypeId) (w:World) (b:Nat):Prop:=∀ g,G=some g->g b/\∃ cs,w.heap[b]?=some (.cells cs T (0,0))
theorem Free.none (T:TypeId) (w:World) (b:Nat):Free Option.none T w b:=fun _ h=>by cases h
theorem Free.of {g:Nat->Prop} {T:TypeId} {w:World} {b:Nat} {cs:Array Value} (h:g b) (hb:w.heap[b]?=some (.cells cs T (0,0))):Free (some g) T w b:=fun g' e=>by cases e;exact ⟨h,cs,hb⟩
theorem Free.keep {G:Option (Nat->Prop)} {T:TypeId} {w w':World} {b:Nat} (h:Free G T w b) (hb:b<w.heap.size) (k:Below w.heap.size w w'):Free G T w' b:=
 fun g e=>⟨(h g e).1,by obtain ⟨cs,hc⟩:=(h g e).2;exact ⟨cs,(k.block b hb).trans hc⟩⟩
theorem Free.frozen {g:Nat->Prop} {T:TypeId} {w:World} {b:Nat} (h:Free (some g) T w b) (o:Nat):w.frozen? ⟨b,o,Option.none⟩=false:=by
 obtain ⟨_,cs,hc⟩:=h g rfl
 exact frozen_of_row w b o cs _ hc
def upFrom (n:Nat):Nat->Prop:=fun b=>n<=b
def within (n m:Nat):Nat->Prop:=fun b=>n<=b/\b<m
theorem flat_get {α:Type} (f:α->List Value) (sz:Nat) (hf:∀ x,(f x).length=sz):∀ (l:List α) (i j:Nat) (x:α),l[i]?=some x->j<sz->(l.flatMap f)[i * sz+j]?=(f x)[j]?
 | [],i,j,x,h,_=>by simp at h
 | y :: r,0,j,x,h,hj=>by
  simp at h;subst h
  rw [List.flatMap_cons,Nat.zero_mul,Nat.zero_add,List.getElem?_append_left (by rw [hf];exact hj)]
 | y :: r,i+1,j,x,h,hj=>by
  rw [List.flatMap_cons,List.getElem?_append_right (by rw [hf,Nat.add_mul];omega),hf,show (i+1) * sz+j - sz=i * sz+j from by rw [Nat.add_mul];omega]
  exact flat_get f sz hf r i j x (by simpa using h) hj
theorem flat_take {α:Type} (f:α->List Value) (l:List α) (k:Nat) (x:α) (h:l[k]?=some x):(l.take (k+1)).flatMap f=(l.take k).flatMap f ++ f x:=by
 rw [List.take_add_one,h];simp
theorem flat_length {α:Type} (f:α->List Value) (sz:Nat) (hf:∀ x,(f x).length=sz):∀ l:List α,(l.flatMap f).length=l.length * sz
 | []=>by simp
 | y :: r=>by rw [List.flatMap_cons,List.length_append,hf,flat_length f sz hf r,List.length_cons,Nat.add_mul];omega
theorem own_read {w:World} {base:Nat} {e:TypeId} {size:Nat} {v:Value} {n:Nat} {xs:List Value} (h:w.ownsRow base e size v n xs) :
  ∃ a c,v=.slice a n c/\∀ j u,xs[j]?=some u->∃ g,a=some ⟨g,0,none⟩/\Free (some (upFrom base)) e w g/\w.cell? ⟨g,0+j,none⟩=some u:=by
 obtain ⟨hl,⟨rfl,rfl⟩|⟨g,cap,cur,rfl,hg,hb,hn,hc,hs,ht⟩⟩:=h
 ·refine ⟨none,0,rfl,fun j u hj=>?_⟩
  have:j<xs.length:=(lE hj).1
  omega
 ·refine ⟨_,cap,rfl,fun j u hj=>⟨g,rfl,Free.of hg hb,?_⟩⟩
  ·rw [cell_of_row w g (0+j) cur _ (0,0) hb,Nat.zero_add]
   subst ht
   rw [List.getElem?_take] at hj
   split at hj
   ·rw [<- Array.getElem?_toList];exact hj
   ·cases hj
theorem own_cap {w:World} {base:Nat} {e:TypeId} {size:Nat} {a:Option Addr} {c n:Nat} {xs:List Value} (h:w.ownsRow base e size (.slice a n c) n xs):n<=c:=by
 obtain ⟨_,⟨h1,h2⟩|⟨g,cap,cur,h1,_,_,hn,_⟩⟩:=h
 ·omega
 ·simp only [Value.slice.injEq] at h1;omega
theorem own_below {w w':World} {base:Nat} {e:TypeId} {size:Nat} {v:Value} {n:Nat} {xs:List Value} (h:w.ownsRow base e size v n xs) (hb:Below w.heap.size w w'):w'.ownsRow base e size v n xs:=by
 obtain ⟨hl,h|⟨g,cap,cur,rfl,hg,hc,hr⟩⟩:=h
 ·exact ⟨hl,.inl h⟩
 ·exact ⟨hl,.inr ⟨g,cap,cur,rfl,hg,(hb.block g (aE hc).1).trans hc,hr⟩⟩
theorem own_row_le {w:World} {base:Nat} {e:TypeId} {size:Nat} {v:Value} {n:Nat} {xs:List Value} (h:w.ownsRow base e size v n xs):∀ k,v.ownBlock=some k->base<=k:=by
 obtain ⟨_,⟨rfl,_⟩|⟨g,cap,cur,rfl,hg,_⟩⟩:=h
 ·intro k hk;simp [Value.ownBlock] at hk
 ·intro k hk;simp [Value.ownBlock] at hk;omega
theorem many_new (w:World) (xs:List Value) (t:TypeId):∀ j u,xs[j]?=some u->(w.alloc (.cells xs.toArray t)).cell? ((⟨w.heap.size,0,none⟩:Addr).add j)=some u:=by
 intro j u hj
 have e:(⟨w.heap.size,0,none⟩:Addr).add j=⟨w.heap.size,j,none⟩:=by simp [Addr.add];omega
 rw [e,cell_of_row _ _ j xs.toArray t (0,0) (heap_alloc_new w _)]
 simpa using hj
structure ArgD where
 name:ByteArray
 num:Int
structure InstrD where
 kind:Int
 op:Int
 dst:ByteArray
 name:ByteArray
 args:List ArgD
 line:Int
 col:Int
structure ArrD where
 name:ByteArray
 size:Int
structure FuncD where
 name:ByteArray
 params:List ByteArray
 code:List InstrD
 line:Int
 col:Int
structure ProgD where
 width:Int
 chans:List ByteArray
 arrays:List ArrD
 funcs:List FuncD
 main:List InstrD
def InI64 (n:Int):Prop:=-9223372036854775808<=n/\n<=9223372036854775807
def InU64 (n:Int):Prop:=0<=n/\n<18446744073709551616
def InU8 (n:Int):Prop:=0<=n/\n<=255
def RdStrs (lo:Option (Nat->Prop)) (w:World) (v:Value) (l:List ByteArray):Prop:=
 ∃ a c,v=.slice a l.length c/\(l.length * 16<=140737488351232/\l.length<=c)/\∀ i s,l[i]?=some s->∃ b o,a=some ⟨b,o,none⟩/\Free lo 9 w b/\w.cell? ⟨b,o+i,none⟩=some (.string s)/\s.size<=maxLen
def RdArrs (lo:Option (Nat->Prop)) (w:World) (v:Value) (l:List ArrD):Prop:=
 ∃ a c,v=.slice a l.length c/\(l.length * 24<=140737488351232/\l.length<=c)/\∀ i s,l[i]?=some s->∃ b o,a=some ⟨b,o,none⟩/\Free lo 96 w b /\
  w.cell? ⟨b,o+i * 2,none⟩=some (.string s.name)/\w.cell? ⟨b,o+i * 2+1,none⟩=some (.int .i64 s.size)/\InI64 s.size/\s.name.size<=maxLen
def RdArgs (lo:Option (Nat->Prop)) (w:World) (v:Value) (l:List ArgD):Prop:=
 ∃ a c,v=.slice a l.length c/\(l.length * 24<=140737488351232/\l.length<=c)/\∀ i s,l[i]?=some s->∃ b o,a=some ⟨b,o,none⟩/\Free lo 47 w b /\
  w.cell? ⟨b,o+i * 2,none⟩=some (.string s.name)/\w.cell? ⟨b,o+i * 2+1,none⟩=some (.int .u64 s.num)/\InU64 s.num/\s.name.size<=maxLen
def RdInstr (lo:Option (Nat->Prop)) (w:World) (x:InstrD) (av:Value):Prop:=
 RdArgs lo w av x.args/\InU8 x.kind/\InU8 x.op/\InI64 x.line/\InI64 x.col/\x.dst.size<=maxLen/\x.name.size<=maxLen
def RdInstrs (lo:Option (Nat->Prop)) (w:World) (v:Value) (l:List InstrD):Prop:=
 ∃ a c,v=.slice a l.length c/\(l.length * 80<=140737488351232/\l.length<=c)/\∀ i s,l[i]?=some s->∃ b o av,a=some ⟨b,o,none⟩/\Free lo 50 w b /\
  w.cell? ⟨b,o+i * 7,none⟩=some (.int .u8 s.kind)/\w.cell? ⟨b,o+i * 7+1,none⟩=some (.int .u8 s.op) /\
  w.cell? ⟨b,o+i * 7+2,none⟩=some (.string s.dst)/\w.cell? ⟨b,o+i * 7+3,none⟩=some (.string s.name) /\
  w.cell? ⟨b,o+i * 7+4,none⟩=some av/\w.cell? ⟨b,o+i * 7+5,none⟩=some (.int .i64 s.line)/\w.cell? ⟨b,o+i * 7+6,none⟩=some (.int .i64 s.col) /\
  RdInstr lo w s av
def RdFunc (lo:Option (Nat->Prop)) (w:World) (x:FuncD) (pv cv:Value):Prop:=
 RdStrs lo w pv x.params/\RdInstrs lo w cv x.code/\InI64 x.line/\InI64 x.col/\x.name.size<=maxLen
def RdFuncs (lo:Option (Nat->Prop)) (w:World) (v:Value) (l:List FuncD):Prop:=
 ∃ a c,v=.slice a l.length c/\(l.length * 80<=140737488351232/\l.length<=c)/\∀ i s,l[i]?=some s->∃ b o pv cv,a=some ⟨b,o,none⟩/\Free lo 52 w b /\
  w.cell? ⟨b,o+i * 5,none⟩=some (.string s.name)/\w.cell? ⟨b,o+i * 5+1,none⟩=some pv/\w.cell? ⟨b,o+i * 5+2,none⟩=some cv /\
  w.cell? ⟨b,o+i * 5+3,none⟩=some (.int .i64 s.line)/\w.cell? ⟨b,o+i * 5+4,none⟩=some (.int .i64 s.col)/\RdFunc lo w s pv cv
def RdProg (lo:Option (Nat->Prop)) (w:World) (p:ProgD) (cv av fv mv:Value):Prop:=
 RdStrs lo w cv p.chans/\RdArrs lo w av p.arrays/\RdFuncs lo w fv p.funcs/\RdInstrs lo w mv p.main/\InI64 p.width
section
variable {lo lo':Option (Nat->Prop)} {w w':World} {S:TypeId->Prop} (hF:∀ T b,S T->b<w.heap.size->Free lo T w b->Free lo' T w' b) (hC:∀ T b o v,S T->Free lo T w b->w.cell? ⟨b,o,none⟩=some v->w'.cell? ⟨b,o,none⟩=some v)
include hF hC
theorem RdStrs.map (hS:S 9) {v:Value} {l:List ByteArray} (h:RdStrs lo w v l):RdStrs lo' w' v l:=by
 obtain ⟨a,c,rfl,hl,hr⟩:=h
 refine ⟨a,c,rfl,hl,fun i s hs=>?_⟩
 obtain ⟨b,o,rfl,hf,h0,hz⟩:=hr i s hs
 exact ⟨b,o,rfl,hF _ b hS (block_lt_of_cell h0) hf,hC _ _ _ _ hS hf h0,hz⟩
theorem RdArrs.map (hS:S 96) {v:Value} {l:List ArrD} (h:RdArrs lo w v l):RdArrs lo' w' v l:=by
 obtain ⟨a,c,rfl,hl,hr⟩:=h
 refine ⟨a,c,rfl,hl,fun i s hs=>?_⟩
 obtain ⟨b,o,rfl,hf,h0,h1,hz⟩:=hr i s hs
 exact ⟨b,o,rfl,hF _ b hS (block_lt_of_cell h0) hf,hC _ _ _ _ hS hf h0,hC _ _ _ _ hS hf h1,hz⟩
theorem RdArgs.map (hS:S 47) {v:Value} {l:List ArgD} (h:RdArgs lo w v l):RdArgs lo' w' v l:=by
 obtain ⟨a,c,rfl,hl,hr⟩:=h
 refine ⟨a,c,rfl,hl,fun i s hs=>?_⟩
 obtain ⟨b,o,rfl,hf,h0,h1,hz⟩:=hr i s hs
 exact ⟨b,o,rfl,hF _ b hS (block_lt_of_cell h0) hf,hC _ _ _ _ hS hf h0,hC _ _ _ _ hS hf h1,hz⟩
theorem RdInstr.map (hA:S 47) {x:InstrD} {av:Value} (h:RdInstr lo w x av):RdInstr lo' w' x av:=⟨RdArgs.map hF hC hA h.1,h.2⟩
theorem RdInstrs.map (hS:S 50) (hA:S 47) {v:Value} {l:List InstrD} (h:RdInstrs lo w v l):RdInstrs lo' w' v l:=by
 obtain ⟨a,c,rfl,hl,hr⟩:=h
 refine ⟨a,c,rfl,hl,fun i s hs=>?_⟩
 obtain ⟨b,o,av,rfl,hf,h0,h1,h2,h3,h4,h5,h6,h7⟩:=hr i s hs
 exact ⟨b,o,av,rfl,hF _ b hS (block_lt_of_cell h0) hf,hC _ _ _ _ hS hf h0,hC _ _ _ _ hS hf h1,hC _ _ _ _ hS hf h2,hC _ _ _ _ hS hf h3,hC _ _ _ _ hS hf h4,hC _ _ _ _ hS hf h5,hC _ _ _ _ hS hf h6,RdInstr.map hF hC hA h7⟩
theorem RdFunc.map (hP:S 9) (hS:S 50) (hA:S 47) {x:FuncD} {pv cv:Value} (h:RdFunc lo w x pv cv):RdFunc lo' w' x pv cv:=⟨RdStrs.map hF hC hP h.1,RdInstrs.map hF hC hS hA h.2.1,h.2.2⟩
theorem RdFuncs.map (hU:S 52) (hP:S 9) (hS:S 50) (hA:S 47) {v:Value} {l:List FuncD} (h:RdFuncs lo w v l):RdFuncs lo' w' v l:=by
 obtain ⟨a,c,rfl,hl,hr⟩:=h
 refine ⟨a,c,rfl,hl,fun i s hs=>?_⟩
 obtain ⟨b,o,pv,cv,rfl,hf,h0,h1,h2,h3,h4,h5⟩:=hr i s hs
 exact ⟨b,o,pv,cv,rfl,hF _ b hU (block_lt_of_cell h0) hf,hC _ _ _ _ hU hf h0,hC _ _ _ _ hU hf h1,hC _ _ _ _ hU hf h2,hC _ _ _ _ hU hf h3,hC _ _ _ _ hU hf h4,RdFunc.map hF hC hP hS hA h5⟩
theorem RdProg.map (hR:S 96) (hU:S 52) (hP:S 9) (hS:S 50) (hA:S 47) {p:ProgD} {cv av fv mv:Value} (h:RdProg lo w p cv av fv mv):RdProg lo' w' p cv av fv mv:=
 ⟨RdStrs.map hF hC hP h.1,RdArrs.map hF hC hR h.2.1,RdFuncs.map hF hC hU hP hS hA h.2.2.1,RdInstrs.map hF hC hS hA h.2.2.2.1,h.2.2.2.2⟩
end
def Any:TypeId->Prop:=fun _=>True
def From (n:Nat) (w w':World):Prop:=∀ b,n<=b->b<w.heap.size->w'.heap[b]?=w.heap[b]?
theorem From.refl (n:Nat) (w:World):From n w w:=fun _ _ _=>rfl
theorem From.setCell {n:Nat} {w w':World} (h:From n w w') {a:Addr} (ha:a.block<n) (v:Value):From n w (w'.setCell a v):=
 fun b hb hl=>(Below.heap_setCell _ _ _ _ (by omega)).trans (h b hb hl)
theorem From.setRow {n:Nat} {w w':World} (h:From n w w') {g:Nat} (hg:g<n) (cs:Array Value):From n w (w'.setRow g cs):=
 fun b hb hl=>(setRow_other _ _ _ _ (by omega)).trans (h b hb hl)
theorem same_hF {g g':Nat->Prop} {w w':World} (h:∀ b,g b->b<w.heap.size->w'.heap[b]?=w.heap[b]?) (hg:∀ b,b<w.heap.size->g b->g' b):∀ T b,Any T->b<w.heap.size->Free (some g) T w b->Free (some g') T w' b:=by
 intro T b _ hb hf k e
 cases e
 obtain ⟨h1,cs,h2⟩:=hf g rfl
 exact ⟨hg b hb h1,cs,(h b h1 hb).trans h2⟩
theorem same_hC {g:Nat->Prop} {w w':World} (h:∀ b,g b->b<w.heap.size->w'.heap[b]?=w.heap[b]?):∀ T b o v,Any T->Free (some g) T w b->w.cell? ⟨b,o,none⟩=some v->w'.cell? ⟨b,o,none⟩=some v:=by
 intro T b o v _ hf hc
 rw [World.cell?_of_block (w:=w) (h b (hf g rfl).1 (block_lt_of_cell hc))];exact hc
theorem keep_hF {lo:Option (Nat->Prop)} {w w':World} (k:Below w.heap.size w w'):∀ T b,Any T->b<w.heap.size->Free lo T w b->Free lo T w' b:=fun _ _ _ hb h=>h.keep hb k
theorem keep_hC {lo:Option (Nat->Prop)} {w w':World} (k:Below w.heap.size w w'):∀ T b o v,Any T->Free lo T w b->w.cell? ⟨b,o,none⟩=some v->w'.cell? ⟨b,o,none⟩=some v:=fun _ _ _ _ _ _ h=>cell_keep k h
theorem forget_hF {lo:Option (Nat->Prop)} {w:World}:∀ T b,Any T->b<w.heap.size->Free lo T w b->Free Option.none T w b:=fun T b _ _ _=>Free.none T w b
theorem forget_hC {lo:Option (Nat->Prop)} {w:World}:∀ T b o v,Any T->Free lo T w b->w.cell? ⟨b,o,none⟩=some v->w.cell? ⟨b,o,none⟩=some v:=fun _ _ _ _ _ _ h=>h
theorem RdStrs.keep {lo:Option (Nat->Prop)} {w w':World} {v:Value} {l:List ByteArray} (h:RdStrs lo w v l) (k:Below w.heap.size w w'):RdStrs lo w' v l:=RdStrs.map (keep_hF k) (keep_hC k) trivial h
theorem RdStrs.forget {lo:Option (Nat->Prop)} {w:World} {v:Value} {l:List ByteArray} (h:RdStrs lo w v l):RdStrs none w v l:=RdStrs.map forget_hF forget_hC trivial h
theorem RdStrs.same {g g':Nat->Prop} {w w':World} {v:Value} {l:List ByteArray} (h:RdStrs (some g) w v l) (k:∀ b,g b->b<w.heap.size->w'.heap[b]?=w.heap[b]?) (hg:∀ b,b<w.heap.size->g b->g' b):RdStrs (some g') w' v l:=RdStrs.map (same_hF k hg) (same_hC k) trivial h
theorem RdArrs.keep {lo:Option (Nat->Prop)} {w w':World} {v:Value} {l:List ArrD} (h:RdArrs lo w v l) (k:Below w.heap.size w w'):RdArrs lo w' v l:=RdArrs.map (keep_hF k) (keep_hC k) trivial h
theorem RdArrs.same {g g':Nat->Prop} {w w':World} {v:Value} {l:List ArrD} (h:RdArrs (some g) w v l) (k:∀ b,g b->b<w.heap.size->w'.heap[b]?=w.heap[b]?) (hg:∀ b,b<w.heap.size->g b->g' b):RdArrs (some g') w' v l:=RdArrs.map (same_hF k hg) (same_hC k) trivial h
theorem RdArgs.keep {lo:Option (Nat->Prop)} {w w':World} {v:Value} {l:List ArgD} (h:RdArgs lo w v l) (k:Below w.heap.size w w'):RdArgs lo w' v l:=RdArgs.map (keep_hF k) (keep_hC k) trivial h
theorem RdArgs.same {g g':Nat->Prop} {w w':World} {v:Value} {l:List ArgD} (h:RdArgs (some g) w v l) (k:∀ b,g b->b<w.heap.size->w'.heap[b]?=w.heap[b]?) (hg:∀ b,b<w.heap.size->g b->g' b):RdArgs (some g') w' v l:=RdArgs.map (same_hF k hg) (same_hC k) trivial h
theorem RdInstr.keep {lo:Option (Nat->Prop)} {w w':World} {x:InstrD} {av:Value} (h:RdInstr lo w x av) (k:Below w.heap.size w w'):RdInstr lo w' x av:=RdInstr.map (keep_hF k) (keep_hC k) trivial h
theorem RdInstr.forget {lo:Option (Nat->Prop)} {w:World} {x:InstrD} {av:Value} (h:RdInstr lo w x av):RdInstr none w x av:=RdInstr.map forget_hF forget_hC trivial h
theorem RdInstr.same {g g':Nat->Prop} {w w':World} {x:InstrD} {av:Value} (h:RdInstr (some g) w x av) (k:∀ b,g b->b<w.heap.size->w'.heap[b]?=w.heap[b]?) (hg:∀ b,b<w.heap.size->g b->g' b):RdInstr (some g') w' x av:=RdInstr.map (same_hF k hg) (same_hC k) trivial h
theorem RdInstrs.keep {lo:Option (Nat->Prop)} {w w':World} {v:Value} {l:List InstrD} (h:RdInstrs lo w v l) (k:Below w.heap.size w w'):RdInstrs lo w' v l:=RdInstrs.map (keep_hF k) (keep_hC k) trivial trivial h
theorem RdInstrs.same {g g':Nat->Prop} {w w':World} {v:Value} {l:List InstrD} (h:RdInstrs (some g) w v l) (k:∀ b,g b->b<w.heap.size->w'.heap[b]?=w.heap[b]?) (hg:∀ b,b<w.heap.size->g b->g' b):RdInstrs (some g') w' v l:=RdInstrs.map (same_hF k hg) (same_hC k) trivial trivial h
theorem RdFunc.keep {lo:Option (Nat->Prop)} {w w':World} {x:FuncD} {pv cv:Value} (h:RdFunc lo w x pv cv) (k:Below w.heap.size w w'):RdFunc lo w' x pv cv:=RdFunc.map (keep_hF k) (keep_hC k) trivial trivial trivial h
theorem RdFunc.same {g g':Nat->Prop} {w w':World} {x:FuncD} {pv cv:Value} (h:RdFunc (some g) w x pv cv) (k:∀ b,g b->b<w.heap.size->w'.heap[b]?=w.heap[b]?) (hg:∀ b,b<w.heap.size->g b->g' b):RdFunc (some g') w' x pv cv:=RdFunc.map (same_hF k hg) (same_hC k) trivial trivial trivial h
theorem RdFuncs.keep {lo:Option (Nat->Prop)} {w w':World} {v:Value} {l:List FuncD} (h:RdFuncs lo w v l) (k:Below w.heap.size w w'):RdFuncs lo w' v l:=RdFuncs.map (keep_hF k) (keep_hC k) trivial trivial trivial trivial h
theorem RdFuncs.same {g g':Nat->Prop} {w w':World} {v:Value} {l:List FuncD} (h:RdFuncs (some g) w v l) (k:∀ b,g b->b<w.heap.size->w'.heap[b]?=w.heap[b]?) (hg:∀ b,b<w.heap.size->g b->g' b):RdFuncs (some g') w' v l:=RdFuncs.map (same_hF k hg) (same_hC k) trivial trivial trivial trivial h
theorem RdProg.keep {lo:Option (Nat->Prop)} {w w':World} {p:ProgD} {cv av fv mv:Value} (h:RdProg lo w p cv av fv mv) (k:Below w.heap.size w w'):RdProg lo w' p cv av fv mv:=RdProg.map (keep_hF k) (keep_hC k) trivial trivial trivial trivial trivial h
theorem RdProg.forget {lo:Option (Nat->Prop)} {w:World} {p:ProgD} {cv av fv mv:Value} (h:RdProg lo w p cv av fv mv):RdProg none w p cv av fv mv:=RdProg.map forget_hF forget_hC trivial trivial trivial trivial trivial h
theorem RdProg.same {g g':Nat->Prop} {w w':World} {p:ProgD} {cv av fv mv:Value} (h:RdProg (some g) w p cv av fv mv) (k:∀ b,g b->b<w.heap.size->w'.heap[b]?=w.heap[b]?) (hg:∀ b,b<w.heap.size->g b->g' b):RdProg (some g') w' p cv av fv mv:=RdProg.map (same_hF k hg) (same_hC k) trivial trivial trivial trivial trivial h
theorem heap2_of {w wr:World} {A B:Obj} (hb:Below ((w.alloc A).alloc B).heap.size ((w.alloc A).alloc B) wr):wr.heap[w.heap.size]?=some A/\wr.heap[w.heap.size+1]?=some B/\Below w.heap.size w wr:=by
 have e:((w.alloc A).alloc B).heap.size=w.heap.size+1+1:=by
  show ((w.heap.push A).push B).size=_
  simp
 have hb':=hb
 rw [e] at hb
 exact ⟨(hb.block _ (by omega)).trans (heap_alloc2_old _ _ _),(hb.block _ (by omega)).trans (heap_alloc2_new _ _ _),(((bR _ _).alloc (nR _) _).alloc (by simp) _).trans (hb'.mono (by rw [e];omega))⟩
theorem heap1_of {w wr:World} {A:Obj} (hb:Below (w.alloc A).heap.size (w.alloc A) wr):wr.heap[w.heap.size]?=some A/\Below w.heap.size w wr:=by
 have e:(w.alloc A).heap.size=w.heap.size+1:=by
  show (w.heap.push A).size=_
  simp
 have hb':=hb
 rw [e] at hb
 exact ⟨(hb.block _ (by omega)).trans (heap_alloc_new _ _),((bR _ _).alloc (nR _) _).trans (hb'.mono (by rw [e];omega))⟩
theorem row_of {w:World} {g:Nat} {t:TypeId} {cs:Array Value} (hg:w.heap[g]?=some (.cells cs t (0,0))) (j:Nat) (v:Value) (h:cs[j]?=some v):w.cell? ⟨g,j,none⟩=some v:=by
 rw [cell_of_row w g j cs t (0,0) hg,h]
theorem below_row {B:Nat} {a w:World} (h:Below B a w) {g:Nat} (hg:B<=g) (cs:Array Value):Below B a (w.setRow g cs):=
 h.trans ⟨rfl,rfl,rfl,by simp,fun k hk=>setRow_other _ _ _ _ (by omega)⟩
def strCells (x:ByteArray):List Value:=[.string x]
theorem own_strs {w:World} {base:Nat} {v:Value} {l:List ByteArray} (h:w.ownsRow base 9 1 v l.length (l.flatMap strCells)) (hl:l.length * 16<=140737488351232) (hs:∀ s ∈ l,s.size<=maxLen):RdStrs (some (upFrom base)) w v l:=by
 obtain ⟨a,c,rfl,hr⟩:=own_read h
 refine ⟨a,c,rfl,⟨hl,own_cap h⟩,fun i s hi=>?_⟩
 obtain ⟨g,rfl,hf,hc⟩:=hr i (.string s) (by have:=flat_get strCells 1 (fun _=>rfl) l i 0 s hi (by omega);rw [Nat.mul_one,Nat.add_zero] at this;rw [this];rfl)
 exact ⟨g,0,rfl,hf,hc,hs s (List.mem_of_getElem? hi)⟩
def arrCells (x:ArrD):List Value:=[.string x.name,.int .i64 x.size]
def argCells (x:ArgD):List Value:=[.string x.name,.int .u64 x.num]
theorem own_arrs {w:World} {base:Nat} {v:Value} {l:List ArrD} (h:w.ownsRow base 96 2 v l.length (l.flatMap arrCells)) (hl:l.length * 24<=140737488351232) (hs:∀ s ∈ l,InI64 s.size/\s.name.size<=maxLen):RdArrs (some (upFrom base)) w v l:=by
 obtain ⟨a,c,rfl,hr⟩:=own_read h
 refine ⟨a,c,rfl,⟨hl,own_cap h⟩,fun i s hi=>?_⟩
 obtain ⟨g,rfl,hf,hc⟩:=hr (i * 2+0) (.string s.name) (by rw [flat_get arrCells 2 (fun _=>rfl) l i 0 s hi (by omega)];rfl)
 obtain ⟨g',e',_,hc'⟩:=hr (i * 2+1) (.int .i64 s.size) (by rw [flat_get arrCells 2 (fun _=>rfl) l i 1 s hi (by omega)];rfl)
 simp only [Option.some.injEq,Addr.mk.injEq,and_true] at e'
 subst e'
 exact ⟨g,0,rfl,hf,hc,hc',hs s (List.mem_of_getElem? hi)⟩
theorem own_args {w:World} {base:Nat} {v:Value} {l:List ArgD} (h:w.ownsRow base 47 2 v l.length (l.flatMap argCells)) (hl:l.length * 24<=140737488351232) (hs:∀ s ∈ l,InU64 s.num/\s.name.size<=maxLen):RdArgs (some (upFrom base)) w v l:=by
 obtain ⟨a,c,rfl,hr⟩:=own_read h
 refine ⟨a,c,rfl,⟨hl,own_cap h⟩,fun i s hi=>?_⟩
 obtain ⟨g,rfl,hf,hc⟩:=hr (i * 2+0) (.string s.name) (by rw [flat_get argCells 2 (fun _=>rfl) l i 0 s hi (by omega)];rfl)
 obtain ⟨g',e',_,hc'⟩:=hr (i * 2+1) (.int .u64 s.num) (by rw [flat_get argCells 2 (fun _=>rfl) l i 1 s hi (by omega)];rfl)
 simp only [Option.some.injEq,Addr.mk.injEq,and_true] at e'
 subst e'
 exact ⟨g,0,rfl,hf,hc,hc',hs s (List.mem_of_getElem? hi)⟩
def insCells (p:InstrD × Value):List Value:=[.int .u8 p.1.kind,.int .u8 p.1.op,.string p.1.dst,.string p.1.name,p.2,.int .i64 p.1.line,.int .i64 p.1.col]
def funCells (p:FuncD × Value × Value):List Value:=[.string p.1.name,p.2.1,p.2.2,.int .i64 p.1.line,.int .i64 p.1.col]
theorem own_at {w:World} {base:Nat} {e:TypeId} {size:Nat} {v:Value} {n:Nat} {xs:List Value} (h:w.ownsRow base e size v n xs) (hp:0<xs.length) :
  ∃ g c,v=.slice (some ⟨g,0,none⟩) n c/\Free (some (upFrom base)) e w g/\∀ j u,xs[j]?=some u->w.cell? ⟨g,0+j,none⟩=some u:=by
 obtain ⟨a,c,rfl,hr⟩:=own_read h
 obtain ⟨g,rfl,hf,_⟩:=hr 0 _ (lG hp)
 refine ⟨g,c,rfl,hf,fun j u hj=>?_⟩
 obtain ⟨g',e',_,hc⟩:=hr j u hj
 simp only [Option.some.injEq,Addr.mk.injEq,and_true] at e'
 subst e'
 exact hc
theorem own_instrs {w:World} {base:Nat} {v:Value} {l:List InstrD} {P:List (InstrD × Value)} (hP:P.map Prod.fst=l) (h:w.ownsRow base 50 7 v l.length (P.flatMap insCells)) (hl:l.length * 80<=140737488351232) (hs:∀ p ∈ P,RdInstr (some (upFrom base)) w p.1 p.2):RdInstrs (some (upFrom base)) w v l:=by
 have hlen:P.length=l.length:=by rw [<- hP,List.length_map]
 obtain ⟨a,c,rfl,_⟩:=own_read h
 refine ⟨a,c,rfl,⟨hl,own_cap h⟩,fun i s hi=>?_⟩
 have hi':i<P.length:=by rw [hlen];exact (lE hi).1
 obtain ⟨p,hp⟩:∃ p,P[i]?=some p:=⟨_,lG hi'⟩
 have hps:p.1=s:=by
  have:(P.map Prod.fst)[i]?=some p.1:=by rw [List.getElem?_map,hp];rfl
  rw [hP,hi] at this;exact (Option.some.inj this).symm
 obtain ⟨g,c',e',hf,hc⟩:=own_at h (by rw [flat_length insCells 7 (fun _=>rfl)];omega)
 simp only [Value.slice.injEq] at e'
 obtain ⟨rfl,_,_⟩:=e'
 have hg:∀ j,j<7->(P.flatMap insCells)[i * 7+j]?=(insCells p)[j]?:=fun j hj=>flat_get insCells 7 (fun _=>rfl) P i j p hp hj
 subst hps
 exact ⟨g,0,p.2,rfl,hf,hc _ _ (hg 0 (by omega)),hc _ _ (hg 1 (by omega)),hc _ _ (hg 2 (by omega)),hc _ _ (hg 3 (by omega)),hc _ _ (hg 4 (by omega)),hc _ _ (hg 5 (by omega)),hc _ _ (hg 6 (by omega)),hs p (List.mem_of_getElem? hp)⟩
theorem own_funcs {w:World} {base:Nat} {v:Value} {l:List FuncD} {P:List (FuncD × Value × Value)} (hP:P.map Prod.fst=l) (h:w.ownsRow base 52 5 v l.length (P.flatMap funCells)) (hl:l.length * 80<=140737488351232) (hs:∀ p ∈ P,RdFunc (some (upFrom base)) w p.1 p.2.1 p.2.2):RdFuncs (some (upFrom base)) w v l:=by
 have hlen:P.length=l.length:=by rw [<- hP,List.length_map]
 obtain ⟨a,c,rfl,_⟩:=own_read h
 refine ⟨a,c,rfl,⟨hl,own_cap h⟩,fun i s hi=>?_⟩
 have hi':i<P.length:=by rw [hlen];exact (lE hi).1
 obtain ⟨p,hp⟩:∃ p,P[i]?=some p:=⟨_,lG hi'⟩
 have hps:p.1=s:=by
  have:(P.map Prod.fst)[i]?=some p.1:=by rw [List.getElem?_map,hp];rfl
  rw [hP,hi] at this;exact (Option.some.inj this).symm
 obtain ⟨g,c',e',hf,hc⟩:=own_at h (by rw [flat_length funCells 5 (fun _=>rfl)];omega)
 simp only [Value.slice.injEq] at e'
 obtain ⟨rfl,_,_⟩:=e'
 have hg:∀ j,j<5->(P.flatMap funCells)[i * 5+j]?=(funCells p)[j]?:=fun j hj=>flat_get funCells 5 (fun _=>rfl) P i j p hp hj
 subst hps
 exact ⟨g,0,p.2.1,p.2.2,rfl,hf,hc _ _ (hg 0 (by omega)),hc _ _ (hg 1 (by omega)),hc _ _ (hg 2 (by omega)),hc _ _ (hg 3 (by omega)),hc _ _ (hg 4 (by omega)),hs p (List.mem_of_getElem? hp)⟩
theorem grown_hF {base E:Nat} {w w':World} {v:Value} {size n:Nat} {xs:List Value} (hown:w.ownsRow base E size v n xs) (hg:w.grownBy w' v.ownBlock) :
  ∀ T b,T ≠ E->b<w.heap.size->Free (some (upFrom base)) T w b->Free (some (upFrom base)) T w' b:=by
 intro T b hT hb hf k e
 cases e
 obtain ⟨h1,cs,h2⟩:=hf _ rfl
 refine ⟨h1,cs,(hg.block b hb ?_).trans h2⟩
 intro e
 obtain ⟨_,⟨rfl,_⟩|⟨g,cap,cur,rfl,_,hb',_⟩⟩:=hown
 ·simp [Value.ownBlock] at e
 ·simp only [Value.ownBlock,Option.some.injEq] at e
  subst e
  rw [hb'] at h2
  simp at h2
  exact hT h2.2.symm
theorem grown_hC {base E:Nat} {w w':World} {v:Value} {size n:Nat} {xs:List Value} (hown:w.ownsRow base E size v n xs) (hg:w.grownBy w' v.ownBlock) :
  ∀ T b o u,T ≠ E->Free (some (upFrom base)) T w b->w.cell? ⟨b,o,none⟩=some u->w'.cell? ⟨b,o,none⟩=some u:=by
 intro T b o u hT hf hc
 have hb:=block_lt_of_cell hc
 obtain ⟨h1,cs,h2⟩:=hf _ rfl
 have:w'.heap[b]?=w.heap[b]?:=by
  refine hg.block b hb ?_
  intro e
  obtain ⟨_,⟨rfl,_⟩|⟨g,cap,cur,rfl,_,hb',_⟩⟩:=hown
  ·simp [Value.ownBlock] at e
  ·simp only [Value.ownBlock,Option.some.injEq] at e
   subst e
   rw [hb'] at h2
   simp at h2
   exact hT h2.2.symm
 rw [World.cell?_of_block (w:=w) this];exact hc
theorem map_take_snoc {α β:Type} {P:List (α × β)} {l:List α} {k:Nat} {x:α} (y:β) (h:P.map Prod.fst=l.take k) (hx:l[k]?=some x):(P ++ [(x,y)]).map Prod.fst=l.take (k+1):=by
 rw [List.map_append,h,List.take_add_one,hx];rfl
theorem instr_grown {base:Nat} {W w':World} {v:Value} {size n:Nat} {xs:List Value} {x:InstrD} {av:Value} (hown:W.ownsRow base 50 size v n xs) (hg:W.grownBy w' v.ownBlock) (h:RdInstr (some (upFrom base)) W x av):RdInstr (some (upFrom base)) w' x av:=
 RdInstr.map (S:=fun T=>T ≠ 50) (grown_hF hown hg) (grown_hC hown hg) (by decide) h
theorem func_grown {base:Nat} {W w':World} {v:Value} {size n:Nat} {xs:List Value} {x:FuncD} {pv cv:Value} (hown:W.ownsRow base 52 size v n xs) (hg:W.grownBy w' v.ownBlock) (h:RdFunc (some (upFrom base)) W x pv cv):RdFunc (some (upFrom base)) w' x pv cv:=
 RdFunc.map (S:=fun T=>T ≠ 52) (grown_hF hown hg) (grown_hC hown hg) (by decide) (by decide) (by decide) h
theorem RdStrs.up {n m:Nat} {w:World} {v:Value} {l:List ByteArray} (h:RdStrs (some (upFrom n)) w v l) (hm:m<=n):RdStrs (some (upFrom m)) w v l:=RdStrs.same h (fun _ _ _=>rfl) (fun _ _ k=>Nat.le_trans hm k)
theorem RdInstr.up {n m:Nat} {w:World} {x:InstrD} {av:Value} (h:RdInstr (some (upFrom n)) w x av) (hm:m<=n):RdInstr (some (upFrom m)) w x av:=RdInstr.same h (fun _ _ _=>rfl) (fun _ _ k=>Nat.le_trans hm k)
theorem RdFunc.up {n m:Nat} {w:World} {x:FuncD} {pv cv:Value} (h:RdFunc (some (upFrom n)) w x pv cv) (hm:m<=n):RdFunc (some (upFrom m)) w x pv cv:=RdFunc.same h (fun _ _ _=>rfl) (fun _ _ k=>Nat.le_trans hm k)
theorem RdProg.up {n m:Nat} {w:World} {p:ProgD} {cv av fv mv:Value} (h:RdProg (some (upFrom n)) w p cv av fv mv) (hm:m<=n):RdProg (some (upFrom m)) w p cv av fv mv:=RdProg.same h (fun _ _ _=>rfl) (fun _ _ k=>Nat.le_trans hm k)
theorem rdArgs_one {lo:Option (Nat->Prop)} {w:World} {v:Value} {l:List ArgD} (h:RdArgs lo w v l):v.oneCell'=true:=by
 obtain ⟨a,c,rfl,_⟩:=h;rfl
theorem rdStrs_one {lo:Option (Nat->Prop)} {w:World} {v:Value} {l:List ByteArray} (h:RdStrs lo w v l):v.oneCell'=true:=by
 obtain ⟨a,c,rfl,_⟩:=h;rfl
theorem rdInstrs_one {lo:Option (Nat->Prop)} {w:World} {v:Value} {l:List InstrD} (h:RdInstrs lo w v l):v.oneCell'=true:=by
 obtain ⟨a,c,rfl,_⟩:=h;rfl
end Go.Proofs.YtgllkgedjplpdaaGreatDoor
