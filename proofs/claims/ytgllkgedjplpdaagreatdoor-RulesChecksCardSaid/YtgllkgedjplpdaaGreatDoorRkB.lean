/- Contracts of the reference's lattice, of its check of policies and of its rules. Condition: what comes in reads as the plain data. -/
import Derived.Test.YtgllkgedjplpdaaGreatDoorRuA
import Derived.Test.YtgllkgedjplpdaaGreatDoorMixK
import Derived.Maps.AppendAt
set_option linter.all false
set_option maxRecDepth 1000000
set_option maxHeartbeats 12800000
set_option linter.unusedVariables false
set_option linter.unusedSimpArgs false
namespace Go.Proofs.YtgllkgedjplpdaaGreatDoor
open Go.ChangeShapes Go.WideShapes Go.ChangeAt Go.RowKit
theorem own_in {w:World} {base:Nat} {e:TypeId} {size:Nat} {v:Value} {n:Nat} {xs:List Value} (h:w.ownsRow base e size v n xs) (hp:0<xs.length) :
  ∃ g c cur,v=.slice (some ⟨g,0,none⟩) n c/\w.heap[g]?=some (.cells cur e (0,0))/\base<=g/\(∀ j u,xs[j]?=some u->w.cell? ⟨g,j,none⟩=some u)/\∀ j,w.frozen? ⟨g,j,none⟩=false:=by
 obtain ⟨a,c,rfl,hr⟩:=own_read h
 obtain ⟨hl,⟨e0,e00⟩|⟨g,cap,cur,e1,hb,hg,r⟩⟩:=id h
 ·rw [e00,Nat.zero_mul] at hl;omega
 ·simp only [Value.slice.injEq,true_and] at e1
  obtain ⟨rfl,rfl⟩:=e1
  refine ⟨g,c,cur,rfl,hg,hb,fun j u hj=>?_,fun j=>frozen_of_row w g j _ _ hg⟩
  obtain ⟨g',e',_,hc⟩:=hr j u hj
  simp only [Option.some.injEq,Addr.mk.injEq,and_true] at e'
  subst e'
  simpa using hc
theorem made_rep {α:Type} (z:Value) (g:α->Value) (x:α) (hz:g x=z) (n:Nat):madeCells #[z] (n * 1)=((List.replicate n x).map g).toArray:=by
 rw [Nat.mul_one,List.map_replicate,hz]
 apply Array.ext_getElem?
 intro i
 simp only [madeCells,Array.getElem?_map,Array.getElem?_range,List.getElem?_toArray,List.getElem?_replicate]
 split
 ·simp [Nat.mod_one]
 ·rfl
theorem own_row {w:World} {base:Nat} {e:TypeId} {size:Nat} {v:Value} {n:Nat} {xs:List Value} (h:w.ownsRow base e size v n xs) {b:Nat} (hb:v.ownBlock=some b):∃ cs,w.heap[b]?=some (.cells cs e (0,0)):=by
 obtain ⟨_,⟨rfl,_⟩|⟨g,cap,cur,rfl,hg,hc,_⟩⟩:=h
 ·simp [Value.ownBlock] at hb
 ·simp [Value.ownBlock] at hb;subst hb;exact ⟨_,hc⟩
theorem own_same {w w':World} {base:Nat} {e:TypeId} {size:Nat} {v:Value} {n:Nat} {xs:List Value} (h:w.ownsRow base e size v n xs) (hb:∀ b,v.ownBlock=some b->w'.heap[b]?=w.heap[b]?):w'.ownsRow base e size v n xs:=by
 obtain ⟨hl,h|⟨g,cap,cur,rfl,hg,hc,hr⟩⟩:=h
 ·exact ⟨hl,.inl h⟩
 ·exact ⟨hl,.inr ⟨g,cap,cur,rfl,hg,(hb g rfl).trans hc,hr⟩⟩
theorem row_ne {w:World} {a b:Nat} {cs ds:Array Value} {S T:TypeId} {p q:Nat × Nat} (h:w.heap[a]?=some (.cells cs S p)) (k:w.heap[b]?=some (.cells ds T q)) (hT:S ≠ T):a ≠ b:=by
 rintro rfl
 rw [h] at k
 simp only [Option.some.injEq,Obj.cells.injEq] at k
 exact hT k.2.1
theorem own_lt {w:World} {base:Nat} {e:TypeId} {size:Nat} {v:Value} {n:Nat} {xs:List Value} (h:w.ownsRow base e size v n xs):∀ b,v.ownBlock=some b->b<w.heap.size:=by
 obtain ⟨_,⟨rfl,_⟩|⟨g,cap,cur,rfl,hg,hc,_⟩⟩:=h
 ·intro k hk;simp [Value.ownBlock] at hk
 ·intro k hk;simp [Value.ownBlock] at hk;subst hk;exact (aE hc).1
structure RefM (w:World) (lo p g c n:Nat) (B K:Nat->Nat) (M:Mat):Prop where
 hp:lo<=p
 top:w.cell? ⟨p,0,none⟩=some (.slice (some ⟨g,0,none⟩) n c)
 row:∀ i,i<n->w.cell? ⟨g,i,none⟩=some (.slice (some ⟨B i,0,none⟩) n (K i))
 el:∀ i j,i<n->j<n->w.cell? ⟨B i,j,none⟩=some (.bool (M i j))/\w.frozen? ⟨B i,j,none⟩=false
 apart:∀ i j,i<n->j<n->B i=B j->i=j
 nep:∀ i,i<n->B i ≠ p/\B i ≠ g
 lob:∀ i,i<n->lo<=B i
 small:n<=32
theorem RefM.keep {w w':World} {lo p g c n:Nat} {B K:Nat->Nat} {M:Mat} (h:RefM w lo p g c n B K M) (k:Below w.heap.size w w'):RefM w' lo p g c n B K M:=
 ⟨h.hp,cell_keep k h.top,fun i hi=>cell_keep k (h.row i hi),fun i j hi hj=>⟨cell_keep k (h.el i j hi hj).1,by
  rw [World.frozen?_of_block (w:=w) (k.block _ (block_lt_of_cell (h.el i j hi hj).1))];exact (h.el i j hi hj).2⟩,h.apart,h.nep,h.lob,h.small⟩
theorem RefM.congr {w:World} {lo p g c n:Nat} {B K:Nat->Nat} {M M':Mat} (h:RefM w lo p g c n B K M) (e:∀ i j,i<n->j<n->M i j=M' i j):RefM w lo p g c n B K M':=
 ⟨h.hp,h.top,h.row,fun i j hi hj=>by rw [<- e i j hi hj];exact h.el i j hi hj,h.apart,h.nep,h.lob,h.small⟩
def setM (M:Mat) (i j:Nat) (v:Bool):Mat:=fun x y=>if x=i/\y=j then v else M x y
theorem RefM.set {w:World} {lo p g c n:Nat} {B K:Nat->Nat} {M:Mat} (h:RefM w lo p g c n B K M) {i j:Nat} (hi:i<n) (hj:j<n) (v:Bool):RefM (w.setCell ⟨B i,j,none⟩ (.bool v)) lo p g c n B K (setM M i j v):=by
 refine ⟨h.hp,?_,fun x hx=>?_,fun x y hx hy=>?_,h.apart,h.nep,h.lob,h.small⟩
 ·rw [World.cell?_setCell_other _ _ _ _ (fun e=>by simp only [Addr.mk.injEq] at e;exact (h.nep i hi).1 e.1)];exact h.top
 ·rw [World.cell?_setCell_other _ _ _ _ (fun e=>by simp only [Addr.mk.injEq] at e;exact (h.nep i hi).2 e.1)];exact h.row x hx
 ·have h0:=h.el x y hx hy
  have hf:(w.setCell ⟨B i,j,none⟩ (.bool v)).frozen? ⟨B x,y,none⟩=false:=by rw [World.frozen?_setCell];exact h0.2
  refine ⟨?_,hf⟩
  by_cases e:x=i/\y=j
  ·obtain ⟨rfl,rfl⟩:=e
   rw [World.cell?_setCell_same _ _ _ h0.1]
   simp [setM]
  ·rw [World.cell?_setCell_other _ _ _ _ (fun e'=>by
    simp only [Addr.mk.injEq,and_true] at e'
    exact e ⟨h.apart x i hx hi e'.1.symm,e'.2.symm⟩),h0.1]
   simp [setM,e]
def RefLat (w:World) (v:Value) (L:LatD):Prop:=∃ lo p g c B K,v=.pointer (some ⟨p,0,none⟩)/\RefM w lo p g c L.n B K L.M
def boundQ (n:Nat) (M:Mat) (i k:Nat):Int:=match (List.range n).find? (boundM n M i k) with|some c=>c|none=>-1
theorem find_range {n k:Nat} {f:Nat->Bool} (hk:k<n) (hf:f k=true) (h:∀ i,i<k->f i=false):(List.range n).find? f=some k:=by
 rw [List.find?_eq_some_iff_getElem]
 refine ⟨hf,k,by simpa using hk,by simp,fun j hj=>?_⟩
 simp [h j hj]
theorem boundQ_some {n:Nat} {M:Mat} {i k c:Nat} (hc:c<n) (h:boundM n M i k c=true) (h0:∀ c',c'<c->boundM n M i k c'=false):boundQ n M i k=c:=by
 unfold boundQ;rw [find_range hc h h0]
theorem boundQ_none {n:Nat} {M:Mat} {i k:Nat} (h0:∀ c',c'<n->boundM n M i k c'=false):boundQ n M i k=-1:=by
 unfold boundQ
 rw [List.find?_eq_none.2 (fun x hx=>by rw [h0 x (by simpa using hx)];decide)]
theorem refJoin (L:LatD) (v:Value) (i k:Nat) (w:World) (h:RefLat w v L) (hi:i<L.n) (hk:k<L.n) :
  Calls Tryz.prog 98 #[v,.int .i64 i,.int .i64 k] w fun e w'=>e=.returned (.int .i64 (boundQ L.n L.M i k))/\w=w':=by
 obtain ⟨lo,p,g,c,B,K,rfl,h⟩:=h
 obtain ⟨R,hR⟩:∃ R,boundQ L.n L.M i k=R:=⟨_,rfl⟩
 rw [hR]
 have HR:=Hd hR
 have HM:=Hd h
 have hn:=h.small
 have t:=h.top
 clear hR h
 have hi1:(i:Int)<(L.n:Int):=by omega
 have hk1:(k:Int)<(L.n:Int):=by omega
 have ri:=HM.out.row i hi
 have rk:=HM.out.row k hk
 go_enter Tryz.func98,Tryz.ntmps98
 go_wp2_with fail
 go_loopw [7,8,9] (fun cv _ _ wr=>∃ m:Nat,m<=L.n/\cv=.int .i64 m/\w=wr/\Hid (∀ m',m'<m->boundM L.n L.M i k m'=false)) (fun cv _ _ _=>L.n - (intOf cv).toNat)
 case atStart=>exact ⟨0,Nat.zero_le _,rfl,rfl,(fun m h=>absurd h (Nat.not_lt_zero _))⟩
 case round=>
  obtain ⟨m,hm,rfl,rfl,HB⟩:=hrel
  by_cases hlt:m<L.n
  ·have hm1:(m:Int)<(L.n:Int):=by omega
   have rm:=HM.out.row m hlt
   obtain ⟨b1,h1⟩:∃ b,L.M i m=b:=⟨_,rfl⟩
   obtain ⟨b2,h2⟩:∃ b,L.M k m=b:=⟨_,rfl⟩
   have e1:=(HM.out.el i m (by omega) (by omega)).1
   have e2:=(HM.out.el k m (by omega) (by omega)).1
   rw [show L.M i m=b1 from h1] at e1
   rw [show L.M k m=b2 from h2] at e2
   have HE1:=Hd h1
   have HE2:=Hd h2
   clear h1 h2
   go_upto_region 4 with fail
   go_cut [8] from 19 to 41 (fun c8 wx=>c8=.bool (b1 && b2)/\w=wx)
   case first=>
    cases b1
    ·go_wp2_with fail
     go_meet
     exact ⟨rfl,rfl⟩
    ·cases b2
     ·go_wp2_with fail
      go_meet
      exact ⟨rfl,rfl⟩
     ·go_wp2_with fail
      go_meet
      exact ⟨rfl,rfl⟩
   case rest=>
    obtain ⟨rfl,rfl⟩:=hcut
    obtain ⟨b0,hb0⟩:∃ b,(b1 && b2)=b:=⟨_,rfl⟩
    rw [hb0]
    have HB0:Hid ((L.M i m && L.M k m)=b0):=by show _=_;rw [HE1.out,HE2.out];exact hb0
    clear hb0 e1 e2
    go_wp2_with fail
    go_loopw [8,9] (fun lv dv wr=>∃ (d:Nat) (l:Bool),d<=L.n/\dv=.int .i64 d/\lv=.bool l/\w=wr/\Hid (l=true ↔ b0=true/\∀ d',d'<d->(L.M m d' || !L.M i d' || !L.M k d')=true)/\Hid (l=false->b0=false \/ ∃ d',d'<L.n/\(L.M m d' || !L.M i d' || !L.M k d')=false)) (fun _ dv _=>L.n - (intOf dv).toNat)
    case atStart=>exact ⟨0,b0,Nat.zero_le _,rfl,rfl,rfl,⟨fun h=>⟨h,fun d h=>absurd h (Nat.not_lt_zero _)⟩,fun h=>h.1⟩,fun h=>.inl h⟩
    case round=>
     obtain ⟨d,l,hd,rfl,rfl,rfl,HD,HF⟩:=hrel
     cases l
     ·have HBM:Hid (boundM L.n L.M i k m=false):=by
       show _=_
       unfold boundM
       rw [HB0.out]
       rcases HF.out rfl with h|⟨d',h1,h2⟩
       ·rw [h,Bool.false_and]
       ·rw [Bool.and_eq_false_iff];right;exact allN_false.2 ⟨d',h1,h2⟩
      have HBN:Hid (∀ m',m'<m+1->boundM L.n L.M i k m'=false):=by
       intro m' h
       rcases Nat.lt_or_ge m' m with h2|h2
       ·exact HB.out m' h2
       ·obtain rfl:m'=m:=by omega
        exact HBM.out
      by_cases hdl:d<L.n
      ·have hd1:(d:Int)<(L.n:Int):=by omega
       go_wp2_with fail
       go_roundw
       case rel=>exact ⟨m+1,by omega,by go_num,by first|trivial|rfl,HBN.out⟩
       case measure=>simp [intOf];omega
      ·have hd1:¬ (d:Int)<(L.n:Int):=by omega
       go_wp2_with fail
       go_roundw
       case rel=>exact ⟨m+1,by omega,by go_num,by first|trivial|rfl,HBN.out⟩
       case measure=>simp [intOf];omega
     ·by_cases hdl:d<L.n
      ·have hd1:(d:Int)<(L.n:Int):=by omega
       have rd:=HM.out.row d hdl
       obtain ⟨x1,h1⟩:∃ b,L.M m d=b:=⟨_,rfl⟩
       obtain ⟨x2,h2⟩:∃ b,L.M i d=b:=⟨_,rfl⟩
       obtain ⟨x3,h3⟩:∃ b,L.M k d=b:=⟨_,rfl⟩
       have e1:=(HM.out.el m d (by omega) (by omega)).1
       have e2:=(HM.out.el i d (by omega) (by omega)).1
       have e3:=(HM.out.el k d (by omega) (by omega)).1
       rw [show L.M m d=x1 from h1] at e1
       rw [show L.M i d=x2 from h2] at e2
       rw [show L.M k d=x3 from h3] at e3
       have HC:Hid ((L.M m d || !L.M i d || !L.M k d)=(x1 || !x2 || !x3)):=by show _=_;rw [h1,h2,h3]
       clear h1 h2 h3
       obtain ⟨x0,hx0⟩:∃ b,(x1 || !x2 || !x3)=b:=⟨_,rfl⟩
       rw [hx0] at HC
       have HX0:=Hd hx0
       have HDN:Hid (x0=true ↔ b0=true/\∀ d',d'<d+1->(L.M m d' || !L.M i d' || !L.M k d')=true):=by
        obtain ⟨a1,a2⟩:=HD.out.1 rfl
        refine ⟨fun h=>⟨a1,fun d' h2=>?_⟩,fun h=>?_⟩
        ·rcases Nat.lt_or_ge d' d with h3|h3
         ·exact a2 d' h3
         ·obtain rfl:d'=d:=by omega
          rw [HC.out];exact h
        ·have:=h.2 d (by omega);rw [HC.out] at this;exact this
       have HFN:Hid (x0=false->b0=false \/ ∃ d',d'<L.n/\(L.M m d' || !L.M i d' || !L.M k d')=false):=fun h=>.inr ⟨d,hdl,by rw [HC.out];exact h⟩
       clear hx0
       cases x1
       ·cases x2
        ·obtain rfl:x0=true:=HX0.out.symm
         go_wp2_with fail
         go_roundw
         case rel=>exact ⟨d+1,_,by omega,by go_num,rfl,by first|trivial|rfl,HDN.out,HFN.out⟩
         case measure=>simp [intOf];omega
        ·cases x3
         ·obtain rfl:x0=true:=HX0.out.symm
          go_wp2_with fail
          go_roundw
          case rel=>exact ⟨d+1,_,by omega,by go_num,rfl,by first|trivial|rfl,HDN.out,HFN.out⟩
          case measure=>simp [intOf];omega
         ·obtain rfl:x0=false:=HX0.out.symm
          go_wp2_with fail
          go_roundw
          case rel=>exact ⟨d+1,_,by omega,by go_num,rfl,by first|trivial|rfl,HDN.out,HFN.out⟩
          case measure=>simp [intOf];omega
       ·obtain rfl:x0=true:=HX0.out.symm
        go_wp2_with fail
        go_roundw
        case rel=>exact ⟨d+1,_,by omega,by go_num,rfl,by first|trivial|rfl,HDN.out,HFN.out⟩
        case measure=>simp [intOf];omega
      ·have hd1:¬ (d:Int)<(L.n:Int):=by omega
       obtain rfl:d=L.n:=by omega
       obtain ⟨a1,a2⟩:=HD.out.1 rfl
       have HBT:Hid (boundM L.n L.M i k m=true):=by
        show _=_
        unfold boundM
        rw [HB0.out,a1,Bool.true_and]
        exact allN_iff.2 a2
       obtain rfl:R=m:=by rw [<- HR.out];exact boundQ_some hlt HBT.out HB.out
       go_wp2_with fail
       go_ret
       exact ⟨rfl,rfl⟩
  ·have hm1:¬ (m:Int)<(L.n:Int):=by omega
   obtain rfl:m=L.n:=by omega
   obtain rfl:R=-1:=by rw [<- HR.out];exact boundQ_none HB.out
   go_wp2_with fail
   go_ret
   exact ⟨rfl,rfl⟩
theorem refMeet (L:LatD) (v:Value) (i k:Nat) (w:World) (h:RefLat w v L) (hi:i<L.n) (hk:k<L.n) :
  Calls Tryz.prog 99 #[v,.int .i64 i,.int .i64 k] w fun e w'=>e=.returned (.int .i64 (boundQ L.n (flipM L.M) i k))/\w=w':=by
 obtain ⟨lo,p,g,c,B,K,rfl,h⟩:=h
 obtain ⟨R,hR⟩:∃ R,boundQ L.n (flipM L.M) i k=R:=⟨_,rfl⟩
 rw [hR]
 have HR:=Hd hR
 have HM:=Hd h
 have hn:=h.small
 have t:=h.top
 clear hR h
 have hi1:(i:Int)<(L.n:Int):=by omega
 have hk1:(k:Int)<(L.n:Int):=by omega
 have ri:=HM.out.row i hi
 have rk:=HM.out.row k hk
 go_enter Tryz.func99,Tryz.ntmps99
 go_wp2_with fail
 go_loopw [7,8,9] (fun cv _ _ wr=>∃ m:Nat,m<=L.n/\cv=.int .i64 m/\w=wr/\Hid (∀ m',m'<m->boundM L.n (flipM L.M) i k m'=false)) (fun cv _ _ _=>L.n - (intOf cv).toNat)
 case atStart=>exact ⟨0,Nat.zero_le _,rfl,rfl,(fun m h=>absurd h (Nat.not_lt_zero _))⟩
 case round=>
  obtain ⟨m,hm,rfl,rfl,HB⟩:=hrel
  by_cases hlt:m<L.n
  ·have hm1:(m:Int)<(L.n:Int):=by omega
   have rm:=HM.out.row m hlt
   obtain ⟨b1,h1⟩:∃ b,(flipM L.M) i m=b:=⟨_,rfl⟩
   obtain ⟨b2,h2⟩:∃ b,(flipM L.M) k m=b:=⟨_,rfl⟩
   have e1:=(HM.out.el m i (by omega) (by omega)).1
   have e2:=(HM.out.el m k (by omega) (by omega)).1
   rw [show L.M m i=b1 from h1] at e1
   rw [show L.M m k=b2 from h2] at e2
   have HE1:=Hd h1
   have HE2:=Hd h2
   clear h1 h2
   go_upto_region 4 with fail
   go_cut [8] from 19 to 41 (fun c8 wx=>c8=.bool (b1 && b2)/\w=wx)
   case first=>
    cases b1
    ·go_wp2_with fail
     go_meet
     exact ⟨rfl,rfl⟩
    ·cases b2
     ·go_wp2_with fail
      go_meet
      exact ⟨rfl,rfl⟩
     ·go_wp2_with fail
      go_meet
      exact ⟨rfl,rfl⟩
   case rest=>
    obtain ⟨rfl,rfl⟩:=hcut
    obtain ⟨b0,hb0⟩:∃ b,(b1 && b2)=b:=⟨_,rfl⟩
    rw [hb0]
    have HB0:Hid (((flipM L.M) i m && (flipM L.M) k m)=b0):=by show _=_;rw [HE1.out,HE2.out];exact hb0
    clear hb0 e1 e2
    go_wp2_with fail
    go_loopw [8,9] (fun lv dv wr=>∃ (d:Nat) (l:Bool),d<=L.n/\dv=.int .i64 d/\lv=.bool l/\w=wr/\Hid (l=true ↔ b0=true/\∀ d',d'<d->((flipM L.M) m d' || !(flipM L.M) i d' || !(flipM L.M) k d')=true)/\Hid (l=false->b0=false \/ ∃ d',d'<L.n/\((flipM L.M) m d' || !(flipM L.M) i d' || !(flipM L.M) k d')=false)) (fun _ dv _=>L.n - (intOf dv).toNat)
    case atStart=>exact ⟨0,b0,Nat.zero_le _,rfl,rfl,rfl,⟨fun h=>⟨h,fun d h=>absurd h (Nat.not_lt_zero _)⟩,fun h=>h.1⟩,fun h=>.inl h⟩
    case round=>
     obtain ⟨d,l,hd,rfl,rfl,rfl,HD,HF⟩:=hrel
     cases l
     ·have HBM:Hid (boundM L.n (flipM L.M) i k m=false):=by
       show _=_
       unfold boundM
       rw [HB0.out]
       rcases HF.out rfl with h|⟨d',h1,h2⟩
       ·rw [h,Bool.false_and]
       ·rw [Bool.and_eq_false_iff];right;exact allN_false.2 ⟨d',h1,h2⟩
      have HBN:Hid (∀ m',m'<m+1->boundM L.n (flipM L.M) i k m'=false):=by
       intro m' h
       rcases Nat.lt_or_ge m' m with h2|h2
       ·exact HB.out m' h2
       ·obtain rfl:m'=m:=by omega
        exact HBM.out
      by_cases hdl:d<L.n
      ·have hd1:(d:Int)<(L.n:Int):=by omega
       go_wp2_with fail
       go_roundw
       case rel=>exact ⟨m+1,by omega,by go_num,by first|trivial|rfl,HBN.out⟩
       case measure=>simp [intOf];omega
      ·have hd1:¬ (d:Int)<(L.n:Int):=by omega
       go_wp2_with fail
       go_roundw
       case rel=>exact ⟨m+1,by omega,by go_num,by first|trivial|rfl,HBN.out⟩
       case measure=>simp [intOf];omega
     ·by_cases hdl:d<L.n
      ·have hd1:(d:Int)<(L.n:Int):=by omega
       have rd:=HM.out.row d hdl
       obtain ⟨x1,h1⟩:∃ b,(flipM L.M) m d=b:=⟨_,rfl⟩
       obtain ⟨x2,h2⟩:∃ b,(flipM L.M) i d=b:=⟨_,rfl⟩
       obtain ⟨x3,h3⟩:∃ b,(flipM L.M) k d=b:=⟨_,rfl⟩
       have e1:=(HM.out.el d m (by omega) (by omega)).1
       have e2:=(HM.out.el d i (by omega) (by omega)).1
       have e3:=(HM.out.el d k (by omega) (by omega)).1
       rw [show L.M d m=x1 from h1] at e1
       rw [show L.M d i=x2 from h2] at e2
       rw [show L.M d k=x3 from h3] at e3
       have HC:Hid (((flipM L.M) m d || !(flipM L.M) i d || !(flipM L.M) k d)=(x1 || !x2 || !x3)):=by show _=_;rw [h1,h2,h3]
       clear h1 h2 h3
       obtain ⟨x0,hx0⟩:∃ b,(x1 || !x2 || !x3)=b:=⟨_,rfl⟩
       rw [hx0] at HC
       have HX0:=Hd hx0
       have HDN:Hid (x0=true ↔ b0=true/\∀ d',d'<d+1->((flipM L.M) m d' || !(flipM L.M) i d' || !(flipM L.M) k d')=true):=by
        obtain ⟨a1,a2⟩:=HD.out.1 rfl
        refine ⟨fun h=>⟨a1,fun d' h2=>?_⟩,fun h=>?_⟩
        ·rcases Nat.lt_or_ge d' d with h3|h3
         ·exact a2 d' h3
         ·obtain rfl:d'=d:=by omega
          rw [HC.out];exact h
        ·have:=h.2 d (by omega);rw [HC.out] at this;exact this
       have HFN:Hid (x0=false->b0=false \/ ∃ d',d'<L.n/\((flipM L.M) m d' || !(flipM L.M) i d' || !(flipM L.M) k d')=false):=fun h=>.inr ⟨d,hdl,by rw [HC.out];exact h⟩
       clear hx0
       cases x1
       ·cases x2
        ·obtain rfl:x0=true:=HX0.out.symm
         go_wp2_with fail
         go_roundw
         case rel=>exact ⟨d+1,_,by omega,by go_num,rfl,by first|trivial|rfl,HDN.out,HFN.out⟩
         case measure=>simp [intOf];omega
        ·cases x3
         ·obtain rfl:x0=true:=HX0.out.symm
          go_wp2_with fail
          go_roundw
          case rel=>exact ⟨d+1,_,by omega,by go_num,rfl,by first|trivial|rfl,HDN.out,HFN.out⟩
          case measure=>simp [intOf];omega
         ·obtain rfl:x0=false:=HX0.out.symm
          go_wp2_with fail
          go_roundw
          case rel=>exact ⟨d+1,_,by omega,by go_num,rfl,by first|trivial|rfl,HDN.out,HFN.out⟩
          case measure=>simp [intOf];omega
       ·obtain rfl:x0=true:=HX0.out.symm
        go_wp2_with fail
        go_roundw
        case rel=>exact ⟨d+1,_,by omega,by go_num,rfl,by first|trivial|rfl,HDN.out,HFN.out⟩
        case measure=>simp [intOf];omega
      ·have hd1:¬ (d:Int)<(L.n:Int):=by omega
       obtain rfl:d=L.n:=by omega
       obtain ⟨a1,a2⟩:=HD.out.1 rfl
       have HBT:Hid (boundM L.n (flipM L.M) i k m=true):=by
        show _=_
        unfold boundM
        rw [HB0.out,a1,Bool.true_and]
        exact allN_iff.2 a2
       obtain rfl:R=m:=by rw [<- HR.out];exact boundQ_some hlt HBT.out HB.out
       go_wp2_with fail
       go_ret
       exact ⟨rfl,rfl⟩
  ·have hm1:¬ (m:Int)<(L.n:Int):=by omega
   obtain rfl:m=L.n:=by omega
   obtain rfl:R=-1:=by rw [<- HR.out];exact boundQ_none HB.out
   go_wp2_with fail
   go_ret
   exact ⟨rfl,rfl⟩
theorem infoBoolS:(Tryz.prog.info? 156).map (fun i=>(i.zero,i.size,i.bytes))=some (some (.slice none 0 0),1,24):=by kernel_rfl
theorem infoBoolR:(Tryz.prog.info? 4).map (fun i=>(i.zero,i.size,i.bytes))=some (some (.bool false),1,1):=by kernel_rfl
theorem makeBools (n:Nat) (h:n<=2097152) (w:World):(Instr.makeSlice 156 (.int .i64 n) (.int .i64 n)).run Tryz.prog w=.ok (.slice (some ⟨w.heap.size,0,none⟩) n n) (w.alloc (.cells (Array.replicate n (Value.bool false)) 4)):=by
 obtain ⟨i0,hi,hz0,hz1,hz2⟩:=info_parts infoBoolR
 have:=run_make (P:=Tryz.prog) w 156 4 i0 (.bool false) Tryz.underlying156 hi hz0 .i64 .i64 n n (by omega) (Int.le_refl _) (by rw [hz2];omega) (by omega)
 rw [hz1,Int.toNat_natCast,show (Value.bool false).cells=#[Value.bool false] from rfl,made_rep (Value.bool false) Value.bool false rfl,List.map_replicate,List.toArray_replicate] at this
 exact this
structure BuildM (w:World) (p n i:Nat) (v:Value) (B:Nat->Nat):Prop where
 box:w.heap[p]?=some (.cells #[v] 160 (0,0))
 own:w.ownsRow (p+1) 156 1 v i ((List.range i).map fun x=>.slice (some ⟨B x,0,none⟩) n n)
 rows:∀ x,x<i->w.heap[B x]?=some (.cells (((List.replicate n false).set x true).map Value.bool).toArray 4 (0,0))
 apart:∀ x y,x<i->y<i->B x=B y->x=y
 lob:∀ x,x<i->p+1<=B x
theorem BuildM.nil {w:World} {p n:Nat} {B:Nat->Nat} (h:w.heap[p]?=some (.cells #[.slice none 0 0] 160 (0,0))):BuildM w p n 0 (.slice none 0 0) B:=
 ⟨h,World.ownsRow_nil _ _ _ _,fun x h=>absurd h (Nat.not_lt_zero _),fun x y h=>absurd h (Nat.not_lt_zero _),fun x h=>absurd h (Nat.not_lt_zero _)⟩
theorem BuildM.push {w w1 w4:World} {p n i:Nat} {v v':Value} {B:Nat->Nat} (h:BuildM w p n i v B) (hb:Below w.heap.size w w1) (hi:i<n) (hp:p<w.heap.size)
  (h1:w4.ownsRow (p+1) 156 1 v' (i+1) (((List.range i).map fun x=>.slice (some ⟨B x,0,none⟩) n n) ++ [.slice (some ⟨w1.heap.size,0,none⟩) n n]))
  (h2:((w1.alloc (.cells (Array.replicate n (Value.bool false)) 4)).alloc (.cells #[.slice (some ⟨w1.heap.size,0,none⟩) n n] 156)).grownBy w4 v.ownBlock) :
  BuildM ((w4.setCell ⟨p,0,none⟩ v').setCell ⟨w1.heap.size,i,none⟩ (.bool true)) p n (i+1) v' (fun x=>if x=i then w1.heap.size else B x):=by
 have hal1:=(bR w1.heap.size w1).alloc (nR _) (.cells (Array.replicate n (Value.bool false)) 4)
 have hal:=bcomp hal1 ((bR _ _).alloc (nR _) (.cells #[.slice (some ⟨w1.heap.size,0,none⟩) n n] 156))
 have hps:p<w1.heap.size:=by have:=hb.size;omega
 have hvp:v.ownBlock ≠ some p:=fun e=>by have:=own_row_le h.own p e;omega
 have ho1:=own_below (own_below h.own hb) hal
 have hst:∀ (b:Nat) (cs:Array Value) (T:TypeId),T ≠ 156->b<w1.heap.size+1->((w1.alloc (.cells (Array.replicate n (Value.bool false)) 4)).alloc (.cells #[.slice (some ⟨w1.heap.size,0,none⟩) n n] 156)).heap[b]?=some (.cells cs T (0,0))->w4.heap[b]?=some (.cells cs T (0,0)):=fun b cs T hT hlt hb'=>by
  rw [h2.block b (by simp;omega) (fun e=>by obtain ⟨cs',hr⟩:=own_row ho1 e.symm;exact row_ne hb' hr hT rfl)];exact hb'
 have hnew:((w1.alloc (.cells (Array.replicate n (Value.bool false)) 4)).alloc (.cells #[.slice (some ⟨w1.heap.size,0,none⟩) n n] 156)).heap[w1.heap.size]?=some (.cells (Array.replicate n (Value.bool false)) 4 (0,0)):=
  (((bR _ _).alloc (nR _) _:Below _ (w1.alloc (.cells (Array.replicate n (Value.bool false)) 4)) _).block _ (by simp)).trans (heap_alloc_new _ _)
 have hnew4:=hst _ _ _ (by decide) (by omega) hnew
 have hbox4:w4.heap[p]?=some (.cells #[v] 160 (0,0)):=hst p _ _ (by decide) (by omega) ((hal.block p hps).trans ((hb.block p hp).trans h.box))
 have hrow4:∀ x,x<i->w4.heap[B x]?=some (.cells (((List.replicate n false).set x true).map Value.bool).toArray 4 (0,0))/\B x<w.heap.size:=fun x hx=>by
  have hlt:=(aE (h.rows x hx)).1
  have hlt1:B x<w1.heap.size:=by have:=hb.size;omega
  exact ⟨hst _ _ _ (by decide) (by omega) ((hal.block _ hlt1).trans ((hb.block _ hlt).trans (h.rows x hx))),hlt⟩
 have hne1:w1.heap.size ≠ p:=by omega
 refine ⟨?_,?_,fun x hx=>?_,fun x y hx hy hxy=>?_,fun x hx=>?_⟩
 ·rw [heap_setCell_other _ _ _ _ (by simpa using hne1.symm),heap_setCell_same _ _ _ _ _ _ hbox4];rfl
 ·rw [List.range_succ,List.map_append]
  have e:(List.range i).map (fun x=>(Value.slice (some ⟨(fun x=>if x=i then w1.heap.size else B x) x,0,none⟩) n n))=(List.range i).map fun x=>.slice (some ⟨B x,0,none⟩) n n:=by
   refine List.map_congr_left fun x hx=>?_
   have:x<i:=by simpa using hx
   simp [show x ≠ i by omega]
  rw [e]
  have e2:[i].map (fun x=>(Value.slice (some ⟨(fun x=>if x=i then w1.heap.size else B x) x,0,none⟩) n n))=[.slice (some ⟨w1.heap.size,0,none⟩) n n]:=by simp
  rw [e2]
  refine own_same h1 (fun b hb'=>?_)
  obtain ⟨cs,hr⟩:=own_row h1 hb'
  have hl:=own_row_le h1 b hb'
  have hbn:b ≠ w1.heap.size:=fun e=>row_ne (e ▸ hr:w4.heap[w1.heap.size]?=_) hnew4 (by decide) rfl
  rw [heap_setCell_other _ _ _ _ (by simpa using hbn),heap_setCell_other _ _ _ _ (by show b ≠ p;omega)]
 ·by_cases hxi:x=i
  ·subst hxi
   simp only [if_true]
   rw [heap_setCell_same _ _ _ _ _ _ ((heap_setCell_other _ _ _ _ (by simpa using hne1)).trans hnew4)]
   simp [List.map_set]
   rw [<- List.toArray_replicate,List.setIfInBounds_toArray]
  ·simp only [if_neg hxi]
   obtain ⟨hr,hlt⟩:=hrow4 x (by omega)
   have:=hb.size
   rw [heap_setCell_other _ _ _ _ (by show B x ≠ w1.heap.size;omega),heap_setCell_other _ _ _ _ (by show B x ≠ p;have:=h.lob x (by omega);omega)]
   exact hr
 ·by_cases hxi:x=i
  ·by_cases hyi:y=i
   ·omega
   ·simp only [if_pos hxi,if_neg hyi] at hxy
    have:=(hrow4 y (by omega)).2;have:=hb.size;omega
  ·by_cases hyi:y=i
   ·simp only [if_neg hxi,if_pos hyi] at hxy
    have:=(hrow4 x (by omega)).2;have:=hb.size;omega
   ·simp only [if_neg hxi,if_neg hyi] at hxy
    exact h.apart x y (by omega) (by omega) hxy
 ·by_cases hxi:x=i
  ·simp only [if_pos hxi];omega
  ·simp only [if_neg hxi];exact h.lob x (by omega)
theorem BuildM.done {w:World} {p n:Nat} {v:Value} {B:Nat->Nat} (h:BuildM w p n n v B) (h0:0<n) (hn:n<=32):∃ g c,v=.slice (some ⟨g,0,none⟩) n c/\RefM w p p g c n B (fun _=>n) eyeM:=by
 obtain ⟨g,c,cur,rfl,hg,hb,hc,hf⟩:=own_in h.own (by simpa using h0)
 refine ⟨g,c,rfl,nR _,row_of h.box 0 _ rfl,fun i hi=>hc i _ (by simp [List.getElem?_map,List.getElem?_range hi]),fun i j hi hj=>?_,h.apart,fun i hi=>⟨by have:=h.lob i hi;omega,fun e=>row_ne (e ▸ h.rows i hi:w.heap[g]?=_) hg (by decide) rfl⟩,fun i hi=>by have:=h.lob i hi;omega,hn⟩
 refine ⟨row_of (h.rows i hi) j _ ?_,frozen_of_row _ _ _ _ _ (h.rows i hi)⟩
 rw [List.getElem?_toArray,List.getElem?_map,List.getElem?_set]
 by_cases e:i=j
 ·subst e;simp [eyeM,hi]
 ·simp [e,hj,eyeM,Ne.symm e]
theorem setM_ord (M:Mat) (a b:Nat):∀ i j,setM M a b true i j=ordM M ((a:Int),(b:Int)) i j:=by
 intro i j
 unfold setM ordM
 by_cases h:i=a/\j=b
 ·rw [if_pos h];simp [h.1,h.2]
 ·rw [if_neg h]
  have:(decide ((i:Int)=(a:Int)) && decide ((j:Int)=(b:Int)))=false:=by
   rw [Bool.and_eq_false_iff]
   by_cases hi:i=a
   ·right;simp;omega
   ·left;simp;omega
  rw [show ((a:Int),(b:Int)).1=(a:Int) from rfl,show ((a:Int),(b:Int)).2=(b:Int) from rfl,this,Bool.or_false]
def midJ (k i:Nat) (M:Mat) (j:Nat):Mat:=fun x y=>if x=i/\y<j then M i y || (M i k && M k y) else M x y
theorem midJ_zero (k i:Nat) (M:Mat):∀ x y,midJ k i M 0 x y=M x y:=by intro x y;simp [midJ]
theorem midJ_end (k i n:Nat) (M:Mat):∀ x y,x<n->y<n->midJ k i M n x y=joinM k i M x y:=by
 intro x y hx hy
 unfold midJ joinM
 by_cases h:x=i
 ·rw [if_pos ⟨h,hy⟩,if_pos h]
 ·rw [if_neg (fun e=>h e.1),if_neg h]
theorem midJ_ij (k i j:Nat) (M:Mat):midJ k i M j i j=M i j:=by unfold midJ;rw [if_neg (by omega)]
theorem midJ_ik (k i j:Nat) (M:Mat):midJ k i M j i k=M i k:=by
 unfold midJ;split
 ·cases M i k <;> simp
 ·rfl
theorem midJ_kj (k i j:Nat) (M:Mat):midJ k i M j k j=M k j:=by unfold midJ;rw [if_neg (by omega)]
theorem midJ_step (k i j:Nat) (M:Mat) (v:Bool) (hv:v=(M i j || (M i k && M k j))):∀ x y,setM (midJ k i M j) i j v x y=midJ k i M (j+1) x y:=by
 intro x y
 unfold setM midJ
 by_cases h:x=i/\y=j
 ·obtain ⟨rfl,rfl⟩:=h
  rw [if_pos ⟨rfl,rfl⟩,if_pos ⟨rfl,by omega⟩,hv]
 ·rw [if_neg h]
  by_cases h2:x=i/\y<j
  ·rw [if_pos h2,if_pos ⟨h2.1,by omega⟩]
  ·rw [if_neg h2,if_neg (by omega)]
theorem loops_yes {n i j:Nat} {M:Mat} (hi:i<n) (hj:j<i) (h:(M i j && M j i)=true):loopsM n M=true:=by
 unfold loopsM
 rw [Bool.and_eq_true] at h
 exact anyN_iff.2 ⟨i,hi,anyN_iff.2 ⟨j,by omega,by simp [show j ≠ i by omega,h.1,h.2]⟩⟩
theorem loops_no {n:Nat} {M:Mat} (h:∀ i,i<n->∀ j,j<i->(M i j && M j i)=false):loopsM n M=false:=by
 unfold loopsM
 refine anyN_false.2 fun i hi=>anyN_false.2 fun j hj=>?_
 rcases Nat.lt_trichotomy j i with h1|h1|h1
 ·have:=h i hi j h1
  rw [Bool.and_assoc,this,Bool.and_false]
 ·simp [h1]
 ·have:=h j hj i h1
  rw [Bool.and_assoc,Bool.and_comm (M i j),this,Bool.and_false]
theorem boundQ_neg {n:Nat} {M:Mat} {i k:Nat}:boundQ n M i k<0 ↔ anyN n (boundM n M i k)=false:=by
 unfold boundQ
 cases h:(List.range n).find? (boundM n M i k) with
 | none=>
  have:=List.find?_eq_none.1 h
  refine ⟨fun _=>anyN_false.2 fun c hc=>by have:=this c (by simpa using hc);simpa using this,fun _=>by show (-1:Int)<0;decide⟩
 | some c=>
  obtain ⟨h1,h2⟩:=List.find?_eq_some_iff_append.1 h
  have hm:c ∈ List.range n:=List.mem_of_find?_eq_some h
  refine ⟨fun hh=>by have:(c:Int)<0:=hh;omega,fun hh=>?_⟩
  have:=anyN_false.1 hh c (by simpa using hm)
  rw [h1] at this;cases this
theorem whole_iff {n:Nat} {M:Mat}:wholeM n M=true ↔ ∀ i,i<n->∀ k,k<n->¬ boundQ n M i k<0:=by
 unfold wholeM
 rw [allN_iff]
 refine ⟨fun h i hi k hk hb=>?_,fun h i hi=>allN_iff.2 fun k hk=>?_⟩
 ·have:=allN_iff.1 (h i hi) k hk
  rw [boundQ_neg.1 hb] at this;cases this
 ·have:=h i hi k hk
  rw [boundQ_neg] at this
  simpa using this
theorem badP_false {n a b:Int}:badP n (a,b)=false ↔ 0<=a/\a<n/\0<=b/\b<n:=by
 unfold badP
 simp only [Bool.or_eq_false_iff,decide_eq_false_iff_not]
 omega
def RefNewSaid (E:Int) (L:LatD) (w:World) (e:Ending) (w':World):Prop:=∃ v,e=.returned (.tuple #[v,.int .i64 E])/\(E=0->RefLat w' v L)/\(E ≠ 0->v=.pointer none)/\Below w.heap.size w w'
theorem refBad {E:Int} {L:LatD} {w w':World} (h:E ≠ 0) (hb:Below w.heap.size w w'):RefNewSaid E L w (.returned (.tuple #[.pointer none,.int .i64 E])) w':=⟨_,rfl,fun e=>absurd e h,fun _=>rfl,hb⟩
theorem refLatNew (n:Int) (ov:Value) (l:List (Int × Int)) (w:World) (hn:InI64 n) (h:RdRow kPair none w ov l) :
  Calls Tryz.prog 65 #[.int .i64 n,ov] w (RefNewSaid (latErr n l) (latOf n l) w):=by
 obtain ⟨oa,oc,rfl⟩:=h.is
 generalize hE:latErr n l=E
 have HE:=Hd hE
 have HO:=Hd h
 have hl16:l.length * 16<=140737488351232:=h.size
 clear hE h
 go_enter Tryz.func65,Tryz.ntmps65
 by_cases c0:n<1
 ·obtain rfl:E=3:=by rw [<- HE.out,latErr,if_pos (.inl c0)]
  go_wp2_with fail
  go_ret2
  exact refBad (by decide) (bR _ _)
 by_cases c1:32<n
 ·obtain rfl:E=3:=by rw [<- HE.out,latErr,if_pos (.inr c1)]
  go_wp2_with fail
  go_ret2
  exact refBad (by decide) (bR _ _)
 by_cases c2:1024<l.length
 ·have c2':(1024:Int)<(l.length:Int):=by omega
  obtain rfl:E=5:=by rw [<- HE.out,latErr,if_neg (by omega),if_pos c2]
  go_wp2_with fail
  go_ret2
  exact refBad (by decide) (bR _ _)
 obtain ⟨m,rfl⟩:∃ m:Nat,n=m:=⟨n.toNat,by omega⟩
 have hm0:0<m:=by omega
 have hm32:m<=32:=by omega
 have c2':¬ (1024:Int)<(l.length:Int):=by omega
 have HE2:Hid (E=if l.any (badP m) then 3 else if loopsM m (latM m l) then 9 else if wholeM m (latM m l) && wholeM m (flipM (latM m l)) then 0 else 4):=by
  show E=_
  rw [<- HE.out,latErr,if_neg (by omega),if_neg (by omega)]
  rfl
 clear HE
 have hmk:=makeBools m (by omega)
 have HB0:=Hd ((bR w.heap.size w).alloc (nR _) (.cells #[.slice none 0 0] 160))
 have HG0:=Hd (heap_alloc_new w (.cells #[.slice none 0 0] 160))
 go_upto_region 6 with fail
 generalize w.alloc (.cells #[.slice none 0 0] 160)=W at *
 obtain ⟨p,hp⟩:∃ p,w.heap.size=p:=⟨_,rfl⟩
 rw [hp] at HG0 HB0
 try rw [hp]
 have HPW:=Hd hp
 clear hp
 go_wp2_with fail
 go_loopw [7] (fun iv wr=>∃ (i:Nat) (v:Value) (B:Nat->Nat),i<=m/\iv=.int .i64 i/\BuildM wr p m i v B/\Below p w wr) (fun iv _=>m - (intOf iv).toNat)
 case atStart=>exact ⟨0,_,fun _=>0,Nat.zero_le _,rfl,BuildM.nil HG0.out,HB0.out⟩
 case round=>
  obtain ⟨i,v,B,hi,rfl,hbm,hbw⟩:=hrel
  obtain ⟨w1,rfl⟩:∃ x:World,x=wr:=⟨_,rfl⟩
  have HBM:=Hd hbm
  have HBW:=Hd hbw
  obtain ⟨va,vc,rfl,-⟩:=own_read hbm.own
  have hpl:p<w1.heap.size:=(aE hbm.box).1
  clear hbm hbw
  by_cases hlt:i<m
  ·have hlt1:(i:Int)<(m:Int):=by omega
   go_upto_region 9 with fail
   have g1:=keepS_cell (S:=[p]) (by simp) (row_of HBM.out.box 0 _ rfl)
   have HDR:Hid (∀ b:Nat,w1.drew.heap[b]?=w1.heap[b]?):=fun _=>rfl
   have HBD:=Hd (bR w1.heap.size w1).drew
   refine wp_region_mixS [p] (.one [0,1,2,3,4,5] 6 (.one [] 7 (.one [] 8 (tailOf [9,10,11])))) (fun j=>decide (9<=j)) (by kernel_rfl) (by kernel_rfl) rfl (by kernel_rfl) (fun _ d _ _ _ h=>by cases d <;> exact h) ?_
   generalize w1.drew=w2 at *
   have hp2:p<w2.heap.size:=by have:=HBD.out.size;omega
   refine mix_one (by simp only [opsOf,List.filterMap_cons,List.filterMap_nil,List.getElem?_toArray,List.getElem?_cons_succ,List.getElem?_cons_zero];rfl) ⟨_,keepS_of (fun b _=>HDR.out b)⟩ ?_
   change wpQuiet _ _ _ _ [_,_,_,_,_,_] _
   (repeat (go_big_quiet_step (fail)))
   refine wpQuiet_nil ?_
   clear g1
   have hal1:Below w2.heap.size w2 (w2.alloc (.cells (Array.replicate m (Value.bool false)) 4)):=(bR _ _).alloc (nR _) _
   have HAL1:=Hd hal1
   have hal2:Below w2.heap.size w2 ((w2.alloc (.cells (Array.replicate m (Value.bool false)) 4)).alloc (.cells #[.slice (some ⟨w2.heap.size,0,none⟩) m m] 156)):=bcomp hal1 ((bR _ _).alloc (nR _) _)
   have HAL2:=Hd hal2
   have hs2:(w2.alloc (.cells (Array.replicate m (Value.bool false)) 4)).heap.size=w2.heap.size+1:=by simp
   clear hal1 hal2
   refine mix_step rfl ?_
   go_wp2_with fail
   refine ⟨by first|exact ⟨_,keepS_of (fun b hb=>(HAL1.out.block b (by simp at hb;omega)).trans (HDR.out b))⟩|exact fun _=>⟨_,keepS_of (fun b hb=>(HAL1.out.block b (by simp at hb;omega)).trans (HDR.out b))⟩,?_⟩
   refine mix_now ?_
   refine mix_step rfl ?_
   go_wp2_with fail
   refine ⟨by first|exact ⟨_,keepS_of (fun b hb=>(HAL2.out.block b (by simp at hb;omega)).trans (HDR.out b))⟩|exact fun _=>⟨_,keepS_of (fun b hb=>(HAL2.out.block b (by simp at hb;omega)).trans (HDR.out b))⟩,?_⟩
   refine mix_now ?_
   refine mix_step rfl ?_
   obtain ⟨i0,hi0,hz0,hz1,hz2⟩:=info_parts infoBoolS
   have hown:=own_below (own_below HBM.out.own HBD.out) HAL2.out
   have hnews:=many_new (w2.alloc (.cells (Array.replicate m (Value.bool false)) 4)) [Value.slice (some ⟨w2.heap.size,0,none⟩) m m] 156
   have hm1:i+1<=maxLen:=by unfold maxLen;omega
   try (simp only [Act.put,List.setIfInBounds_toArray,List.set_cons_succ,List.set_cons_zero,List.getElem_toArray,List.getElem_cons_succ,List.getElem_cons_zero])
   refine wpList_append_own_at _ rfl (.tmp 38) (.tmp 41) 158 rfl (p+1) 156 i0 (.slice none 0 0) 1 24 Tryz.underlying158 hi0 hz0 hz1 hz2 rfl (by decide) _ _ _ rfl hown ⟨w2.heap.size+1,0,none⟩ 1 1 [Value.slice (some ⟨w2.heap.size,0,none⟩) m m] (by first|rfl|(rw [<- hs2];rfl)) rfl (by first|exact hnews|(rw [<- hs2];exact hnews)) (by intro u hu;simp at hu;subst hu;rfl) hm1 (by omega) (by have:=HAL2.out.size;omega) ?_
   intro v' w4 hown' hgrow _ hblk
   have HN:=Hd (HBM.out.push HBD.out hlt hpl hown' hgrow)
   have hvp:(Value.slice va i vc).ownBlock ≠ some p:=fun e=>by have:=own_row_le HBM.out.own p e;omega
   have hk4:w4.heap[p]?=w1.heap[p]?:=(hgrow.block p (by have:=HAL2.out.size;omega) (fun e=>hvp e.symm)).trans ((HAL2.out.block p hp2).trans (HDR.out p))
   have HB4:=Hd ((HBW.out.trans ((bcomp HBD.out HAL2.out).mono (by omega))).grown hgrow (by have:=HAL2.out.size;omega) (fun b' e=>by have:=own_row_le HBM.out.own b' e;omega))
   have hg4:=hk4.trans HBM.out.box
   have x0:=row_of hg4 0 _ rfl
   have f0:=frozen_of_row w4 p 0 _ _ hg4
   have HBN:Hid (Below p w ((w4.setCell ⟨p,0,none⟩ v').setCell ⟨w2.heap.size,i,none⟩ (.bool true))):=(HB4.out.setCell (nR _) _).setCell (by show p<=w2.heap.size;omega) _
   obtain ⟨xa,xc,rfl,-⟩:=own_read hown'
   have HO4:=Hd hown'
   have HGR:=Hd hgrow
   have HK4:=Hd hk4
   clear hown' hgrow hblk hown hnews hg4 hk4 hi0 hz0 hz1 hz2
   refine ⟨by first|exact ⟨_,keepS_of (fun b hb=>by simp at hb;subst hb;exact HK4.out)⟩|exact fun _=>⟨_,keepS_of (fun b hb=>by simp at hb;subst hb;exact HK4.out)⟩,?_⟩
   refine mix_tail [9,10,11] [_,_,_] _ _ rfl rfl ?_
   simp only [Act.put,List.setIfInBounds_toArray,List.set_cons_succ,List.set_cons_zero,List.getElem_toArray,List.getElem_cons_succ,List.getElem_cons_zero]
   go_upto_region 10 with fail
   clear x0 f0
   obtain ⟨g',c',cur',e',hg',hb',hc',hf'⟩:=own_in HO4.out (by simp)
   simp only [Value.slice.injEq,true_and] at e'
   obtain ⟨rfl,rfl⟩:=e'
   have hr4:=hc' i (.slice (some ⟨w2.heap.size,0,none⟩) m m) (by rw [List.getElem?_append_right (by simp)];simp)
   have hn4:w4.heap[w2.heap.size]?=some (.cells (Array.replicate m (Value.bool false)) 4 (0,0)):=by
    rw [HGR.out.block w2.heap.size (by simp;omega) (fun e=>by have:=own_lt HBM.out.own _ e.symm;have:=HBD.out.size;omega)]
    exact (((bR _ _).alloc (nR _) _:Below _ (w2.alloc (.cells (Array.replicate m (Value.bool false)) 4)) _).block _ (by simp)).trans (heap_alloc_new _ _)
   have h5p:(w4.setCell ⟨p,0,none⟩ (.slice (some ⟨g',0,none⟩) (i+1) xc)).heap[p]?=some (.cells #[.slice (some ⟨g',0,none⟩) (i+1) xc] 160 (0,0)):=by
    rw [heap_setCell_same _ _ _ _ _ _ (HK4.out.trans HBM.out.box)];rfl
   have hn5:=(heap_setCell_other w4 ⟨p,0,none⟩ w2.heap.size (.slice (some ⟨g',0,none⟩) (i+1) xc) (by show w2.heap.size ≠ p;omega)).trans hn4
   have r5:=(World.cell?_of_block (a:=⟨g',i,none⟩) (heap_setCell_other w4 ⟨p,0,none⟩ g' (.slice (some ⟨g',0,none⟩) (i+1) xc) (by show g' ≠ p;omega))).trans hr4
   have t5:=row_of h5p 0 _ rfl
   have x5:=row_of hn5 i (.bool false) (by simp [hlt])
   have f5:=frozen_of_row _ w2.heap.size i _ _ hn5
   have hi31:i<32:=by omega
   clear hc' hf' hg' hr4 hn4 h5p hn5 hb' HO4 HGR HK4 HB4 HAL1 HAL2 hs2 HDR
   generalize w4.setCell ⟨p,0,none⟩ (.slice (some ⟨g',0,none⟩) (i+1) xc)=w5 at *
   go_wp2_with fail
   go_roundw
   case rel=>exact ⟨i+1,_,_,by omega,by go_num,HN.out,HBN.out⟩
   case measure=>simp [intOf];omega
  ·obtain rfl:i=m:=by omega
   have hlt1:¬ ((i:Nat):Int)<(i:Int):=by omega
   obtain ⟨g,c,e0,hM0⟩:=HBM.out.done hm0 hm32
   simp only [Value.slice.injEq,true_and] at e0
   obtain ⟨rfl,rfl⟩:=e0
   have HM0:=Hd hM0
   clear hM0 HBM hmk HG0 HB0 hi hlt
   generalize hK:(fun _:Nat=>i)=K at *
   clear hK
   go_wp2_with fail
   go_loopw [8,9,10] (fun kv _ _ wr=>∃ k:Nat,k<=l.length/\kv=.int .i64 k/\Hid (∀ x ∈ l.take k,badP i x=false)/\RefM wr p p g vc i B K ((l.take k).foldl ordM eyeM)/\Below p w wr) (fun kv _ _ _=>l.length - (intOf kv).toNat)
   case atStart=>exact ⟨0,Nat.zero_le _,rfl,(by intro x hx;simp at hx),HM0.out,HBW.out⟩
   case round=>
    obtain ⟨k,hk,rfl,HOKK,hm,hbw⟩:=hrel
    obtain ⟨w3,rfl⟩:∃ x:World,x=wr:=⟨_,rfl⟩
    have HM:=Hd hm
    have HB3:=Hd hbw
    clear hm hbw
    by_cases hlt:k<l.length
    ·have hlt1:(k:Int)<(l.length:Int):=by omega
     obtain ⟨⟨a,b⟩,hx⟩:∃ x,l[k]?=some x:=⟨_,lG hlt⟩
     obtain ⟨ob,oo,rfl,_,q0,q1,ha,hb⟩:=atPair HO.out hx
     have hbw':Below w.heap.size w w3:=by rw [HPW.out];exact HB3.out
     have HXM:=Hd (List.mem_of_getElem? hx)
     have HTK:Hid (l.take (k+1)=l.take k ++ [(a,b)]):=by show _=_;rw [List.take_add_one,hx];rfl
     have e1:=ext_cell (cell_keep hbw' q0)
     have e2:=ext_cell (cell_keep hbw' q1)
     simp only at e1 e2 ha hb
     clear q0 q1 hx hbw'
     go_upto_region 14 with fail
     (refine wp_region_calm (by kernel_rfl) (by kernel_rfl) ?_; (repeat (go_big_quiet_step (fail))); refine wpQuiet_nil ?_; intro wc hwc)
     have HMC:=Hd (HM.out.keep hwc)
     have HBC:=Hd (HB3.out.trans (hwc.mono (by have:=HB3.out.size;have:=HPW.out;omega)))
     have HBCW:Hid (Below w.heap.size w wc):=by show Below _ _ _;rw [HPW.out];exact HBC.out
     have HBAD:Hid (badP i (a,b)=true->E=3):=by
      intro h
      rw [HE2.out,if_pos (List.any_eq_true.2 ⟨_,HXM.out,h⟩)]
     clear e1 e2 hwc HM
     by_cases a0:a<0
     ·obtain rfl:E=3:=HBAD.out (by unfold badP;simp [a0])
      go_wp2_with fail
      go_ret2
      exact refBad (by decide) HBCW.out
     by_cases a1:(i:Int)<=a
     ·obtain rfl:E=3:=HBAD.out (by unfold badP;simp [a1])
      go_wp2_with fail
      go_ret2
      exact refBad (by decide) HBCW.out
     by_cases b0:b<0
     ·obtain rfl:E=3:=HBAD.out (by unfold badP;simp [b0])
      go_wp2_with fail
      go_ret2
      exact refBad (by decide) HBCW.out
     by_cases b1:(i:Int)<=b
     ·obtain rfl:E=3:=HBAD.out (by unfold badP;simp [b1])
      go_wp2_with fail
      go_ret2
      exact refBad (by decide) HBCW.out
     have HGD:Hid (badP i (a,b)=false):=badP_false.2 ⟨by omega,by omega,by omega,by omega⟩
     obtain ⟨x,rfl⟩:∃ x:Nat,a=x:=⟨a.toNat,by omega⟩
     obtain ⟨y,rfl⟩:∃ x:Nat,b=x:=⟨b.toNat,by omega⟩
     have hxi:x<i:=by omega
     have hyi:y<i:=by omega
     have t3:=HMC.out.top
     have r3:=HMC.out.row x hxi
     obtain ⟨v3,f3⟩:=HMC.out.el x y hxi hyi
     have HN:=Hd ((HMC.out.set hxi hyi true).congr (M':=(l.take (k+1)).foldl ordM eyeM) (fun i' j' _ _=>by rw [HTK.out,List.foldl_append];exact setM_ord _ x y i' j'))
     have HBN:Hid (Below p w (wc.setCell ⟨B x,y,none⟩ (.bool true))):=HBC.out.setCell (HMC.out.lob x hxi) _
     have HOKN:Hid (∀ z ∈ l.take (k+1),badP i z=false):=by
      intro z hz
      rw [HTK.out] at hz
      rcases List.mem_append.1 hz with h|h
      ·exact HOKK.out z h
      ·simp at h;subst h;exact HGD.out
     have hk1024:k<1024:=by omega
     clear HBAD HXM
     go_wp2_with fail
     go_roundw
     case rel=>exact ⟨k+1,by omega,by go_num,HOKN.out,HN.out,HBN.out⟩
     case measure=>simp [intOf];omega
    ·obtain rfl:k=l.length:=by omega
     have hlt1:¬ ((l.length:Nat):Int)<(l.length:Int):=by omega
     have HGOOD:Hid (l.any (badP i)=false):=by
      show _=_
      rw [List.any_eq_false]
      intro x hx
      have:=HOKK.out x (by rw [List.take_length];exact hx)
      simp [this]
     have HE3:Hid (E=if loopsM i (latM i l) then 9 else if wholeM i (latM i l) && wholeM i (flipM (latM i l)) then 0 else 4):=by
      show E=_
      rw [HE2.out,HGOOD.out];rfl
     have HM1:Hid (RefM w3 p p g vc i B K (closeM i (ordsM l) 0)):=by have h:=HM.out;rw [List.take_length] at h;exact h
     clear HE2 HOKK HM HM0 hk hlt HO
     go_wp2_with fail
     go_loopw [11,12,13] (fun kv _ _ wr=>∃ k:Nat,k<=i/\kv=.int .i64 k/\RefM wr p p g vc i B K (closeM i (ordsM l) k)/\Below p w wr) (fun kv _ _ _=>i - (intOf kv).toNat)
     case atStart=>exact ⟨0,Nat.zero_le _,rfl,HM1.out,HB3.out⟩
     case round=>
      obtain ⟨k,hk,rfl,hm,hbw⟩:=hrel
      obtain ⟨w4,rfl⟩:∃ x:World,x=wr:=⟨_,rfl⟩
      have HM:=Hd hm
      have HB4:=Hd hbw
      clear hm hbw
      by_cases hki:k<i
      ·have hk1:(k:Int)<(i:Int):=by omega
       have HCL:Hid (closeM i (ordsM l) (k+1)=rowsM k (closeM i (ordsM l) k) i):=rfl
       obtain ⟨M1,hM1⟩:∃ M1,closeM i (ordsM l) k=M1:=⟨_,rfl⟩
       rw [hM1] at HM HCL
       clear hM1
       go_wp2_with fail
       go_loopw [12,13] (fun xv _ wr=>∃ x:Nat,x<=i/\xv=.int .i64 x/\RefM wr p p g vc i B K (rowsM k M1 x)/\Below p w wr) (fun xv _ _=>i - (intOf xv).toNat)
       case atStart=>exact ⟨0,Nat.zero_le _,rfl,HM.out,HB4.out⟩
       case round=>
        obtain ⟨x,hx,rfl,hm,hbw⟩:=hrel
        obtain ⟨w5,rfl⟩:∃ x:World,x=wr:=⟨_,rfl⟩
        have HM5:=Hd hm
        have HB5:=Hd hbw
        clear hm hbw
        by_cases hxi:x<i
        ·have hx1:(x:Int)<(i:Int):=by omega
         have HRW:Hid (rowsM k M1 (x+1)=joinM k x (rowsM k M1 x)):=rfl
         obtain ⟨M2,hM2⟩:∃ M2,rowsM k M1 x=M2:=⟨_,rfl⟩
         rw [hM2] at HM5 HRW
         clear hM2
         have HM50:=Hd (HM5.out.congr (M':=midJ k x M2 0) (fun a b _ _=>(midJ_zero k x M2 a b).symm))
         go_wp2_with fail
         go_loopw [13] (fun yv wr=>∃ y:Nat,y<=i/\yv=.int .i64 y/\RefM wr p p g vc i B K (midJ k x M2 y)/\Below p w wr) (fun yv _=>i - (intOf yv).toNat)
         case atStart=>exact ⟨0,Nat.zero_le _,rfl,HM50.out,HB5.out⟩
         case round=>
          obtain ⟨y,hy,rfl,hm,hbw⟩:=hrel
          obtain ⟨w6,rfl⟩:∃ x:World,x=wr:=⟨_,rfl⟩
          have HM6:=Hd hm
          have HB6:=Hd hbw
          clear hm hbw
          by_cases hyi:y<i
          ·have hy1:(y:Int)<(i:Int):=by omega
           obtain ⟨b1,h1⟩:∃ b,M2 x y=b:=⟨_,rfl⟩
           obtain ⟨b2,h2⟩:∃ b,M2 x k=b:=⟨_,rfl⟩
           obtain ⟨b3,h3⟩:∃ b,M2 k y=b:=⟨_,rfl⟩
           have e1:=(HM6.out.el x y hxi hyi).1
           have e2:=(HM6.out.el x k hxi hki).1
           have e3:=(HM6.out.el k y hki hyi).1
           rw [midJ_ij,h1] at e1
           rw [midJ_ik,h2] at e2
           rw [midJ_kj,h3] at e3
           have HST:Hid (∀ v:Bool,v=(b1 || (b2 && b3))->∀ a b,setM (midJ k x M2 y) x y v a b=midJ k x M2 (y+1) a b):=by
            intro v hv
            exact midJ_step k x y M2 v (by rw [h1,h2,h3];exact hv)
           have E1:=ext_cell e1
           have E2:=ext_cell e2
           have E3:=ext_cell e3
           have ET:=ext_cell HM6.out.top
           have ER1:=ext_cell (HM6.out.row x hxi)
           have ER2:=ext_cell (HM6.out.row k hki)
           clear h1 h2 h3 e1 e2 e3
           go_upto_region 27 with fail
           cases b1
           ·cases b2
            ·(refine wp_region_calm_tail 43 (by kernel_rfl) (by kernel_rfl) ?_; simp only [List.take_succ_cons, List.take_zero, List.drop_succ_cons, List.drop_zero]; (repeat (go_big_quiet_step (fail))); refine wpQuiet_nil ?_; intro wc hwc)
             have HM8:=Hd (HM6.out.keep hwc)
             have c1:=(HM8.out.el x y hxi hyi).1
             have f1:=(HM8.out.el x y hxi hyi).2
             have HN:=Hd ((HM8.out.set hxi hyi false).congr (M':=midJ k x M2 (y+1)) (fun a b _ _=>HST.out false rfl a b))
             have HBN:Hid (Below p w (wc.setCell ⟨B x,y,none⟩ (.bool false))):=(HB6.out.trans (hwc.mono (by have:=HB6.out.size;have:=HPW.out;omega))).setCell (HM6.out.lob x hxi) _
             clear E1 E2 E3 ET ER1 ER2
             go_wp2_with fail
             go_roundw
             case rel=>exact ⟨y+1,by omega,by go_num,HN.out,HBN.out⟩
             case measure=>simp [intOf];omega
            ·cases b3
             ·(refine wp_region_calm_tail 43 (by kernel_rfl) (by kernel_rfl) ?_; simp only [List.take_succ_cons, List.take_zero, List.drop_succ_cons, List.drop_zero]; (repeat (go_big_quiet_step (fail))); refine wpQuiet_nil ?_; intro wc hwc)
              have HM8:=Hd (HM6.out.keep hwc)
              have c1:=(HM8.out.el x y hxi hyi).1
              have f1:=(HM8.out.el x y hxi hyi).2
              have HN:=Hd ((HM8.out.set hxi hyi false).congr (M':=midJ k x M2 (y+1)) (fun a b _ _=>HST.out false rfl a b))
              have HBN:Hid (Below p w (wc.setCell ⟨B x,y,none⟩ (.bool false))):=(HB6.out.trans (hwc.mono (by have:=HB6.out.size;have:=HPW.out;omega))).setCell (HM6.out.lob x hxi) _
              clear E1 E2 E3 ET ER1 ER2
              go_wp2_with fail
              go_roundw
              case rel=>exact ⟨y+1,by omega,by go_num,HN.out,HBN.out⟩
              case measure=>simp [intOf];omega
             ·(refine wp_region_calm_tail 43 (by kernel_rfl) (by kernel_rfl) ?_; simp only [List.take_succ_cons, List.take_zero, List.drop_succ_cons, List.drop_zero]; (repeat (go_big_quiet_step (fail))); refine wpQuiet_nil ?_; intro wc hwc)
              have HM8:=Hd (HM6.out.keep hwc)
              have c1:=(HM8.out.el x y hxi hyi).1
              have f1:=(HM8.out.el x y hxi hyi).2
              have HN:=Hd ((HM8.out.set hxi hyi true).congr (M':=midJ k x M2 (y+1)) (fun a b _ _=>HST.out true rfl a b))
              have HBN:Hid (Below p w (wc.setCell ⟨B x,y,none⟩ (.bool true))):=(HB6.out.trans (hwc.mono (by have:=HB6.out.size;have:=HPW.out;omega))).setCell (HM6.out.lob x hxi) _
              clear E1 E2 E3 ET ER1 ER2
              go_wp2_with fail
              go_roundw
              case rel=>exact ⟨y+1,by omega,by go_num,HN.out,HBN.out⟩
              case measure=>simp [intOf];omega
           ·(refine wp_region_calm_tail 43 (by kernel_rfl) (by kernel_rfl) ?_; simp only [List.take_succ_cons, List.take_zero, List.drop_succ_cons, List.drop_zero]; (repeat (go_big_quiet_step (fail))); refine wpQuiet_nil ?_; intro wc hwc)
            have HM8:=Hd (HM6.out.keep hwc)
            have c1:=(HM8.out.el x y hxi hyi).1
            have f1:=(HM8.out.el x y hxi hyi).2
            have HN:=Hd ((HM8.out.set hxi hyi true).congr (M':=midJ k x M2 (y+1)) (fun a b _ _=>HST.out true rfl a b))
            have HBN:Hid (Below p w (wc.setCell ⟨B x,y,none⟩ (.bool true))):=(HB6.out.trans (hwc.mono (by have:=HB6.out.size;have:=HPW.out;omega))).setCell (HM6.out.lob x hxi) _
            clear E1 E2 E3 ET ER1 ER2
            go_wp2_with fail
            go_roundw
            case rel=>exact ⟨y+1,by omega,by go_num,HN.out,HBN.out⟩
            case measure=>simp [intOf];omega
          ·have hy1:¬ (y:Int)<(i:Int):=by omega
           obtain rfl:y=i:=by omega
           have HN:=Hd (HM6.out.congr (M':=rowsM k M1 (x+1)) (fun a b ha hb=>by rw [HRW.out];exact midJ_end k x y M2 a b ha hb))
           clear HM6 HM50 HM5
           go_wp2_with fail
           go_roundw
           case rel=>exact ⟨x+1,by omega,by go_num,HN.out,HB6.out⟩
           case measure=>simp [intOf];omega
        ·have hx1:¬ (x:Int)<(i:Int):=by omega
         obtain rfl:x=i:=by omega
         have HN:Hid (RefM w5 p p g vc x B K (closeM x (ordsM l) (k+1))):=by show RefM _ _ _ _ _ _ _ _ _;rw [HCL.out];exact HM5.out
         clear HM5 HM
         go_wp2_with fail
         go_roundw
         case rel=>exact ⟨k+1,by omega,by go_num,HN.out,HB5.out⟩
         case measure=>simp [intOf];omega
      ·have hk1:¬ (k:Int)<(i:Int):=by omega
       obtain rfl:k=i:=by omega
       have HM7:Hid (RefM w4 p p g vc k B K (latM k l)):=HM.out
       have HRL:Hid (RefLat w4 (.pointer (some ⟨p,0,none⟩)) (latOf k l)):=⟨p,p,g,vc,B,K,rfl,HM7.out⟩
       have HBW4:Hid (Below w.heap.size w w4):=by show Below _ _ _;rw [HPW.out];exact HB4.out
       clear HM HM1 HB4 HB3 HBW
       obtain ⟨M,hM⟩:∃ M,latM k l=M:=⟨_,rfl⟩
       have HLD:Hid (latOf k l=⟨k,M⟩):=by show _=_;rw [<- hM];rfl
       rw [hM] at HM7 HE3
       rw [HLD.out] at HRL
       clear hM hki hk
       go_wp2_with fail
       go_loopw [14,15] (fun xv _ wr=>∃ x:Nat,x<=k/\xv=.int .i64 x/\w4=wr/\Hid (∀ x',x'<x->∀ y,y<x'->(M x' y && M y x')=false)) (fun xv _ _=>k - (intOf xv).toNat)
       case atStart=>exact ⟨0,Nat.zero_le _,rfl,rfl,(fun x h=>absurd h (Nat.not_lt_zero _))⟩
       case round=>
        obtain ⟨x,hx,rfl,rfl,HX⟩:=hrel
        by_cases hxk:x<k
        ·have hx1:(x:Int)<(k:Int):=by omega
         go_wp2_with fail
         go_loopw [15] (fun yv wr=>∃ y:Nat,y<=x/\yv=.int .i64 y/\w4=wr/\Hid (∀ y',y'<y->(M x y' && M y' x)=false)) (fun yv _=>x - (intOf yv).toNat)
         case atStart=>exact ⟨0,Nat.zero_le _,rfl,rfl,(fun y h=>absurd h (Nat.not_lt_zero _))⟩
         case round=>
          obtain ⟨y,hy,rfl,rfl,HY⟩:=hrel
          by_cases hyx:y<x
          ·have hy1:(y:Int)<(x:Int):=by omega
           have hyk:(y:Int)<(k:Int):=by omega
           obtain ⟨b1,h1⟩:∃ b,M x y=b:=⟨_,rfl⟩
           obtain ⟨b2,h2⟩:∃ b,M y x=b:=⟨_,rfl⟩
           have e1:=(HM7.out.el x y hxk (by omega)).1
           have e2:=(HM7.out.el y x (by omega) hxk).1
           rw [h1] at e1
           rw [h2] at e2
           have tt:=HM7.out.top
           have r1:=HM7.out.row x hxk
           have r2:=HM7.out.row y (by omega)
           have HBB:Hid ((M x y && M y x)=(b1 && b2)):=by show _=_;rw [h1,h2]
           have HYN:Hid ((b1 && b2)=false->∀ y',y'<y+1->(M x y' && M y' x)=false):=by
            intro h y' h2
            rcases Nat.lt_or_ge y' y with h3|h3
            ·exact HY.out y' h3
            ·obtain rfl:y'=y:=by omega
             rw [HBB.out];exact h
           clear h1 h2
           cases b1
           ·go_wp2_with fail
            go_roundw
            case rel=>exact ⟨y+1,by omega,by go_num,by first|trivial|rfl,HYN.out rfl⟩
            case measure=>simp [intOf];omega
           ·cases b2
            ·go_wp2_with fail
             go_roundw
             case rel=>exact ⟨y+1,by omega,by go_num,by first|trivial|rfl,HYN.out rfl⟩
             case measure=>simp [intOf];omega
            ·obtain rfl:E=9:=by rw [HE3.out,if_pos (loops_yes hxk hyx HBB.out)]
             go_wp2_with fail
             go_ret2
             exact refBad (by decide) HBW4.out
          ·have hy1:¬ (y:Int)<(x:Int):=by omega
           obtain rfl:y=x:=by omega
           have HXN:Hid (∀ x',x'<y+1->∀ z,z<x'->(M x' z && M z x')=false):=by
            intro x' h z hz
            rcases Nat.lt_or_ge x' y with h3|h3
            ·exact HX.out x' h3 z hz
            ·obtain rfl:x'=y:=by omega
             exact HY.out z hz
           go_wp2_with fail
           go_roundw
           case rel=>exact ⟨y+1,by omega,by go_num,by first|trivial|rfl,HXN.out⟩
           case measure=>simp [intOf];omega
        ·have hx1:¬ (x:Int)<(k:Int):=by omega
         obtain rfl:x=k:=by omega
         have HE4:Hid (E=if wholeM x M && wholeM x (flipM M) then 0 else 4):=by
          show E=_
          rw [HE3.out,loops_no HX.out];rfl
         clear HE3 HX hxk
         go_wp2_with fail
         go_loopw [16,17] (fun av _ wr=>∃ a:Nat,a<=x/\av=.int .i64 a/\w4=wr/\Hid (∀ a',a'<a->∀ d,d<x->0<=boundQ x M a' d/\0<=boundQ x (flipM M) a' d)) (fun av _ _=>x - (intOf av).toNat)
         case atStart=>exact ⟨0,Nat.zero_le _,rfl,rfl,(fun y h=>absurd h (Nat.not_lt_zero _))⟩
         case round=>
          obtain ⟨a,ha,rfl,rfl,HA⟩:=hrel
          by_cases hak:a<x
          ·have ha1:(a:Int)<(x:Int):=by omega
           go_wp2_with fail
           go_loopw [17] (fun dv wr=>∃ d:Nat,d<=x/\dv=.int .i64 d/\w4=wr/\Hid (∀ d',d'<d->0<=boundQ x M a d'/\0<=boundQ x (flipM M) a d')) (fun dv _=>x - (intOf dv).toNat)
           case atStart=>exact ⟨0,Nat.zero_le _,rfl,rfl,(fun y h=>absurd h (Nat.not_lt_zero _))⟩
           case round=>
            obtain ⟨d,hd,rfl,rfl,HD⟩:=hrel
            by_cases hdk:d<x
            ·have hd1:(d:Int)<(x:Int):=by omega
             obtain ⟨J,hJ⟩:∃ J,boundQ x M a d=J:=⟨_,rfl⟩
             obtain ⟨T,hT⟩:∃ J,boundQ x (flipM M) a d=J:=⟨_,rfl⟩
             have hj:Calls Tryz.prog 98 #[.pointer (some ⟨p,0,none⟩),.int .i64 a,.int .i64 d] w4 fun e w'=>e=.returned (.int .i64 (boundQ x M a d))/\w4=w':=refJoin ⟨x,M⟩ _ a d w4 HRL.out hak hdk
             have ht:Calls Tryz.prog 99 #[.pointer (some ⟨p,0,none⟩),.int .i64 a,.int .i64 d] w4 fun e w'=>e=.returned (.int .i64 (boundQ x (flipM M) a d))/\w4=w':=refMeet ⟨x,M⟩ _ a d w4 HRL.out hak hdk
             rw [hJ] at hj
             rw [hT] at ht
             have HJ:=Hd hj
             have HTT:=Hd ht
             have HJV:=Hd hJ
             have HTV:=Hd hT
             have HBAD:Hid (J<0 \/ T<0->E=4):=by
              intro h
              rw [HE4.out,if_neg]
              intro hc
              rw [Bool.and_eq_true] at hc
              rcases h with h|h
              ·exact whole_iff.1 hc.1 a hak d hdk (by rw [HJV.out];exact h)
              ·exact whole_iff.1 hc.2 a hak d hdk (by rw [HTV.out];exact h)
             clear hj ht hJ hT
             by_cases j0:J<0
             ·obtain rfl:E=4:=HBAD.out (.inl j0)
              go_wp2_with (go_at_call 98;refine HJ.out.mono ?_;rintro e z ⟨rfl,rfl⟩)
              go_ret2
              exact refBad (by decide) HBW4.out
             by_cases t0:T<0
             ·obtain rfl:E=4:=HBAD.out (.inr t0)
              go_wp2_with (first|(go_at_call 98;refine HJ.out.mono ?_;rintro e z ⟨rfl,rfl⟩)|(go_at_call 99;refine HTT.out.mono ?_;rintro e z ⟨rfl,rfl⟩))
              go_ret2
              exact refBad (by decide) HBW4.out
             have HDN:Hid (∀ d',d'<d+1->0<=boundQ x M a d'/\0<=boundQ x (flipM M) a d'):=by
              intro d' h
              rcases Nat.lt_or_ge d' d with h3|h3
              ·exact HD.out d' h3
              ·obtain rfl:d'=d:=by omega
               rw [HJV.out,HTV.out];exact ⟨by omega,by omega⟩
             go_wp2_with (first|(go_at_call 98;refine HJ.out.mono ?_;rintro e z ⟨rfl,rfl⟩)|(go_at_call 99;refine HTT.out.mono ?_;rintro e z ⟨rfl,rfl⟩))
             go_roundw
             case rel=>exact ⟨d+1,by omega,by go_num,by first|trivial|rfl,HDN.out⟩
             case measure=>simp [intOf];omega
            ·have hd1:¬ (d:Int)<(x:Int):=by omega
             obtain rfl:d=x:=by omega
             have HAN:Hid (∀ a',a'<a+1->∀ e,e<d->0<=boundQ d M a' e/\0<=boundQ d (flipM M) a' e):=by
              intro a' h e he
              rcases Nat.lt_or_ge a' a with h3|h3
              ·exact HA.out a' h3 e he
              ·obtain rfl:a'=a:=by omega
               exact HD.out e he
             go_wp2_with fail
             go_roundw
             case rel=>exact ⟨a+1,by omega,by go_num,by first|trivial|rfl,HAN.out⟩
             case measure=>simp [intOf];omega
          ·have ha1:¬ (a:Int)<(x:Int):=by omega
           obtain rfl:a=x:=by omega
           obtain rfl:E=0:=by
            rw [HE4.out,whole_iff.2 (fun i hi j hj=>by have:=(HA.out i hi j hj).1;omega),whole_iff.2 (fun i hi j hj=>by have:=(HA.out i hi j hj).2;omega)];rfl
           have HRLF:Hid (RefLat w4 (.pointer (some ⟨p,0,none⟩)) (latOf a l)):=by show RefLat _ _ _;rw [HLD.out];exact HRL.out
           go_wp2_with fail
           go_ret2
           exact ⟨_,rfl,fun _=>HRLF.out,fun h=>absurd rfl h,HBW4.out⟩
theorem refBinds (n:Int) (v:Value) (l:List BindD) (w:World) (hn:InI64 n) (h:RdRow kBind none w v l) :
  Calls Tryz.prog 66 #[v,.int .i64 n] w fun e w'=>e=.returned (.int .i64 (bindsErr n l))/\Below w.heap.size w w':=by
 obtain ⟨a,cp,rfl⟩:=h.is
 obtain ⟨i0,hi,hz0,hz1,hz2⟩:=info_parts infoStr
 have hl:l.length * 24<=140737488351232:=h.size
 have HR:=Hd h
 clear h
 obtain ⟨E,hE⟩:∃ E,bindsErr n l=E:=⟨_,rfl⟩
 rw [hE]
 have HE:=Hd hE
 clear hE
 obtain ⟨hn1,hn2⟩:=hn
 go_enter Tryz.func66,Tryz.ntmps66
 by_cases g:32<l.length
 ·obtain rfl:E=5:=by rw [<- HE.out,bindsErr,if_pos g]
  have g1:(32:Int)<l.length:=by omega
  go_wp2_with fail
  go_ret
  exact ⟨rfl,bR _ _⟩
 have g1:¬ (32:Int)<l.length:=by omega
 have HQ0:Hid (E=bindsAt n [] l):=by show E=_;rw [<- HE.out,bindsErr,if_neg g]
 clear HE g
 go_wp2_with fail
 go_loopw [5,6] (fun hv i wr=>∃ k:Nat,k<=l.length/\i=.int .i64 k/\Hid (E=bindsAt n ((l.take k).map BindD.name) (l.drop k))/\Hid (∀ s ∈ (l.take k).map BindD.name,kStr.ok s)/\wr.ownsRow w.heap.size 9 1 hv k (((l.take k).map BindD.name).flatMap cellsStr)/\Below w.heap.size w wr) (fun _ i _=>l.length - (intOf i).toNat)
 case atStart=>exact ⟨0,Nat.zero_le _,rfl,HQ0.out,fun s hs=>by simp at hs,World.ownsRow_nil _ _ _ _,bR _ _⟩
 case round=>
  clear HQ0
  obtain ⟨k,hk,rfl,HQ,HOK,hown,hb⟩:=hrel
  obtain ⟨w1,rfl⟩:∃ x:World,x=wr:=⟨_,rfl⟩
  obtain ⟨va,vc,rfl,-⟩:=own_read hown
  have HB:=Hd hb
  have HOW:=Hd hown
  clear hb hown
  by_cases hlt:k<l.length
  ·have hlt1:(k:Int)<l.length:=by omega
   obtain ⟨x,hx⟩:∃ x,l[k]?=some x:=⟨_,lG hlt⟩
   obtain ⟨b,o,rfl,_,c0,c1,hxs,hx1,hx2⟩:=atBind (HR.out.keep HB.out) hx
   have HS:=Hd (HQ.out.trans (bindsAt_step n l k x hx))
   have HTK:=Hd (fun w'=>refTokName x.name w' hxs)
   have HTN:Hid ((l.take (k+1)).map BindD.name=(l.take k).map BindD.name ++ [x.name]):=by show _=_;rw [List.take_add_one,hx];simp
   have HXS:=Hd hxs
   clear hx HQ hxs
   go_upto_region 7 with fail
   cases ht:tokName x.name
   ·obtain rfl:E=4:=by rw [HS.out,ht];rfl
    rw [ht] at HTK
    go_wp2_with (go_at_call 63;refine (HTK.out _).mono ?_;rintro e z1 ⟨rfl,rfl⟩)
    go_ret
    exact ⟨rfl,HB.out⟩
   ·rw [ht] at HTK HS
    go_upto_region 9 with (go_at_call 63;refine (HTK.out _).mono ?_;rintro e z1 ⟨rfl,rfl⟩)
    have hI:=refIsM (.slice va k vc) ((l.take k).map BindD.name) x.name w1 (by
     have:=own_rows (K:=kStr) (l:=(l.take k).map BindD.name) (by rw [show ((l.take k).map BindD.name).length=k by simp;omega];exact HOW.out) (by show ((l.take k).map BindD.name).length * 16<=_;simp;omega) HOK.out
     exact this.forget)
    obtain ⟨V,hV⟩:∃ V,hasS x.name ((l.take k).map BindD.name)=V:=⟨_,rfl⟩
    rw [hV] at hI HS
    have HI:=Hd hI
    clear hI hV HTK
    cases V
    ·go_upto_region 11 with (go_at_call 64;refine HI.out.mono ?_;rintro e z2 ⟨rfl,rfl⟩)
     clear HI
     by_cases t1:x.level<0
     ·obtain rfl:E=3:=by rw [HS.out,if_neg (by simp),if_neg (by simp),if_pos (.inl t1)]
      go_wp2_with fail
      go_ret
      exact ⟨rfl,HB.out⟩
     by_cases t2:n<=x.level
     ·obtain rfl:E=3:=by rw [HS.out,if_neg (by simp),if_neg (by simp),if_pos (.inr t2)]
      go_wp2_with fail
      go_ret
      exact ⟨rfl,HB.out⟩
     have HQ2:Hid (E=bindsAt n ((l.take (k+1)).map BindD.name) (l.drop (k+1))):=by
      show E=_
      rw [HS.out,if_neg (by simp),if_neg (by simp),if_neg (by omega)]
     have HOK2:Hid (∀ s ∈ (l.take (k+1)).map BindD.name,kStr.ok s):=fun s hs=>by
      rw [HTN.out] at hs
      rcases List.mem_append.1 hs with h|h
      ·exact HOK.out s h
      ·simp only [List.mem_singleton] at h;subst h;exact HXS.out
     have hown1:=HOW.out
     go_wp2_with (at_builtin;refine wpList_append_own _ rfl (.tmp 45) (.tmp 51) 22 rfl w.heap.size 9 i0 (.string ⟨#[]⟩) 1 16 Tryz.underlying22 hi hz0 hz1 hz2 rfl (by decide) _ _ _ rfl (hown1.alloc _) ⟨w1.heap.size,0,none⟩ 1 1 (cellsStr x.name) rfl rfl (many_new _ _ _) ?c2 ?c3 ?c4 ?c5 ?_)
     case c2=>intro u hu;simp [cellsStr] at hu;subst hu;rfl
     case c3=>unfold maxLen;omega
     case c4=>omega
     case c5=>have:=HB.out.size;omega
     ·intro v' w4 hown' hgrow _
      have HOW2:Hid (w4.ownsRow w.heap.size 9 1 v' (k+1) (((l.take (k+1)).map BindD.name).flatMap cellsStr)):=by
       show World.ownsRow _ _ _ _ _ _ _
       rw [HTN.out,List.flatMap_append]
       simpa using hown'
      have HB4:=Hd ((HB.out.alloc HB.out.size (.cells (cellsStr x.name).toArray 9)).grown hgrow (by simp;have:=HB.out.size;omega) (own_row_le hown1))
      clear hown' hgrow hown1
      go_wp2
      go_roundw
      case rel=>exact ⟨k+1,by omega,by go_num,HQ2,HOK2,HOW2.out,HB4.out⟩
      case measure=>simp [intOf];omega
    ·obtain rfl:E=8:=by rw [HS.out,if_neg (by simp),if_pos rfl]
     go_wp2_with (go_at_call 64;refine HI.out.mono ?_;rintro e z2 ⟨rfl,rfl⟩)
     go_ret
     exact ⟨rfl,HB.out⟩
  ·obtain rfl:k=l.length:=by omega
   have hlt1:¬ (l.length:Int)<l.length:=by omega
   obtain rfl:E=0:=by rw [HQ.out,List.drop_length];rfl
   go_wp2_with fail
   go_ret
   exact ⟨rfl,HB.out⟩
theorem refPolCheck (q:PolD) (lv ov cv sv:Value) (w:World) (h:RdPol none w q lv ov cv sv) :
  Calls Tryz.prog 31 #[polV q lv ov cv sv] w fun e w'=>e=.returned (.int .i64 (polErr q))/\Below w.heap.size w w':=by
 obtain ⟨la,lc,rfl⟩:=h.1.is
 obtain ⟨oa,oc,rfl⟩:=h.2.1.is
 obtain ⟨ca,cc,rfl⟩:=h.2.2.1.is
 obtain ⟨sa,sc,rfl⟩:=h.2.2.2.1.is
 obtain ⟨hs1,hs2⟩:=h.2.2.2.2.1
 obtain ⟨hp1,hp2⟩:=h.2.2.2.2.2.1
 obtain ⟨hd1,hd2⟩:=h.2.2.2.2.2.2.1
 obtain ⟨hc1,hc2⟩:=h.2.2.2.2.2.2.2
 have hl:q.levels.length * 16<=140737488351232:=h.1.size
 have hcap:q.levels.length<=lc:=by obtain ⟨a',c',e,hl,_⟩:=h.1;simp only [Value.slice.injEq] at e;obtain ⟨_,_,rfl⟩:=e;exact hl.2
 obtain ⟨E,hE⟩:∃ E,polErr q=E:=⟨_,rfl⟩
 rw [hE]
 have HE:=Hd hE
 have HR:=Hd h
 clear hE h
 have HB0:=Hd ((bR w.heap.size w).alloc (nR _) (.cells #[.slice la q.levels.length lc,.slice oa q.order.length oc,.slice ca q.chans.length cc,.slice sa q.sites.length sc,.bool q.sens,.int .i64 q.steps,.int .i64 q.paths,.int .i64 q.nodes,.int .i64 q.confs] 31))
 have HP0:=Hd (heap_alloc_new w (.cells #[.slice la q.levels.length lc,.slice oa q.order.length oc,.slice ca q.chans.length cc,.slice sa q.sites.length sc,.bool q.sens,.int .i64 q.steps,.int .i64 q.paths,.int .i64 q.nodes,.int .i64 q.confs] 31))
 go_enter Tryz.func31,Tryz.ntmps31
 go_upto_region 1 with fail
 generalize w.alloc (.cells #[.slice la q.levels.length lc,.slice oa q.order.length oc,.slice ca q.chans.length cc,.slice sa q.sites.length sc,.bool q.sens,.int .i64 q.steps,.int .i64 q.paths,.int .i64 q.nodes,.int .i64 q.confs] 31)=W at *
 have HRW:=Hd (HR.out.keep HB0.out)
 have hsz:=(aE HP0.out).1
 clear HR
 have p0:=row_of HP0.out 0 (.slice la q.levels.length lc) rfl
 by_cases g0:q.levels.length=0
 ·obtain rfl:E=4:=by rw [<- HE.out,polErr,if_pos g0]
  have g0':((q.levels.length:Int) == 0)=true:=by simp [g0]
  go_wp2_with fail
  go_ret
  exact ⟨rfl,HB0.out⟩
 have g0':((q.levels.length:Int) == 0)=false:=by simp;exact fun h=>g0 (by rw [h];rfl)
 by_cases g:32<q.levels.length
 ·obtain rfl:E=5:=by rw [<- HE.out,polErr,if_neg g0,if_pos g]
  have g1:(32:Int)<q.levels.length:=by omega
  go_wp2_with fail
  go_ret
  exact ⟨rfl,HB0.out⟩
 have g1:¬ (32:Int)<q.levels.length:=by omega
 have HE1:Hid (E=if wordsErr [] q.levels ≠ 0 then wordsErr [] q.levels else if latErr q.levels.length q.order ≠ 0 then latErr q.levels.length q.order
  else if bindsErr q.levels.length q.chans ≠ 0 then bindsErr q.levels.length q.chans
  else if bindsErr q.levels.length q.sites ≠ 0 then bindsErr q.levels.length q.sites else limErr q):=by
  show E=_;rw [<- HE.out,polErr,if_neg g0,if_neg g]
 clear HE
 go_wp2_with fail
 clear p0
 go_loopw [3] (fun i wr=>∃ k:Nat,k<=q.levels.length/\i=.int .i64 k/\Hid (wordsErr [] q.levels=wordsErr (q.levels.take k) (q.levels.drop k))/\Below W.heap.size W wr) (fun i _=>q.levels.length - (intOf i).toNat)
 case atStart=>exact ⟨0,Nat.zero_le _,rfl,rfl,bR _ _⟩
 case round=>
  obtain ⟨k,hk,rfl,HQ,hb⟩:=hrel
  obtain ⟨w1,rfl⟩:∃ x:World,x=wr:=⟨_,rfl⟩
  have HB:=Hd hb
  clear hb
  have HP1:Hid (w1.heap[w.heap.size]?=some (.cells #[.slice la q.levels.length lc,.slice oa q.order.length oc,.slice ca q.chans.length cc,.slice sa q.sites.length sc,.bool q.sens,.int .i64 q.steps,.int .i64 q.paths,.int .i64 q.nodes,.int .i64 q.confs] 31 (0,0))):=(HB.out.block _ hsz).trans HP0.out
  have HB1:=Hd (bcomp HB0.out HB.out)
  have HR1:=Hd (HRW.out.keep HB.out)
  by_cases hlt:k<q.levels.length
  ·have hlt1:(k:Int)<q.levels.length:=by omega
   obtain ⟨x,hx⟩:∃ x,q.levels[k]?=some x:=⟨_,lG hlt⟩
   obtain ⟨b,o,rfl,_,c0,hxs⟩:=atStr HR1.out.1 hx
   have HS:=Hd (HQ.out.trans (wordsErr_step q.levels k x hx))
   have HTK:=Hd (fun w'=>refTokName x w' hxs)
   have HRT:=Hd (HR1.out.1.take k (by omega))
   have hkc:k<=lc:=by omega
   clear hx HQ
   obtain ⟨V0,hV0⟩:∃ V,wordsErr [] q.levels=V:=⟨_,rfl⟩
   rw [hV0] at HS
   have HV0:=Hd hV0
   clear hV0
   have hsz1:=(aE HP1.out).1
   have hp2':=HP1.out
   have p0:=row_of hp2' 0 (.slice (some ⟨b,o,none⟩) q.levels.length lc) rfl
   clear hp2'
   cases ht:tokName x
   ·obtain rfl:V0=4:=by rw [HS.out,ht];rfl
    obtain rfl:E=4:=by rw [HE1.out,HV0.out];rfl
    rw [ht] at HTK
    go_wp2_with (go_at_call 63;refine (HTK.out _).mono ?_;rintro e z1 ⟨rfl,rfl⟩)
    go_ret
    exact ⟨rfl,HB1.out⟩
   ·rw [ht] at HTK HS
    go_upto_region 10 with (go_at_call 63;refine (HTK.out _).mono ?_;rintro e z1 ⟨rfl,rfl⟩)
    obtain ⟨V,hV⟩:∃ V,hasS x (q.levels.take k)=V:=⟨_,rfl⟩
    rw [hV] at HS
    have HVV:=Hd hV
    clear hV HTK
    cases V
    ·have HQ2:Hid (wordsErr [] q.levels=wordsErr (q.levels.take (k+1)) (q.levels.drop (k+1))):=by
      show _=_
      rw [HV0.out,HS.out,if_neg (by simp),if_neg (by simp)]
     have C2:Hid (∀ n,Calls Tryz.prog 64 #[.slice (some ⟨b,o,none⟩) k lc,.string x] (w1.drewN n) fun e w''=>e=.returned (.bool false)/\w1.drewN n=w''):=fun n=>by
      have:=refIsM _ (q.levels.take k) x (w1.drewN n) (HRT.out.keep (below_drewN (bR _ _) n));rwa [HVV.out] at this
     go_quiet (first|(go_at_call 64;exact quiet_same (C2.out _)))
     have HBN:=Hd (below_drewN HB.out nq)
     go_wp2_with fail
     go_roundw
     case rel=>exact ⟨k+1,by omega,by go_num,HQ2,HBN.out⟩
     case measure=>simp [intOf];omega
    ·obtain rfl:V0=8:=by rw [HS.out,if_neg (by simp),if_pos rfl]
     obtain rfl:E=8:=by rw [HE1.out,HV0.out];rfl
     have C2:Hid (∀ n,Calls Tryz.prog 64 #[.slice (some ⟨b,o,none⟩) k lc,.string x] (w1.drewN n) fun e w''=>e=.returned (.bool true)/\w1.drewN n=w''):=fun n=>by
      have:=refIsM _ (q.levels.take k) x (w1.drewN n) (HRT.out.keep (below_drewN (bR _ _) n));rwa [HVV.out] at this
     go_quiet (first|(go_at_call 64;exact quiet_same (C2.out _)))
     have HBN:=Hd (below_drewN HB.out nq)
     go_wp2_with fail
     go_ret
     exact ⟨rfl,bcomp HB0.out HBN.out⟩
  ·obtain rfl:k=q.levels.length:=by omega
   have hlt1:¬ (q.levels.length:Int)<q.levels.length:=by omega
   have HE2:Hid (E=if latErr q.levels.length q.order ≠ 0 then latErr q.levels.length q.order
    else if bindsErr q.levels.length q.chans ≠ 0 then bindsErr q.levels.length q.chans
    else if bindsErr q.levels.length q.sites ≠ 0 then bindsErr q.levels.length q.sites else limErr q):=by
    have hz:wordsErr [] q.levels=0:=by rw [HQ.out,List.drop_length];rfl
    show E=_
    rw [HE1.out,if_neg (by simp [hz])]
   clear HE1 HQ
   have HLN:=Hd (refLatNew q.levels.length _ q.order w1 ⟨by omega,by omega⟩ HR1.out.2.1)
   obtain ⟨eL,heL⟩:∃ e,latErr q.levels.length q.order=e:=⟨_,rfl⟩
   rw [heL] at HLN HE2
   clear heL
   have p0:=row_of HP1.out 0 (.slice la q.levels.length lc) rfl
   have p1:=row_of HP1.out 1 (.slice oa q.order.length oc) rfl
   have p2:=row_of HP1.out 2 (.slice ca q.chans.length cc) rfl
   have p3:=row_of HP1.out 3 (.slice sa q.sites.length sc) rfl
   have p4:=row_of HP1.out 4 (.bool q.sens) rfl
   have p5:=row_of HP1.out 5 (.int .i64 q.steps) rfl
   have p6:=row_of HP1.out 6 (.int .i64 q.paths) rfl
   have p7:=row_of HP1.out 7 (.int .i64 q.nodes) rfl
   have p8:=row_of HP1.out 8 (.int .i64 q.confs) rfl
   go_upto_region 13 with (go_at_call 65;refine HLN.out.mono ?_;rintro e z1 ⟨vl,rfl,-,-,hz⟩;have B1:=Hd hz;clear hz)
   have HBz:=Hd (bcomp HB1.out B1.out)
   clear p0 p1 p2 p3 p4 p5 p6 p7 p8 HLN
   by_cases n1:eL=0
   case neg=>
    obtain rfl:E=eL:=by rw [HE2.out,if_pos n1]
    have n1':(E != 0)=true:=by simp [n1]
    go_wp2_with fail
    go_ret
    exact ⟨rfl,HBz.out⟩
   subst n1
   have hsz1:=(aE HP1.out).1
   have HP2:Hid (z1.heap[w.heap.size]?=some (.cells #[.slice la q.levels.length lc,.slice oa q.order.length oc,.slice ca q.chans.length cc,.slice sa q.sites.length sc,.bool q.sens,.int .i64 q.steps,.int .i64 q.paths,.int .i64 q.nodes,.int .i64 q.confs] 31 (0,0))):=(B1.out.block _ hsz1).trans HP1.out
   have HR2:=Hd (HR1.out.keep B1.out)
   have HE3:Hid (E=if bindsErr q.levels.length q.chans ≠ 0 then bindsErr q.levels.length q.chans
    else if bindsErr q.levels.length q.sites ≠ 0 then bindsErr q.levels.length q.sites else limErr q):=by
    show E=_;rw [HE2.out,if_neg (by simp)]
   clear HE2 HR1 HP1 HB1
   have HC1:=Hd (refBinds q.levels.length _ q.chans z1 ⟨by omega,by omega⟩ HR2.out.2.2.1)
   obtain ⟨eC,heC⟩:∃ e,bindsErr q.levels.length q.chans=e:=⟨_,rfl⟩
   rw [heC] at HC1 HE3
   clear heC
   have p0:=row_of HP2.out 0 (.slice la q.levels.length lc) rfl
   have p1:=row_of HP2.out 1 (.slice oa q.order.length oc) rfl
   have p2:=row_of HP2.out 2 (.slice ca q.chans.length cc) rfl
   have p3:=row_of HP2.out 3 (.slice sa q.sites.length sc) rfl
   have p4:=row_of HP2.out 4 (.bool q.sens) rfl
   have p5:=row_of HP2.out 5 (.int .i64 q.steps) rfl
   have p6:=row_of HP2.out 6 (.int .i64 q.paths) rfl
   have p7:=row_of HP2.out 7 (.int .i64 q.nodes) rfl
   have p8:=row_of HP2.out 8 (.int .i64 q.confs) rfl
   go_upto_region 16 with (go_at_call 66;refine HC1.out.mono ?_;rintro e z2 ⟨rfl,hz⟩;have B2:=Hd hz;clear hz)
   have HBz2:=Hd (bcomp HBz.out B2.out)
   clear p0 p1 p2 p3 p4 p5 p6 p7 p8 HC1 HBz
   by_cases n2:eC=0
   case neg=>
    obtain rfl:E=eC:=by rw [HE3.out,if_pos n2]
    have n1':(E != 0)=true:=by simp [n2]
    go_wp2_with fail
    go_ret
    exact ⟨rfl,HBz2.out⟩
   subst n2
   have hsz2:=(aE HP2.out).1
   have HP3:Hid (z2.heap[w.heap.size]?=some (.cells #[.slice la q.levels.length lc,.slice oa q.order.length oc,.slice ca q.chans.length cc,.slice sa q.sites.length sc,.bool q.sens,.int .i64 q.steps,.int .i64 q.paths,.int .i64 q.nodes,.int .i64 q.confs] 31 (0,0))):=(B2.out.block _ hsz2).trans HP2.out
   have HR3:=Hd (HR2.out.keep B2.out)
   have HE4:Hid (E=if bindsErr q.levels.length q.sites ≠ 0 then bindsErr q.levels.length q.sites else limErr q):=by
    show E=_;rw [HE3.out,if_neg (by simp)]
   clear HE3 HR2 HP2
   have HC2:=Hd (refBinds q.levels.length _ q.sites z2 ⟨by omega,by omega⟩ HR3.out.2.2.2.1)
   obtain ⟨eS,heS⟩:∃ e,bindsErr q.levels.length q.sites=e:=⟨_,rfl⟩
   rw [heS] at HC2 HE4
   clear heS
   have p0:=row_of HP3.out 0 (.slice la q.levels.length lc) rfl
   have p1:=row_of HP3.out 1 (.slice oa q.order.length oc) rfl
   have p2:=row_of HP3.out 2 (.slice ca q.chans.length cc) rfl
   have p3:=row_of HP3.out 3 (.slice sa q.sites.length sc) rfl
   have p4:=row_of HP3.out 4 (.bool q.sens) rfl
   have p5:=row_of HP3.out 5 (.int .i64 q.steps) rfl
   have p6:=row_of HP3.out 6 (.int .i64 q.paths) rfl
   have p7:=row_of HP3.out 7 (.int .i64 q.nodes) rfl
   have p8:=row_of HP3.out 8 (.int .i64 q.confs) rfl
   go_upto_region 19 with (go_at_call 66;refine HC2.out.mono ?_;rintro e z3 ⟨rfl,hz⟩;have B3:=Hd hz;clear hz)
   have HBz3:=Hd (bcomp HBz2.out B3.out)
   clear p0 p1 p2 p3 p4 p5 p6 p7 p8 HC2 HBz2
   by_cases n3:eS=0
   case neg=>
    obtain rfl:E=eS:=by rw [HE4.out,if_pos n3]
    have n1':(E != 0)=true:=by simp [n3]
    go_wp2_with fail
    go_ret
    exact ⟨rfl,HBz3.out⟩
   subst n3
   have hsz3:=(aE HP3.out).1
   have hp4:z3.heap[w.heap.size]?=some (.cells #[.slice la q.levels.length lc,.slice oa q.order.length oc,.slice ca q.chans.length cc,.slice sa q.sites.length sc,.bool q.sens,.int .i64 q.steps,.int .i64 q.paths,.int .i64 q.nodes,.int .i64 q.confs] 31 (0,0)):=(B3.out.block _ hsz3).trans HP3.out
   have HE5:Hid (E=limErr q):=by show E=_;rw [HE4.out,if_neg (by simp)]
   have p0:=row_of hp4 0 (.slice la q.levels.length lc) rfl
   have p1:=row_of hp4 1 (.slice oa q.order.length oc) rfl
   have p2:=row_of hp4 2 (.slice ca q.chans.length cc) rfl
   have p3:=row_of hp4 3 (.slice sa q.sites.length sc) rfl
   have p4:=row_of hp4 4 (.bool q.sens) rfl
   have p5:=row_of hp4 5 (.int .i64 q.steps) rfl
   have p6:=row_of hp4 6 (.int .i64 q.paths) rfl
   have p7:=row_of hp4 7 (.int .i64 q.nodes) rfl
   have p8:=row_of hp4 8 (.int .i64 q.confs) rfl
   clear HE4 HR3 HP3 hp4
   by_cases t0:q.steps<1
   ·obtain rfl:E=3:=by rw [HE5.out,limErr,if_pos (by omega)]
    go_wp2_with fail
    go_ret
    exact ⟨rfl,HBz3.out⟩
   by_cases t1:65536<q.steps
   ·obtain rfl:E=3:=by rw [HE5.out,limErr,if_pos (by omega)]
    go_wp2_with fail
    go_ret
    exact ⟨rfl,HBz3.out⟩
   by_cases t2:q.paths<1
   ·obtain rfl:E=3:=by rw [HE5.out,limErr,if_pos (by omega)]
    go_wp2_with fail
    go_ret
    exact ⟨rfl,HBz3.out⟩
   by_cases t3:4096<q.paths
   ·obtain rfl:E=3:=by rw [HE5.out,limErr,if_pos (by omega)]
    go_wp2_with fail
    go_ret
    exact ⟨rfl,HBz3.out⟩
   by_cases t4:q.nodes<0
   ·obtain rfl:E=3:=by rw [HE5.out,limErr,if_pos (by omega)]
    go_wp2_with fail
    go_ret
    exact ⟨rfl,HBz3.out⟩
   by_cases t5:1048576<q.nodes
   ·obtain rfl:E=3:=by rw [HE5.out,limErr,if_pos (by omega)]
    go_wp2_with fail
    go_ret
    exact ⟨rfl,HBz3.out⟩
   by_cases t6:q.confs<0
   ·obtain rfl:E=3:=by rw [HE5.out,limErr,if_pos (by omega)]
    go_wp2_with fail
    go_ret
    exact ⟨rfl,HBz3.out⟩
   by_cases t7:1099511627776<q.confs
   ·obtain rfl:E=3:=by rw [HE5.out,limErr,if_pos (by omega)]
    go_wp2_with fail
    go_ret
    exact ⟨rfl,HBz3.out⟩
   obtain rfl:E=0:=by rw [HE5.out,limErr,if_neg (by omega)]
   go_wp2_with fail
   go_ret
   exact ⟨rfl,HBz3.out⟩
theorem refLevel (v:Value) (l:List BindD) (s:ByteArray) (w:World) (h:RdRow kBind none w v l) :
  Calls Tryz.prog 32 #[v,.string s] w fun e w'=>e=.returned (.tuple #[.int .i64 ((levelOf l s).getD 0),.bool (levelOf l s).isSome])/\Below w.heap.size w w':=by
 obtain ⟨a,cp,rfl⟩:=h.is
 have hl:l.length * 24<=140737488351232:=h.size
 have HR:=Hd h
 clear h
 obtain ⟨V,hV⟩:∃ V,levelOf l s=V:=⟨_,rfl⟩
 rw [hV]
 have HV:=Hd hV
 clear hV
 go_enter Tryz.func32,Tryz.ntmps32
 go_wp2_with fail
 go_loopw [6] (fun i wr=>∃ k:Nat,k<=l.length/\i=.int .i64 k/\Hid (levelOf l s=levelOf (l.drop k) s)/\w=wr) (fun i _=>l.length - (intOf i).toNat)
 case atStart=>exact ⟨0,Nat.zero_le _,rfl,rfl,rfl⟩
 case round=>
  obtain ⟨k,hk,rfl,HQ,rfl⟩:=hrel
  by_cases hlt:k<l.length
  ·have hlt1:(k:Int)<l.length:=by omega
   obtain ⟨x,hx⟩:∃ x,l[k]?=some x:=⟨_,lG hlt⟩
   obtain ⟨b,o,rfl,_,c0,c1,hxs,hx1,hx2⟩:=atBind HR.out hx
   have HS:Hid (levelOf l s=if isB s x then some x.level else levelOf (l.drop (k+1)) s):=by
    show _=_
    obtain ⟨h1,e1⟩:=lE hx
    rw [HQ.out,List.drop_eq_getElem_cons h1,e1,levelOf]
   clear hx HQ
   cases he:(x.name.toList == s.toList)
   ·have HQ2:Hid (levelOf l s=levelOf (l.drop (k+1)) s):=by show _=_;rw [HS.out,isB,he];rfl
    clear HS
    go_wp2_with fail
    go_roundw
    case rel=>exact ⟨k+1,by omega,by go_num,HQ2,by first|trivial|rfl⟩
    case measure=>simp [intOf];omega
   ·obtain rfl:V=some x.level:=by rw [<- HV.out,HS.out,isB,he];rfl
    clear HS
    go_wp2_with fail
    go_ret2
    exact ⟨rfl,bR _ _⟩
  ·obtain rfl:k=l.length:=by omega
   have hlt1:¬ (l.length:Int)<l.length:=by omega
   obtain rfl:V=none:=by rw [<- HV.out,HQ.out,List.drop_length];rfl
   go_wp2_with fail
   go_ret2
   exact ⟨rfl,bR _ _⟩
end Go.Proofs.YtgllkgedjplpdaaGreatDoor
