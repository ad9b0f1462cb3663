/- The reference's lattice in memory, and the contracts of its Is, Le, Join, Meet. Condition: the matrix lies there. -/
import Derived.Test.YtkjkpddajjmloaaGreatDoorAgC
set_option linter.all false
set_option maxRecDepth 1000000
set_option maxHeartbeats 6400000
namespace Go.Proofs.YtkjkpddajjmloaaGreatDoor
open Go.ChangeShapes Go.WideShapes Go.ChangeAt Go.RowKit
open Go.Lib (hid)
structure RefM (w:World) (lo p g c n:Nat) (B K:Nat→Nat) (M:Mat):Prop where
 hp:lo≤p
 top:w.cell? ⟨p,0,none⟩=some (.slice (some ⟨g,0,none⟩) n c)
 row:∀ i,i<n→w.cell? ⟨g,i,none⟩=some (.slice (some ⟨B i,0,none⟩) n (K i))
 el:∀ i j,i<n→j<n→w.cell? ⟨B i,j,none⟩=some (.bool (M i j))∧w.frozen? ⟨B i,j,none⟩=false
 apart:∀ i j,i<n→j<n→B i=B j→i=j
 nep:∀ i,i<n→B i≠p∧B i≠g
 lob:∀ i,i<n→lo≤B i
 small:n≤32
theorem RefM.keep {w w':World} {lo p g c n:Nat} {B K:Nat→Nat} {M:Mat} (h:RefM w lo p g c n B K M) (k:Below w.heap.size w w'):RefM w' lo p g c n B K M:=
 ⟨h.hp,cell_keep k h.top,fun i hi=>cell_keep k (h.row i hi),fun i j hi hj=>⟨cell_keep k (h.el i j hi hj).1,by
  rw[World.frozen?_of_block (w:=w) (k.block _ (block_lt_of_cell (h.el i j hi hj).1))];exact (h.el i j hi hj).2⟩,h.apart,h.nep,h.lob,h.small⟩
theorem RefM.congr {w:World} {lo p g c n:Nat} {B K:Nat→Nat} {M M':Mat} (h:RefM w lo p g c n B K M) (e:∀ i j,i<n→j<n→M i j=M' i j):RefM w lo p g c n B K M':=
 ⟨h.hp,h.top,h.row,fun i j hi hj=>by rw[← e i j hi hj];exact h.el i j hi hj,h.apart,h.nep,h.lob,h.small⟩
def setM (M:Mat) (i j:Nat) (v:Bool):Mat:=fun x y=>if x=i∧y=j then v else M x y
theorem RefM.set {w:World} {lo p g c n:Nat} {B K:Nat→Nat} {M:Mat} (h:RefM w lo p g c n B K M) {i j:Nat} (hi:i<n) (hj:j<n) (v:Bool):RefM (w.setCell ⟨B i,j,none⟩ (.bool v)) lo p g c n B K (setM M i j v):=by
 refine⟨h.hp,?_,fun x hx=>?_,fun x y hx hy=>?_,h.apart,h.nep,h.lob,h.small⟩
 ·rw[World.cell?_setCell_other _ _ _ _ (fun e=>by simp only[Addr.mk.injEq] at e;exact (h.nep i hi).1 e.1)];exact h.top
 ·rw[World.cell?_setCell_other _ _ _ _ (fun e=>by simp only[Addr.mk.injEq] at e;exact (h.nep i hi).2 e.1)];exact h.row x hx
 ·have h0:=h.el x y hx hy
  have hf:(w.setCell ⟨B i,j,none⟩ (.bool v)).frozen? ⟨B x,y,none⟩=false:=by rw[World.frozen?_setCell];exact h0.2
  refine⟨?_,hf⟩
  by_cases e:x=i∧y=j
  ·obtain⟨rfl,rfl⟩:=e
   rw[World.cell?_setCell_same _ _ _ h0.1]
   simp[setM]
  ·rw[World.cell?_setCell_other _ _ _ _ (fun e'=>by
    simp only[Addr.mk.injEq,and_true] at e'
    exact e ⟨h.apart x i hx hi e'.1.symm,e'.2.symm⟩),h0.1]
   simp[setM,e]
def RefLat (w:World) (v:Value) (L:LatD):Prop:=∃ lo p g c B K,v=.pointer (some ⟨p,0,none⟩)∧RefM w lo p g c L.n B K L.M
theorem RefLat.keep {w w':World} {v:Value} {L:LatD} (h:RefLat w v L) (k:Below w.heap.size w w'):RefLat w' v L:=by
 obtain⟨lo,p,g,c,B,K,e,h⟩:=h;exact⟨lo,p,g,c,B,K,e,h.keep k⟩
theorem refLIs (L:LatD) (v:Value) (a:Int) (w:World) (h:RefLat w v L) (ha:InI64 a) :
  Calls Tryz.prog 91 #[v,.int .i64 a] w fun e w'=>e=.returned (.bool (isL L a))∧w=w':=by
 obtain⟨lo,p,g,c,B,K,rfl,h⟩:=h
 have t:=h.top
 have hs:=h.small
 clear h
 obtain⟨R,hR⟩:∃ R,isL L a=R:=⟨_,rfl⟩
 rw[hR]
 have HR:=hid hR
 clear hR
 go_enter Tryz.func91,Tryz.ntmps91
 by_cases h0:0≤a
 ·by_cases h1:a<(L.n:Int)
  ·obtain rfl:R=true:=by rw[← HR.out,isL,decide_eq_true h0,decide_eq_true h1];rfl
   go_wp2_with fail
   go_ret
   exact⟨rfl,rfl⟩
  ·obtain rfl:R=false:=by rw[← HR.out,isL,decide_eq_false h1,Bool.and_false]
   go_wp2_with fail
   go_ret
   exact⟨rfl,rfl⟩
 ·obtain rfl:R=false:=by rw[← HR.out,isL,decide_eq_false h0,Bool.false_and]
  go_wp2_with fail
  go_ret
  exact⟨rfl,rfl⟩
theorem refLe (L:LatD) (v:Value) (a b:Int) (w:World) (h:RefLat w v L) (ha:InI64 a) (hb:InI64 b) :
  Calls Tryz.prog 59 #[v,.int .i64 a,.int .i64 b] w fun e w'=>e=.returned (.bool (leL L a b))∧w=w':=by
 have H1:=hid (refLIs L v a w h ha)
 have H2:=hid (refLIs L v b w h hb)
 obtain⟨lo,p,g,c,B,K,rfl,h⟩:=h
 obtain⟨R,hR⟩:∃ R,leL L a b=R:=⟨_,rfl⟩
 rw[hR]
 have HR:=hid hR
 have HM:=hid h
 have t:=h.top
 clear hR h
 obtain⟨x,hx⟩:∃ x,isL L a=x:=⟨_,rfl⟩
 obtain⟨y,hy⟩:∃ x,isL L b=x:=⟨_,rfl⟩
 rw[hx] at H1
 rw[hy] at H2
 have HX:=hid hx
 have HY:=hid hy
 clear hx hy
 go_enter Tryz.func59,Tryz.ntmps59
 cases x
 ·obtain rfl:R=false:=by rw[← HR.out,leL,HX.out,Bool.false_and]
  go_wp2_with (go_at_call 91;with_reducible refine H1.out.mono ?_;rintro e z ⟨rfl,rfl⟩)
  go_ret
  exact⟨rfl,rfl⟩
 cases y
 ·obtain rfl:R=false:=by rw[← HR.out,leL,HX.out,HY.out,Bool.false_and,Bool.and_false]
  go_wp2_with (go_at_call 91;first|(with_reducible refine H1.out.mono ?_;rintro e z ⟨rfl,rfl⟩)|(with_reducible refine H2.out.mono ?_;rintro e z ⟨rfl,rfl⟩))
  go_ret
  exact⟨rfl,rfl⟩
 have ha':=HX.out
 have hb':=HY.out
 simp only[isL,Bool.and_eq_true,decide_eq_true_eq] at ha' hb'
 obtain⟨m,rfl⟩:∃ m:Nat,a=m:=⟨a.toNat,by omega⟩
 obtain⟨k,rfl⟩:∃ m:Nat,b=m:=⟨b.toNat,by omega⟩
 have hm:m<L.n:=by omega
 have hk:k<L.n:=by omega
 have hm1:(m:Int)<(L.n:Int):=by omega
 have hk1:(k:Int)<(L.n:Int):=by omega
 have r0:=HM.out.row m hm
 have r1:=(HM.out.el m k hm hk).1
 obtain rfl:R=L.M m k:=by rw[← HR.out,leL,HX.out,HY.out];rfl
 clear ha' hb' hm hk
 go_wp2_with (go_at_call 91;first|(with_reducible refine H1.out.mono ?_;rintro e z ⟨rfl,rfl⟩)|(with_reducible refine H2.out.mono ?_;rintro e z ⟨rfl,rfl⟩))
 go_ret
 exact⟨rfl,rfl⟩
def boundQ (n:Nat) (M:Mat) (i k:Nat):Int:=match (List.range n).find? (boundM n M i k) with|some c=>c|none=>-1
theorem find_range {n k:Nat} {f:Nat→Bool} (hk:k<n) (hf:f k=true) (h:∀ i,i<k→f i=false):(List.range n).find? f=some k:=by
 rw[List.find?_eq_some_iff_getElem]
 refine⟨hf,k,by simpa using hk,by simp,fun j hj=>?_⟩
 simp[h j hj]
theorem boundQ_some {n:Nat} {M:Mat} {i k c:Nat} (hc:c<n) (h:boundM n M i k c=true) (h0:∀ c',c'<c→boundM n M i k c'=false):boundQ n M i k=c:=by
 unfold boundQ;rw[find_range hc h h0]
theorem boundQ_none {n:Nat} {M:Mat} {i k:Nat} (h0:∀ c',c'<n→boundM n M i k c'=false):boundQ n M i k=-1:=by
 unfold boundQ
 rw[List.find?_eq_none.2 (fun x hx=>by rw[h0 x (by simpa using hx)];decide)]
theorem refJoin (L:LatD) (v:Value) (i k:Nat) (w:World) (h:RefLat w v L) (hi:i<L.n) (hk:k<L.n) :
  Calls Tryz.prog 89 #[v,.int .i64 i,.int .i64 k] w fun e w'=>e=.returned (.int .i64 (boundQ L.n L.M i k))∧w=w':=by
 obtain⟨lo,p,g,c,B,K,rfl,h⟩:=h
 obtain⟨R,hR⟩:∃ R,boundQ L.n L.M i k=R:=⟨_,rfl⟩
 rw[hR]
 have HR:=hid hR
 have HM:=hid h
 have hn:=h.small
 have t:=h.top
 clear hR h
 have hi1:(i:Int)<(L.n:Int):=by omega
 have hk1:(k:Int)<(L.n:Int):=by omega
 have ri:=HM.out.row i hi
 have rk:=HM.out.row k hk
 go_enter Tryz.func89,Tryz.ntmps89
 go_wp2_with fail
 go_loopw [7,8,9] (fun cv _ _ wr=>∃ m:Nat,m≤L.n∧cv=.int .i64 m∧w=wr∧Hid (∀ m',m'<m→boundM L.n L.M i k m'=false)) (fun cv _ _ _=>L.n-(intOf cv).toNat)
 case atStart=>exact⟨0,Nat.zero_le _,rfl,rfl,(fun m h=>absurd h (Nat.not_lt_zero _))⟩
 case round=>
  obtain⟨m,hm,rfl,rfl,HB⟩:=hrel
  by_cases hlt:m<L.n
  ·have hm1:(m:Int)<(L.n:Int):=by omega
   have rm:=HM.out.row m hlt
   obtain⟨b1,h1⟩:∃ b,L.M i m=b:=⟨_,rfl⟩
   obtain⟨b2,h2⟩:∃ b,L.M k m=b:=⟨_,rfl⟩
   have e1:=(HM.out.el i m (by omega) (by omega)).1
   have e2:=(HM.out.el k m (by omega) (by omega)).1
   rw[show L.M i m=b1 from h1] at e1
   rw[show L.M k m=b2 from h2] at e2
   have HE1:=hid h1
   have HE2:=hid h2
   clear h1 h2
   go_upto_region 4 with fail
   go_cut [8] from 19 to 41 (fun c8 wx=>c8=.bool (b1&&b2)∧w=wx)
   case first=>
    cases b1
    ·go_wp2_with fail
     go_meet
     exact⟨rfl,rfl⟩
    ·cases b2
     ·go_wp2_with fail
      go_meet
      exact⟨rfl,rfl⟩
     ·go_wp2_with fail
      go_meet
      exact⟨rfl,rfl⟩
   case rest=>
    obtain⟨rfl,rfl⟩:=hcut
    obtain⟨b0,hb0⟩:∃ b,(b1&&b2)=b:=⟨_,rfl⟩
    rw[hb0]
    have HB0:Hid ((L.M i m&&L.M k m)=b0):=by show _=_;rw[HE1.out,HE2.out];exact hb0
    clear hb0 e1 e2
    go_wp2_with fail
    go_loopw [8,9] (fun lv dv wr=>∃ (d:Nat) (l:Bool),d≤L.n∧dv=.int .i64 d∧lv=.bool l∧w=wr∧Hid (l=true↔b0=true∧∀ d',d'<d→(L.M m d'||!L.M i d'||!L.M k d')=true)∧Hid (l=false→b0=false ∨ ∃ d',d'<L.n∧(L.M m d'||!L.M i d'||!L.M k d')=false)) (fun _ dv _=>L.n-(intOf dv).toNat)
    case atStart=>exact⟨0,b0,Nat.zero_le _,rfl,rfl,rfl,⟨fun h=>⟨h,fun d h=>absurd h (Nat.not_lt_zero _)⟩,fun h=>h.1⟩,fun h=>.inl h⟩
    case round=>
     obtain⟨d,l,hd,rfl,rfl,rfl,HD,HF⟩:=hrel
     cases l
     ·have HBM:Hid (boundM L.n L.M i k m=false):=by
       show _=_
       unfold boundM
       rw[HB0.out]
       rcases HF.out rfl with h|⟨d',h1,h2⟩
       ·rw[h,Bool.false_and]
       ·rw[Bool.and_eq_false_iff];right;exact allN_false.2 ⟨d',h1,h2⟩
      have HBN:Hid (∀ m',m'<m+1→boundM L.n L.M i k m'=false):=by
       intro m' h
       rcases Nat.lt_or_ge m' m with h2|h2
       ·exact HB.out m' h2
       ·obtain rfl:m'=m:=by omega
        exact HBM.out
      by_cases hdl:d<L.n
      ·have hd1:(d:Int)<(L.n:Int):=by omega
       go_wp2_with fail
       go_roundw
       case rel=>exact⟨m+1,by omega,by go_num,by first|trivial|rfl,HBN.out⟩
       case measure=>simp[intOf];omega
      ·have hd1:¬ (d:Int)<(L.n:Int):=by omega
       go_wp2_with fail
       go_roundw
       case rel=>exact⟨m+1,by omega,by go_num,by first|trivial|rfl,HBN.out⟩
       case measure=>simp[intOf];omega
     ·by_cases hdl:d<L.n
      ·have hd1:(d:Int)<(L.n:Int):=by omega
       have rd:=HM.out.row d hdl
       obtain⟨x1,h1⟩:∃ b,L.M m d=b:=⟨_,rfl⟩
       obtain⟨x2,h2⟩:∃ b,L.M i d=b:=⟨_,rfl⟩
       obtain⟨x3,h3⟩:∃ b,L.M k d=b:=⟨_,rfl⟩
       have e1:=(HM.out.el m d (by omega) (by omega)).1
       have e2:=(HM.out.el i d (by omega) (by omega)).1
       have e3:=(HM.out.el k d (by omega) (by omega)).1
       rw[show L.M m d=x1 from h1] at e1
       rw[show L.M i d=x2 from h2] at e2
       rw[show L.M k d=x3 from h3] at e3
       have HC:Hid ((L.M m d||!L.M i d||!L.M k d)=(x1||!x2||!x3)):=by show _=_;rw[h1,h2,h3]
       clear h1 h2 h3
       obtain⟨x0,hx0⟩:∃ b,(x1||!x2||!x3)=b:=⟨_,rfl⟩
       rw[hx0] at HC
       have HX0:=hid hx0
       have HDN:Hid (x0=true↔b0=true∧∀ d',d'<d+1→(L.M m d'||!L.M i d'||!L.M k d')=true):=by
        obtain⟨a1,a2⟩:=HD.out.1 rfl
        refine⟨fun h=>⟨a1,fun d' h2=>?_⟩,fun h=>?_⟩
        ·rcases Nat.lt_or_ge d' d with h3|h3
         ·exact a2 d' h3
         ·obtain rfl:d'=d:=by omega
          rw[HC.out];exact h
        ·have:=h.2 d (by omega);rw[HC.out] at this;exact this
       have HFN:Hid (x0=false→b0=false ∨ ∃ d',d'<L.n∧(L.M m d'||!L.M i d'||!L.M k d')=false):=fun h=>.inr ⟨d,hdl,by rw[HC.out];exact h⟩
       clear hx0
       cases x1
       ·cases x2
        ·obtain rfl:x0=true:=HX0.out.symm
         go_wp2_with fail
         go_roundw
         case rel=>exact⟨d+1,_,by omega,by go_num,rfl,by first|trivial|rfl,HDN.out,HFN.out⟩
         case measure=>simp[intOf];omega
        ·cases x3
         ·obtain rfl:x0=true:=HX0.out.symm
          go_wp2_with fail
          go_roundw
          case rel=>exact⟨d+1,_,by omega,by go_num,rfl,by first|trivial|rfl,HDN.out,HFN.out⟩
          case measure=>simp[intOf];omega
         ·obtain rfl:x0=false:=HX0.out.symm
          go_wp2_with fail
          go_roundw
          case rel=>exact⟨d+1,_,by omega,by go_num,rfl,by first|trivial|rfl,HDN.out,HFN.out⟩
          case measure=>simp[intOf];omega
       ·obtain rfl:x0=true:=HX0.out.symm
        go_wp2_with fail
        go_roundw
        case rel=>exact⟨d+1,_,by omega,by go_num,rfl,by first|trivial|rfl,HDN.out,HFN.out⟩
        case measure=>simp[intOf];omega
      ·have hd1:¬ (d:Int)<(L.n:Int):=by omega
       obtain rfl:d=L.n:=by omega
       obtain⟨a1,a2⟩:=HD.out.1 rfl
       have HBT:Hid (boundM L.n L.M i k m=true):=by
        show _=_
        unfold boundM
        rw[HB0.out,a1,Bool.true_and]
        exact allN_iff.2 a2
       obtain rfl:R=m:=by rw[← HR.out];exact boundQ_some hlt HBT.out HB.out
       go_wp2_with fail
       go_ret
       exact⟨rfl,rfl⟩
  ·have hm1:¬ (m:Int)<(L.n:Int):=by omega
   obtain rfl:m=L.n:=by omega
   obtain rfl:R=-1:=by rw[← HR.out];exact boundQ_none HB.out
   go_wp2_with fail
   go_ret
   exact⟨rfl,rfl⟩
theorem refMeet (L:LatD) (v:Value) (i k:Nat) (w:World) (h:RefLat w v L) (hi:i<L.n) (hk:k<L.n) :
  Calls Tryz.prog 90 #[v,.int .i64 i,.int .i64 k] w fun e w'=>e=.returned (.int .i64 (boundQ L.n (flipM L.M) i k))∧w=w':=by
 obtain⟨lo,p,g,c,B,K,rfl,h⟩:=h
 obtain⟨R,hR⟩:∃ R,boundQ L.n (flipM L.M) i k=R:=⟨_,rfl⟩
 rw[hR]
 have HR:=hid hR
 have HM:=hid h
 have hn:=h.small
 have t:=h.top
 clear hR h
 have hi1:(i:Int)<(L.n:Int):=by omega
 have hk1:(k:Int)<(L.n:Int):=by omega
 have ri:=HM.out.row i hi
 have rk:=HM.out.row k hk
 go_enter Tryz.func90,Tryz.ntmps90
 go_wp2_with fail
 go_loopw [7,8,9] (fun cv _ _ wr=>∃ m:Nat,m≤L.n∧cv=.int .i64 m∧w=wr∧Hid (∀ m',m'<m→boundM L.n (flipM L.M) i k m'=false)) (fun cv _ _ _=>L.n-(intOf cv).toNat)
 case atStart=>exact⟨0,Nat.zero_le _,rfl,rfl,(fun m h=>absurd h (Nat.not_lt_zero _))⟩
 case round=>
  obtain⟨m,hm,rfl,rfl,HB⟩:=hrel
  by_cases hlt:m<L.n
  ·have hm1:(m:Int)<(L.n:Int):=by omega
   have rm:=HM.out.row m hlt
   obtain⟨b1,h1⟩:∃ b,(flipM L.M) i m=b:=⟨_,rfl⟩
   obtain⟨b2,h2⟩:∃ b,(flipM L.M) k m=b:=⟨_,rfl⟩
   have e1:=(HM.out.el m i (by omega) (by omega)).1
   have e2:=(HM.out.el m k (by omega) (by omega)).1
   rw[show L.M m i=b1 from h1] at e1
   rw[show L.M m k=b2 from h2] at e2
   have HE1:=hid h1
   have HE2:=hid h2
   clear h1 h2
   go_upto_region 4 with fail
   go_cut [8] from 19 to 41 (fun c8 wx=>c8=.bool (b1&&b2)∧w=wx)
   case first=>
    cases b1
    ·go_wp2_with fail
     go_meet
     exact⟨rfl,rfl⟩
    ·cases b2
     ·go_wp2_with fail
      go_meet
      exact⟨rfl,rfl⟩
     ·go_wp2_with fail
      go_meet
      exact⟨rfl,rfl⟩
   case rest=>
    obtain⟨rfl,rfl⟩:=hcut
    obtain⟨b0,hb0⟩:∃ b,(b1&&b2)=b:=⟨_,rfl⟩
    rw[hb0]
    have HB0:Hid (((flipM L.M) i m&&(flipM L.M) k m)=b0):=by show _=_;rw[HE1.out,HE2.out];exact hb0
    clear hb0 e1 e2
    go_wp2_with fail
    go_loopw [8,9] (fun lv dv wr=>∃ (d:Nat) (l:Bool),d≤L.n∧dv=.int .i64 d∧lv=.bool l∧w=wr∧Hid (l=true↔b0=true∧∀ d',d'<d→((flipM L.M) m d'||!(flipM L.M) i d'||!(flipM L.M) k d')=true)∧Hid (l=false→b0=false ∨ ∃ d',d'<L.n∧((flipM L.M) m d'||!(flipM L.M) i d'||!(flipM L.M) k d')=false)) (fun _ dv _=>L.n-(intOf dv).toNat)
    case atStart=>exact⟨0,b0,Nat.zero_le _,rfl,rfl,rfl,⟨fun h=>⟨h,fun d h=>absurd h (Nat.not_lt_zero _)⟩,fun h=>h.1⟩,fun h=>.inl h⟩
    case round=>
     obtain⟨d,l,hd,rfl,rfl,rfl,HD,HF⟩:=hrel
     cases l
     ·have HBM:Hid (boundM L.n (flipM L.M) i k m=false):=by
       show _=_
       unfold boundM
       rw[HB0.out]
       rcases HF.out rfl with h|⟨d',h1,h2⟩
       ·rw[h,Bool.false_and]
       ·rw[Bool.and_eq_false_iff];right;exact allN_false.2 ⟨d',h1,h2⟩
      have HBN:Hid (∀ m',m'<m+1→boundM L.n (flipM L.M) i k m'=false):=by
       intro m' h
       rcases Nat.lt_or_ge m' m with h2|h2
       ·exact HB.out m' h2
       ·obtain rfl:m'=m:=by omega
        exact HBM.out
      by_cases hdl:d<L.n
      ·have hd1:(d:Int)<(L.n:Int):=by omega
       go_wp2_with fail
       go_roundw
       case rel=>exact⟨m+1,by omega,by go_num,by first|trivial|rfl,HBN.out⟩
       case measure=>simp[intOf];omega
      ·have hd1:¬ (d:Int)<(L.n:Int):=by omega
       go_wp2_with fail
       go_roundw
       case rel=>exact⟨m+1,by omega,by go_num,by first|trivial|rfl,HBN.out⟩
       case measure=>simp[intOf];omega
     ·by_cases hdl:d<L.n
      ·have hd1:(d:Int)<(L.n:Int):=by omega
       have rd:=HM.out.row d hdl
       obtain⟨x1,h1⟩:∃ b,(flipM L.M) m d=b:=⟨_,rfl⟩
       obtain⟨x2,h2⟩:∃ b,(flipM L.M) i d=b:=⟨_,rfl⟩
       obtain⟨x3,h3⟩:∃ b,(flipM L.M) k d=b:=⟨_,rfl⟩
       have e1:=(HM.out.el d m (by omega) (by omega)).1
       have e2:=(HM.out.el d i (by omega) (by omega)).1
       have e3:=(HM.out.el d k (by omega) (by omega)).1
       rw[show L.M d m=x1 from h1] at e1
       rw[show L.M d i=x2 from h2] at e2
       rw[show L.M d k=x3 from h3] at e3
       have HC:Hid (((flipM L.M) m d||!(flipM L.M) i d||!(flipM L.M) k d)=(x1||!x2||!x3)):=by show _=_;rw[h1,h2,h3]
       clear h1 h2 h3
       obtain⟨x0,hx0⟩:∃ b,(x1||!x2||!x3)=b:=⟨_,rfl⟩
       rw[hx0] at HC
       have HX0:=hid hx0
       have HDN:Hid (x0=true↔b0=true∧∀ d',d'<d+1→((flipM L.M) m d'||!(flipM L.M) i d'||!(flipM L.M) k d')=true):=by
        obtain⟨a1,a2⟩:=HD.out.1 rfl
        refine⟨fun h=>⟨a1,fun d' h2=>?_⟩,fun h=>?_⟩
        ·rcases Nat.lt_or_ge d' d with h3|h3
         ·exact a2 d' h3
         ·obtain rfl:d'=d:=by omega
          rw[HC.out];exact h
        ·have:=h.2 d (by omega);rw[HC.out] at this;exact this
       have HFN:Hid (x0=false→b0=false ∨ ∃ d',d'<L.n∧((flipM L.M) m d'||!(flipM L.M) i d'||!(flipM L.M) k d')=false):=fun h=>.inr ⟨d,hdl,by rw[HC.out];exact h⟩
       clear hx0
       cases x1
       ·cases x2
        ·obtain rfl:x0=true:=HX0.out.symm
         go_wp2_with fail
         go_roundw
         case rel=>exact⟨d+1,_,by omega,by go_num,rfl,by first|trivial|rfl,HDN.out,HFN.out⟩
         case measure=>simp[intOf];omega
        ·cases x3
         ·obtain rfl:x0=true:=HX0.out.symm
          go_wp2_with fail
          go_roundw
          case rel=>exact⟨d+1,_,by omega,by go_num,rfl,by first|trivial|rfl,HDN.out,HFN.out⟩
          case measure=>simp[intOf];omega
         ·obtain rfl:x0=false:=HX0.out.symm
          go_wp2_with fail
          go_roundw
          case rel=>exact⟨d+1,_,by omega,by go_num,rfl,by first|trivial|rfl,HDN.out,HFN.out⟩
          case measure=>simp[intOf];omega
       ·obtain rfl:x0=true:=HX0.out.symm
        go_wp2_with fail
        go_roundw
        case rel=>exact⟨d+1,_,by omega,by go_num,rfl,by first|trivial|rfl,HDN.out,HFN.out⟩
        case measure=>simp[intOf];omega
      ·have hd1:¬ (d:Int)<(L.n:Int):=by omega
       obtain rfl:d=L.n:=by omega
       obtain⟨a1,a2⟩:=HD.out.1 rfl
       have HBT:Hid (boundM L.n (flipM L.M) i k m=true):=by
        show _=_
        unfold boundM
        rw[HB0.out,a1,Bool.true_and]
        exact allN_iff.2 a2
       obtain rfl:R=m:=by rw[← HR.out];exact boundQ_some hlt HBT.out HB.out
       go_wp2_with fail
       go_ret
       exact⟨rfl,rfl⟩
  ·have hm1:¬ (m:Int)<(L.n:Int):=by omega
   obtain rfl:m=L.n:=by omega
   obtain rfl:R=-1:=by rw[← HR.out];exact boundQ_none HB.out
   go_wp2_with fail
   go_ret
   exact⟨rfl,rfl⟩
end Go.Proofs.YtkjkpddajjmloaaGreatDoor
