/- Plain lemmas on the words of a lattice: what each step of lattice.New makes of them. Condition: the bits' table holds what it is laid with; the lattice lies in memory. -/
import Derived.Test.YtgllkgedjplpdaaGreatDoorAgR
import Derived.Lib.TrailingZeros
import Derived.Shelf.Spec.TrailingZeros
import Derived.Deep.RegionWith
import Derived.Deep.QuietTactic
import Derived.Test.YtgllkgedjplpdaaGreatDoorMix
import Derived.Test.YtgllkgedjplpdaaGreatDoorMNm
import Derived.BigRegion
import Derived.Deep.DeepCutAuto
import Derived.BigQuiet
set_option linter.all false
set_option maxRecDepth 1000000
set_option maxHeartbeats 12800000
set_option linter.unusedVariables false
set_option linter.unusedSimpArgs false
namespace Go.Proofs.YtgllkgedjplpdaaGreatDoor
open Go.ChangeShapes Go.WideShapes Go.ChangeAt Go.RowKit
def firstW (i:Nat):Nat->Nat:=fun j=>if j<i then 2 ^ j else 0
theorem firstW_zero:firstW 0=fun _=>0:=by funext j;simp [firstW]
theorem firstW_step (i:Nat):updF (firstW i) i (2 ^ i)=firstW (i+1):=by
 funext j
 unfold updF firstW
 by_cases h:j=i
 ·subst h;simp
 ·rw [if_neg h]
  by_cases h2:j<i
  ·rw [if_pos h2,if_pos (by omega)]
  ·rw [if_neg h2,if_neg (by omega)]
theorem firstW_end (n:Nat):firstW n=rowW n eyeM:=by
 funext j
 unfold firstW rowW
 by_cases h:j<n
 ·rw [if_pos h,if_pos h];exact (wordN_one h).symm
 ·rw [if_neg h,if_neg h]
theorem ordM_step {n:Nat} (M:Mat) {p:Int × Int} (h:badP n p=false):updF (rowW n M) p.1.toNat (rowW n M p.1.toNat ||| 2 ^ p.2.toNat)=rowW n (ordM M p)/\p.1.toNat<n/\p.2.toNat<n/\0<=p.1/\0<=p.2:=by
 unfold badP at h
 simp only [Bool.or_eq_false_iff,decide_eq_false_iff_not] at h
 obtain ⟨⟨⟨h1,h2⟩,h3⟩,h4⟩:=h
 have ha:p.1.toNat<n:=by omega
 have hb:p.2.toNat<n:=by omega
 refine ⟨?_,ha,hb,by omega,by omega⟩
 funext j
 unfold updF rowW
 by_cases e:j=p.1.toNat
 ·subst e
  rw [if_pos rfl,if_pos ha,if_pos ha,<- wordN_one hb,wordN_or]
  refine wordN_congr fun x hx=>?_
  unfold ordM
  have e1:decide (((p.1.toNat:Nat):Int)=p.1)=true:=by rw [decide_eq_true_eq];omega
  have e2:decide (x=p.2.toNat)=decide ((x:Int)=p.2):=by rw [decide_eq_decide];omega
  rw [e1,e2];simp
 ·rw [if_neg e]
  by_cases hj:j<n
  ·rw [if_pos hj,if_pos hj]
   refine wordN_congr fun x hx=>?_
   unfold ordM
   have e1:decide ((j:Int)=p.1)=false:=by rw [decide_eq_false_iff_not];omega
   rw [e1];simp
  ·rw [if_neg hj,if_neg hj]
theorem ordsM_snoc {l:List (Int × Int)} {k:Nat} {p:Int × Int} (h:l[k]?=some p):ordsM (l.take (k+1))=ordM (ordsM (l.take k)) p:=by
 unfold ordsM
 rw [List.take_add_one,h,List.foldl_append];rfl
theorem joinM_step {n k i:Nat} (M:Mat) (hi:i<n) (hk:k<n):(M i k=true->updF (rowW n M) i (rowW n M i ||| rowW n M k)=rowW n (joinM k i M))/\(M i k=false->rowW n M=rowW n (joinM k i M)):=by
 constructor
 ·intro h
  funext j
  unfold updF rowW joinM
  by_cases e:j=i
  ·subst e
   rw [if_pos rfl,if_pos hi,if_pos hi,if_pos hk,wordN_or]
   refine wordN_congr fun x hx=>?_
   rw [if_pos rfl,h,Bool.true_and]
  ·rw [if_neg e]
   by_cases hj:j<n
   ·rw [if_pos hj,if_pos hj]
    refine wordN_congr fun x hx=>?_
    rw [if_neg e]
   ·rw [if_neg hj,if_neg hj]
 ·intro h
  funext j
  unfold rowW joinM
  by_cases hj:j<n
  ·rw [if_pos hj,if_pos hj]
   refine wordN_congr fun x hx=>?_
   by_cases e:j=i
   ·subst e;rw [if_pos rfl,h,Bool.false_and,Bool.or_false]
   ·rw [if_neg e]
  ·rw [if_neg hj,if_neg hj]
def dnW (n:Nat) (M:Mat) (i k:Nat):Nat->Nat:=fun j=>if j<n then wordN n (fun x=>(decide (x<i) || (decide (x=i) && decide (j<k))) && M x j) else 0
theorem dnW_zero (n:Nat) (M:Mat):dnW n M 0 0=fun _=>0:=by
 funext j
 unfold dnW
 split
 ·exact (wordN_congr (g:=fun _=>false) fun x hx=>by simp).trans (wordN_zero n)
 ·rfl
theorem dnW_row (n:Nat) (M:Mat) (i:Nat):dnW n M i n=dnW n M (i+1) 0:=by
 funext j
 unfold dnW
 split
 ·next hj=>
  refine wordN_congr fun x hx=>?_
  have:(decide (x<i) || (decide (x=i) && decide (j<n)))=(decide (x<i+1) || (decide (x=i+1) && decide (j<0))):=by
   rw [Bool.eq_iff_iff];simp;omega
  rw [this]
 ·rfl
theorem dnW_end (n:Nat) (M:Mat):dnW n M n 0=rowW n (flipM M):=by
 funext j
 unfold dnW rowW
 split
 ·refine wordN_congr fun x hx=>?_
  unfold flipM
  simp [hx]
 ·rfl
theorem dnW_step {n:Nat} (M:Mat) {i k:Nat} (hi:i<n) (hk:k<n):(M i k=true->updF (dnW n M i k) k (dnW n M i k k ||| 2 ^ i)=dnW n M i (k+1))/\(M i k=false->dnW n M i k=dnW n M i (k+1)):=by
 constructor
 ·intro h
  funext j
  unfold updF dnW
  by_cases e:j=k
  ·subst e
   rw [if_pos rfl,if_pos hk,if_pos hk,<- wordN_one hi,wordN_or]
   refine wordN_congr fun x hx=>?_
   by_cases e2:x=i
   ·subst e2;simp [h]
   ·simp [e2]
  ·rw [if_neg e]
   split
   ·refine wordN_congr fun x hx=>?_
    have:decide (j<k)=decide (j<k+1):=by rw [decide_eq_decide];omega
    rw [this]
   ·rfl
 ·intro h
  funext j
  unfold dnW
  split
  ·refine wordN_congr fun x hx=>?_
   by_cases e:j=k
   ·subst e
    by_cases e2:x=i
    ·subst e2;simp [h]
    ·simp [e2]
   ·have:decide (j<k)=decide (j<k+1):=by rw [decide_eq_decide];omega
    rw [this]
  ·rfl
theorem rowW_lt {n:Nat} (hn:n<=32) (M:Mat) (i:Nat):rowW n M i<4294967296:=by
 unfold rowW
 split
 ·exact wordN_lt32 hn _
 ·omega
theorem dnW_lt {n:Nat} (hn:n<=32) (M:Mat) (i k j:Nat):dnW n M i k j<4294967296:=by
 unfold dnW
 split
 ·exact wordN_lt32 hn _
 ·omega
theorem rowW_bit {n i k:Nat} (M:Mat) (hi:i<n) (hk:k<n):rowW n M i / 2 ^ k % 2=if M i k then 1 else 0:=by
 unfold rowW;rw [if_pos hi];exact wordN_at _ hk
theorem loops_row {n i:Nat} (M:Mat) (hi:i<n) (hr:M i i=true):(rowW n M i &&& rowW n (flipM M) i=2 ^ i) ↔ (anyN n fun j=>!decide (j=i) && M i j && M j i)=false:=by
 unfold rowW
 rw [if_pos hi,if_pos hi,wordN_and,<- wordN_one hi,anyN_false]
 constructor
 ·intro h j hj
  have:=wordN_inj h j hj
  simp only [flipM] at this
  by_cases e:j=i
  ·simp [e]
  ·simp only [e,decide_false] at this
   simp [e]
   cases h1:M i j <;> cases h2:M j i <;> simp_all
 ·intro h
  refine wordN_congr fun j hj=>?_
  have:=h j hj
  simp only [flipM]
  by_cases e:j=i
  ·subst e;simp [hr]
  ·simp only [e,decide_false]
   simp only [e,decide_false,Bool.not_false,Bool.true_and] at this
   exact this
theorem bit_shift (x k i:Nat) (h:k<=i):x.testBit i=(x / 2 ^ k).testBit (i - k):=by
 rw [Nat.testBit_div_two_pow];congr 1;omega
theorem odd_bits {x k m:Nat} (hx:x=2 ^ k * (2 * m+1)):(∀ j,j<k->x.testBit j=false)/\x.testBit k=true:=by
 constructor
 ·intro j hj
  rw [hx,Nat.mul_comm,Nat.testBit_mul_two_pow];simp;omega
 ·rw [hx,Nat.mul_comm,Nat.testBit_mul_two_pow];simp
theorem and_pred {x k m:Nat} (hx:x=2 ^ k * (2 * m+1)) (i:Nat):(x &&& (x - 1)).testBit i=(!decide (i=k) && x.testBit i):=by
 obtain ⟨h1,h2⟩:=odd_bits hx
 rw [Nat.testBit_and]
 have hp:0<2 ^ k:=Nat.two_pow_pos k
 have e1:x / 2 ^ k=2 * m+1:=by rw [hx];exact Nat.mul_div_cancel_left _ hp
 have e2:(x - 1) / 2 ^ k=2 * m:=by
  rw [hx,show 2 ^ k * (2 * m+1) - 1=2 ^ k * (2 * m)+(2 ^ k - 1) by rw [Nat.mul_add];omega,Nat.mul_add_div hp,Nat.div_eq_of_lt (by omega)];omega
 rcases Nat.lt_trichotomy i k with h|h|h
 ·rw [h1 i h];simp
 ·subst h
  rw [bit_shift (x - 1) i i (nR _),e2,Nat.sub_self];simp
 ·rw [bit_shift x k i (by omega),bit_shift (x - 1) k i (by omega),e1,e2]
  obtain ⟨d,hd⟩:∃ d,i - k=d+1:=⟨i - k - 1,by omega⟩
  rw [hd,Nat.testBit_succ,Nat.testBit_succ,show (2 * m+1) / 2=m by omega,show 2 * m / 2=m by omega]
  simp;omega
def fromS (c:Nat) (S:Nat->Bool):Nat->Bool:=fun j=>decide (c<=j) && S j
theorem low_step {n c:Nat} (hn:n<=32) (S:Nat->Bool) {x:Nat} (hx:x=wordN n (fromS c S)) (h0:x ≠ 0) :
  Lib.ctz 32 x<n/\c<=Lib.ctz 32 x/\S (Lib.ctz 32 x)=true/\(∀ j,c<=j->j<Lib.ctz 32 x->S j=false)/\x &&& (x - 1)=wordN n (fromS (Lib.ctz 32 x+1) S)/\x &&& (x - 1)<x:=by
 have hlt:x<2 ^ 32:=by rw [hx];exact wordN_lt32 hn _
 obtain ⟨m,hm,hk⟩:=Lib.ctzFrom_spec 32 x (by omega) hlt
 have e:Lib.ctz 32 x=Lib.ctzFrom 32 x:=by simp [Lib.ctz,h0]
 rw [<- e] at hm hk
 generalize Lib.ctz 32 x=k at *
 obtain ⟨h1,h2⟩:=odd_bits hm
 have hb:∀ j,x.testBit j=(decide (j<n) && fromS c S j):=fun j=>by rw [hx,wordN_bit]
 have hk2:=hb k
 rw [h2] at hk2
 have hk3:k<n/\fromS c S k=true:=by
  have:=hk2.symm
  simp only [Bool.and_eq_true,decide_eq_true_eq] at this
  exact this
 unfold fromS at hk3
 simp only [Bool.and_eq_true,decide_eq_true_eq] at hk3
 have hlow:∀ j,c<=j->j<k->S j=false:=by
  intro j hc hj
  have:=hb j
  rw [h1 j hj] at this
  unfold fromS at this
  simp only [show j<n by omega,decide_true,hc,Bool.true_and] at this
  exact this.symm
 refine ⟨hk3.1,hk3.2.1,hk3.2.2,hlow,?_,?_⟩
 ·refine Nat.eq_of_testBit_eq fun i=>?_
  rw [and_pred hm,wordN_bit,hb]
  unfold fromS
  by_cases hi:i<n
  ·simp only [hi,decide_true,Bool.true_and]
   rcases Nat.lt_trichotomy i k with h|h|h
   ·by_cases hc:c<=i
    ·rw [hlow i hc h];simp
    ·simp [hc,show ¬ k+1<=i by omega]
   ·subst h;simp [show ¬ i+1<=i by omega]
   ·simp [show c<=i by omega,show k+1<=i by omega,show ¬ i=k by omega]
  ·simp [hi]
 ·have:x &&& (x - 1)<=x - 1:=Nat.and_le_right
  omega
def goodB (n:Nat) (M:Mat) (S:Nat->Bool) (c:Nat):Bool:=S c && allN n fun d=>M c d || !S d
theorem andNot_zero {n k:Nat} (hn:n<=32) (M:Mat) (S:Nat->Bool) (hk:k<n):(wordN n S &&& (4294967295 - rowW n M k)=0) ↔ (allN n fun d=>M k d || !S d)=true:=by
 unfold rowW
 rw [if_pos hk,wordN_andNot n hn,<- wordN_zero n,allN_iff]
 constructor
 ·intro h d hd
  have:=wordN_inj h d hd
  cases h1:M k d <;> cases h2:S d <;> simp_all
 ·intro h
  refine wordN_congr fun d hd=>?_
  have:=h d hd
  cases h1:M k d <;> cases h2:S d <;> simp_all
theorem goodB_bound (n:Nat) (M:Mat) (i k c:Nat):goodB n M (fun j=>M i j && M k j) c=boundM n M i k c:=by
 unfold goodB boundM
 congr 1
 unfold allN
 congr 1
 funext d
 show (M c d || !(M i d && M k d))=_
 cases M c d <;> cases M i d <;> cases M k d <;> rfl
open Go.ChangeShapes Go.WideShapes Go.ChangeAt Go.RowKit
theorem below_drewN {B:Nat} {w a:World} (h:Below B w a):∀ n,Below B w (a.drewN n)
 | 0=>h
 | n+1=>(below_drewN h n).drew
def BitsAt (w:World):Prop:=∀ j,j<32->w.cell? ⟨3,j,none⟩=some (.int .u8 (Lib.deBruijn32tab.getD j 0))
theorem BitsAt.keep {w w':World} (h:BitsAt w) (k:Below w.heap.size w w'):BitsAt w':=fun j hj=>cell_keep k (h j hj)
theorem tz_any (x:Nat) (hx:x<4294967296) (h0:x ≠ 0) (w:World) (hT:BitsAt w) :
  Calls Tryz.prog 119 #[.int .u32 x] w fun e w'=>e=.returned (.int .i64 (Lib.ctz 32 x:Nat))/\w'=w:=by
 obtain ⟨hlow,hk⟩:=Lib.lowest_bit 32 x h0 hx
 obtain ⟨hi,htab⟩:=Lib.deBruijn32_at _ hk
 have hcell:=hT _ hi
 rw [htab] at hcell
 have key:=tz32_key x _ hx h0 hlow
 have hx0:((x:Int) == 0)=false:=by simp;omega
 obtain ⟨idx,hidx⟩:∃ idx,2 ^ Lib.ctz 32 x * 125613361 % 4294967296 / 134217728=idx:=⟨_,rfl⟩
 rw [hidx] at key hi hcell
 generalize Lib.ctz 32 x=k at *
 clear hlow hidx htab hT
 go_enter Tryz.func119,Tryz.ntmps119
 go_wp2_with (simp only [key])
 go_ret
 exact ⟨rfl,rfl⟩
def boundR (n:Nat) (M:Mat) (T:Nat->Bool):Int:=match (List.range n).find? (goodB n M T) with|some c=>c|none=>-1
theorem boundR_at {n:Nat} {M:Mat} {T:Nat->Bool} {k:Nat} (hk:k<n) (h:goodB n M T k=true) (hl:∀ j,j<k->goodB n M T j=false):boundR n M T=k:=by
 have:(List.range n).find? (goodB n M T)=some k:=by
  rw [List.find?_eq_some_iff_getElem]
  refine ⟨h,k,by simpa using hk,by simp,fun j hj=>?_⟩
  simp [hl j hj]
 unfold boundR;rw [this]
theorem boundR_none {n:Nat} {M:Mat} {T:Nat->Bool} (h:anyN n (goodB n M T)=false):boundR n M T=-1:=by
 have:(List.range n).find? (goodB n M T)=none:=by
  rw [List.find?_eq_none]
  intro j hj
  rw [anyN_false] at h
  simp [h j (by simpa using hj)]
 unfold boundR;rw [this]
theorem boundR_neg (n:Nat) (M:Mat) (T:Nat->Bool):decide (boundR n M T<0)=!anyN n (goodB n M T):=by
 cases h:anyN n (goodB n M T) with
 | false=>rw [boundR_none h];rfl
 | true=>
  unfold boundR
  cases hf:(List.range n).find? (goodB n M T) with
  | none=>
   rw [anyN_iff] at h
   obtain ⟨i,hi,hg⟩:=h
   rw [List.find?_eq_none] at hf
   exact absurd hg (hf i (by simpa using hi))
  | some c=>simp
theorem bound_any (b o n:Nat) (M:Mat) (T:Nat->Bool) (w:World) (h1:1<=n) (hn:n<=32) (hT:BitsAt w) (hc:∀ i,i<32->w.cell? ⟨b,o+i,none⟩=some (.int .u32 (rowW n M i))) :
  Calls Tryz.prog 89 #[.pointer (some ⟨b,o,none⟩),.int .u32 (wordN n T)] w fun e w'=>e=.returned (.int .i64 (boundR n M T))/\w'=w:=by
 generalize hR:boundR n M T=R
 have HR:=Hd hR
 clear hR
 obtain ⟨x,hx⟩:∃ x,wordN n T=x:=⟨_,rfl⟩
 have hxl:x<4294967296:=by rw [<- hx];exact wordN_lt32 hn _
 have HT:=Hd hT
 have HC:=Hd hc
 have HX:=Hd hx
 clear hT hc hx
 rw [HX.out]
 go_enter Tryz.func89,Tryz.ntmps89
 go_wp2_with fail
 go_loopw [5] (fun v wr=>w=wr/\∃ (c y:Nat),v=.int .u32 y/\y<4294967296/\Hid (y=wordN n (fromS c T))/\Hid (∀ j,j<c->goodB n M T j=false)) (fun v _=>(intOf v).toNat)
 case atStart=>
  refine ⟨rfl,0,x,rfl,hxl,?_,fun j hj=>by omega⟩
  show x=_
  rw [<- HX.out]
  exact wordN_congr fun j hj=>by simp [fromS]
 case round=>
  obtain ⟨rfl,c,y,rfl,hyl,HY,HG⟩:=hrel
  by_cases hy0:y=0
  ·subst hy0
   have HE:Hid (anyN n (goodB n M T)=false):=by
    show _=_
    rw [anyN_false]
    intro j hj
    by_cases hc:j<c
    ·exact HG.out j hc
    ·have e:=HY.out
     rw [<- wordN_zero n] at e
     have:=wordN_inj e j hj
     unfold fromS at this
     simp only [show c<=j by omega,decide_true,Bool.true_and] at this
     unfold goodB
     rw [<- this];rfl
   go_wp2_with fail
   go_ret
   exact ⟨by rw [<- HR.out,boundR_none HE.out];rfl,rfl⟩
  ·have hy1:((y:Int) != 0)=true:=by simp;omega
   obtain ⟨hkn,hck,hsk,hlow,hand,hlt⟩:=low_step hn T HY.out hy0
   have HTZ:=Hd (tz_any y hyl hy0 w HT.out)
   generalize Lib.ctz 32 y=k at *
   have hcell:=HC.out k (by omega)
   have hand1:bits .andNot .u32 (x:Int) (rowW n M k:Int)=((x &&& (4294967295 - rowW n M k):Nat):Int):=u32_andNot_nat x _ hxl (rowW_lt hn M k)
   obtain ⟨z,hz⟩:∃ z,x &&& (4294967295 - rowW n M k)=z:=⟨_,rfl⟩
   rw [hz] at hand1
   have hsub:IntKind.u32.wrap ((y:Int) - 1)=((y - 1:Nat):Int):=by rw [wrap_u32'];omega
   have hpred:bits .and .u32 (y:Int) ((y - 1:Nat):Int)=((y &&& (y - 1):Nat):Int):=u32_and_nat y _ hyl (by omega)
   obtain ⟨y2,hy2⟩:∃ y2,y &&& (y - 1)=y2:=⟨_,rfl⟩
   rw [hy2] at hpred hand hlt
   have HAND:=Hd hand
   have HZ:Hid (z=0 ↔ (allN n fun d=>M k d || !T d)=true):=by
    show _ ↔ _
    rw [<- hz,<- HX.out];exact andNot_zero hn M T hkn
   have HLOW:=Hd hlow
   have HSK:=Hd hsk
   clear hz hy2 hand hlow hsk
   have HNEW:Hid (z ≠ 0->∀ j,j<k+1->goodB n M T j=false):=by
    intro h0 j hj
    by_cases h1:j<c
    ·exact HG.out j h1
    ·by_cases h2:j<k
     ·unfold goodB;rw [HLOW.out j (by omega) h2];rfl
     ·obtain rfl:j=k:=by omega
      unfold goodB
      have:(allN n fun d=>M j d || !T d)=false:=by
       cases h3:(allN n fun d=>M j d || !T d) with
       | false=>rfl
       | true=>exact absurd (HZ.out.2 h3) h0
      rw [this,Bool.and_false]
   have HOK:Hid (z=0->boundR n M T=k):=by
    intro h0
    refine boundR_at hkn (by unfold goodB;rw [HSK.out,HZ.out.1 h0];rfl) fun j hj=>?_
    by_cases h1:j<c
    ·exact HG.out j h1
    ·unfold goodB;rw [HLOW.out j (by omega) hj];rfl
   clear HZ HLOW HSK
   by_cases hz0:z=0
   ·subst hz0
    go_wp2_with (first|(go_at_call 119;refine HTZ.out.mono ?_;rintro e w' ⟨rfl,rfl⟩)|simp only [hand1])
    go_ret
    exact ⟨by rw [<- HR.out,HOK.out (by first|trivial|rfl)];rfl,by first|trivial|rfl⟩
   ·have hz1:((z:Int) == 0)=false:=by simp;omega
    go_wp2_with (first|(go_at_call 119;refine HTZ.out.mono ?_;rintro e w' ⟨rfl,rfl⟩)|simp only [hand1]|simp only [hsub,hpred])
    go_roundw
    case rel=>exact ⟨by first|trivial|rfl,k+1,y2,rfl,by omega,HAND,HNEW.out hz0⟩
    case measure=>simp [intOf];omega
theorem bit_test (x k:Nat) (hx:x<4294967296):bits .and .u32 ((x:Int) / 2 ^ k) 1=((x / 2 ^ k % 2:Nat):Int):=by
 have e:(x:Int) / 2 ^ k=((x / 2 ^ k:Nat):Int):=by rw [Int.natCast_ediv];simp
 rw [e,show (1:Int)=((1:Nat):Int) from rfl,u32_and_nat _ _ (Nat.lt_of_le_of_lt (Nat.div_le_self _ _) hx) (by omega),Nat.and_one_is_mod]
open Go.ChangeShapes Go.WideShapes Go.ChangeAt Go.RowKit
theorem whole_any (b o n nb:Nat) (M:Mat) (w:World) (h1:1<=n) (hn:n<=32) (hT:BitsAt w) (hnb:w.cell? ⟨nb,0,none⟩=some (.int .i64 n)) (hc:∀ i,i<32->w.cell? ⟨b,o+i,none⟩=some (.int .u32 (rowW n M i))) :
  Calls Tryz.prog 88 #[.pointer (some ⟨b,o,none⟩),.pointer (some ⟨nb,0,none⟩)] w fun e w'=>e=.returned (.bool (wholeM n M))/\Below w.heap.size w w':=by
 generalize hW:wholeM n M=W
 have HW:=Hd hW
 have HT:=Hd hT
 have HC:=Hd hc
 have HN:=Hd hnb
 clear hW hT hc hnb
 have hfin:Hid (∀ i k,i<n->k<n->boundR n M (fun j=>M i j && M k j)<0->W=false):=by
  intro i k hi hk h0
  rw [<- HW.out]
  unfold wholeM
  rw [allN_false]
  refine ⟨i,hi,allN_false.2 ⟨k,hk,?_⟩⟩
  have:=boundR_neg n M (fun j=>M i j && M k j)
  rw [decide_eq_true h0] at this
  have h2:anyN n (goodB n M fun j=>M i j && M k j)=false:=by simpa using this
  rw [anyN_false] at h2 ⊢
  intro c hc
  rw [<- goodB_bound];exact h2 c hc
 go_enter Tryz.func88,Tryz.ntmps88
 have n0:=HN.out
 go_wp2_with fail
 clear n0
 go_loopw [7] (fun v wr=>∃ i:Nat,i<=n/\v=.int .i64 i/\Below w.heap.size w wr/\Hid (∀ a,a<i->∀ k,k<n->anyN n (boundM n M a k)=true)) (fun v _=>n - (intOf v).toNat)
 case atStart=>exact ⟨0,by omega,rfl,bR _ _,fun a ha=>by omega⟩
 case round=>
  obtain ⟨i,hi,rfl,hb,HG⟩:=hrel
  obtain ⟨w1,rfl⟩:∃ x:World,x=wr:=⟨_,rfl⟩
  have HB:=Hd hb
  clear hb
  by_cases hin:i<n
  ·have hin1:(i:Int)<n:=by omega
   have n0:=cell_keep HB.out HN.out
   go_wp2_with fail
   clear n0
   go_loopw [11] (fun v wr=>∃ k:Nat,k<=n/\v=.int .i64 k/\Below w.heap.size w wr/\Hid (∀ a,a<k->anyN n (boundM n M i a)=true)) (fun v _=>n - (intOf v).toNat)
   case atStart=>exact ⟨0,by omega,rfl,HB.out,fun a ha=>by omega⟩
   case round=>
    obtain ⟨k,hk,rfl,hb2,HG2⟩:=hrel
    obtain ⟨w2,rfl⟩:∃ x:World,x=wr:=⟨_,rfl⟩
    have HB2:=Hd hb2
    clear hb2
    by_cases hkn:k<n
    ·have hkn1:(k:Int)<n:=by omega
     have u1:=cell_keep HB2.out (HC.out i (by omega))
     have u2:=cell_keep HB2.out (HC.out k (by omega))
     have hand:bits .and .u32 (rowW n M i:Int) (rowW n M k:Int)=(wordN n (fun j=>M i j && M k j):Int):=by
      rw [u32_and_nat _ _ (rowW_lt hn M i) (rowW_lt hn M k)]
      unfold rowW
      rw [if_pos hin,if_pos hkn,wordN_and]
     have HBD:=Hd (fun w':World=>fun (h:Below w.heap.size w w')=>bound_any b o n M (fun j=>M i j && M k j) w' h1 hn (HT.out.keep h) (fun i hi=>cell_keep h (HC.out i hi)))
     obtain ⟨R,hR⟩:∃ R,boundR n M (fun j=>M i j && M k j)=R:=⟨_,rfl⟩
     have HF:=Hd (hfin.out i k hin hkn)
     have HNG:=Hd (boundR_neg n M (fun j=>M i j && M k j))
     rw [hR] at HBD HF HNG
     obtain ⟨x1,hx1⟩:∃ x,rowW n M i=x:=⟨_,rfl⟩
     obtain ⟨x2,hx2⟩:∃ x,rowW n M k=x:=⟨_,rfl⟩
     obtain ⟨x3,hx3⟩:∃ x,wordN n (fun j=>M i j && M k j)=x:=⟨_,rfl⟩
     rw [hx1] at u1 hand
     rw [hx2] at u2 hand
     rw [hx3] at hand HBD
     clear hR hx1 hx2 hx3
     by_cases hneg:R<0
     ·go_upto_region 7 with fail
      go_quiet (first|(go_at_call 89;exact Calls.quiet_of_same (HBD.out _ (below_drewN HB2.out _)))|simp only [hand])
      go_wp2_with fail
      go_ret
      exact ⟨by rw [HF.out hneg];rfl,below_drewN HB2.out _⟩
     ·have HA:Hid (∀ a,a<k+1->anyN n (boundM n M i a)=true):=by
       intro a ha
       by_cases e:a<k
       ·exact HG2.out a e
       ·obtain rfl:a=k:=by omega
        have:=HNG.out
        rw [decide_eq_false hneg] at this
        have h2:anyN n (goodB n M fun j=>M i j && M a j)=true:=by simpa using this
        rw [anyN_iff] at h2 ⊢
        obtain ⟨c,hc,hg⟩:=h2
        exact ⟨c,hc,by rw [<- goodB_bound];exact hg⟩
      clear HNG HF
      go_upto_region 7 with fail
      go_quiet (first|(go_at_call 89;exact Calls.quiet_of_same (HBD.out _ (below_drewN HB2.out _)))|simp only [hand])
      go_wp2_with fail
      go_roundw
      case rel=>exact ⟨k+1,by omega,by go_num,below_drewN HB2.out _,HA⟩
      case measure=>simp [intOf];omega
    ·have hkn1:¬ (k:Int)<n:=by omega
     go_wp2_with fail
     go_roundw
     case rel=>exact ⟨i+1,by omega,by go_num,HB2.out,fun a ha k2 hk2=>by
      by_cases e:a<i
      ·exact HG.out a e k2 hk2
      ·obtain rfl:a=i:=by omega
       exact HG2.out k2 (by omega)⟩
     case measure=>simp [intOf];omega
  ·have hin1:¬ (i:Int)<n:=by omega
   go_wp2_with fail
   go_ret
   refine ⟨?_,HB.out⟩
   rw [<- HW.out]
   have:wholeM n M=true:=by
    unfold wholeM
    rw [allN_iff]
    intro a ha
    rw [allN_iff]
    exact fun k hk=>HG.out a (by omega) k hk
   rw [this];rfl
open Go.ChangeShapes Go.WideShapes Go.ChangeAt Go.RowKit
def LatB (w:World) (b:Nat) (n:Int) (U D:Nat->Nat):Prop:=w.heap[b]?=some (.cells (latCells n U D) 150 (0,0))
theorem LatB.up {w:World} {b:Nat} {n:Int} {U D:Nat->Nat} (h:LatB w b n U D) {i:Nat} (hi:i<32) (v:Nat):LatB (w.setCell ⟨b,1+i,none⟩ (.int .u32 v)) b n (updF U i v) D:=by
 have:=heap_setCell_same w b (1+i) _ _ (.int .u32 v) h
 rw [latCells_setUp n U D hi] at this
 exact this
theorem LatB.dn {w:World} {b:Nat} {n:Int} {U D:Nat->Nat} (h:LatB w b n U D) {i:Nat} (hi:i<32) (v:Nat):LatB (w.setCell ⟨b,33+i,none⟩ (.int .u32 v)) b n U (updF D i v):=by
 have:=heap_setCell_same w b (33+i) _ _ (.int .u32 v) h
 rw [latCells_setDn n U D hi] at this
 exact this
theorem LatB.keep {w w':World} {b:Nat} {n:Int} {U D:Nat->Nat} (h:LatB w b n U D) (k:Below w.heap.size w w'):LatB w' b n U D:=(k.block _ (aE h).1).trans h
theorem LatB.lt {w:World} {b:Nat} {n:Int} {U D:Nat->Nat} (h:LatB w b n U D):b<w.heap.size:=(aE h).1
theorem LatB.rowU {w:World} {b:Nat} {n:Int} {U D:Nat->Nat} (h:LatB w b n U D) {i:Nat} (hi:i<32):w.cell? ⟨b,1+i,none⟩=some (.int .u32 (U i)):=row_of h (1+i) _ (latCells_up _ _ _ hi)
theorem LatB.rowD {w:World} {b:Nat} {n:Int} {U D:Nat->Nat} (h:LatB w b n U D) {i:Nat} (hi:i<32):w.cell? ⟨b,33+i,none⟩=some (.int .u32 (D i)):=row_of h (33+i) _ (latCells_dn _ _ _ hi)
theorem latZero (n:Int):(Tryz.zeroCells150.setIfInBounds 0 (.int .i64 n))=latCells n (firstW 0) (fun _=>0):=by
 rw [firstW_zero];rfl
def LatSaid (E n:Int) (l:List (Int × Int)) (w':World) (v:Value):Prop:=(E=0->LatAt w' v (latOf n l))/\(E ≠ 0->v=.pointer none)
theorem LatSaid.bad {E n:Int} {l:List (Int × Int)} {w':World} (h:E ≠ 0):LatSaid E n l w' (.pointer none):=⟨fun g=>absurd g h,fun _=>rfl⟩
theorem pow_u32 {i:Nat} (h:i<32):(2:Int) ^ i % 4294967296=((2 ^ i:Nat):Int):=by
 have:(2:Nat) ^ i<4294967296:=Nat.lt_of_lt_of_eq (Nat.pow_lt_pow_right (by decide) h) (show (2:Nat) ^ 32=4294967296 by decide)
 have e:(2:Int) ^ i=((2 ^ i:Nat):Int):=by simp
 rw [e]
 generalize (2:Nat) ^ i=x at *
 omega
theorem latNew (n:Int) (ov:Value) (l:List (Int × Int)) (w:World) (hn:InI64 n) (h:RdRow kPair none w ov l) (hT:BitsAt w) :
  Calls Tryz.prog 54 #[.int .i64 n,ov] w fun e w'=>∃ v,e=.returned (.tuple #[v,.int .i64 (latErr n l)])/\LatSaid (latErr n l) n l w' v/\Below w.heap.size w w':=by
 obtain ⟨oa,oc,rfl⟩:=h.is
 generalize hE:latErr n l=E
 have HE:=Hd hE
 have hol:l.length * 16<=140737488351232:=h.size
 have HO:=Hd h
 have HT:=Hd hT
 obtain ⟨hn1,hn2⟩:=hn
 clear hE h hT
 have hmf:∀ (fn:Fn) (first cap:Array Value) (w:World),(Instr.makeFunc fn first cap).run Tryz.prog w=.ok (.func fn first cap) w:=fun _ _ _ _=>rfl
 go_enter Tryz.func54,Tryz.ntmps54
 go_upto_region 1 with fail
 have HB0:=Hd ((bR w.heap.size w).alloc (nR _) (.cells #[.int .i64 n] 3))
 have HN:=Hd (heap_alloc_new w (.cells #[.int .i64 n] 3))
 generalize w.alloc (.cells #[.int .i64 n] 3)=W0 at *
 have n0:=row_of HN.out 0 (.int .i64 n) rfl
 by_cases g1:n<1
 ·obtain rfl:E=3:=by rw [<- HE.out,latErr,if_pos (.inl g1)]
  go_wp2_with fail
  go_ret2
  exact ⟨_,rfl,LatSaid.bad (by decide),HB0.out⟩
 by_cases g2:32<n
 ·obtain rfl:E=3:=by rw [<- HE.out,latErr,if_pos (.inr g2)]
  go_wp2_with fail
  go_ret2
  exact ⟨_,rfl,LatSaid.bad (by decide),HB0.out⟩
 have HE2:Hid (E=if 1024<l.length then 5 else if l.any (badP n) then 3
   else if loopsM n.toNat (latM n.toNat l) then 9 else if wholeM n.toNat (latM n.toNat l) && wholeM n.toNat (flipM (latM n.toNat l)) then 0 else 4):=by
  show E=_;rw [<- HE.out,latErr,if_neg (by omega)]
 clear HE
 by_cases g3:1024<l.length
 ·obtain rfl:E=5:=by rw [HE2.out,if_pos g3]
  have g3':(1024:Int)<l.length:=by omega
  go_wp2_with fail
  go_ret2
  exact ⟨_,rfl,LatSaid.bad (by decide),HB0.out⟩
 have g3':¬ (1024:Int)<l.length:=by omega
 have HE3:Hid (E=if l.any (badP n) then 3 else if loopsM n.toNat (latM n.toNat l) then 9 else if wholeM n.toNat (latM n.toNat l) && wholeM n.toNat (flipM (latM n.toNat l)) then 0 else 4):=by
  show E=_;rw [HE2.out,if_neg g3]
 clear HE2
 obtain ⟨m,rfl⟩:∃ m:Nat,n=m:=⟨n.toNat,by omega⟩
 have hm1:1<=m:=by omega
 have hm2:m<=32:=by omega
 go_upto_region 6 with fail
 have HB1:=Hd (HB0.out.alloc (by have:=HB0.out.size;omega) (.cells (Tryz.zeroCells150.setIfInBounds 0 (.int .i64 (m:Int))) 150))
 have HL1:Hid (LatB (W0.alloc (.cells (Tryz.zeroCells150.setIfInBounds 0 (.int .i64 (m:Int))) 150)) W0.heap.size m (firstW 0) (fun _=>0)):=by
  show LatB _ _ _ _ _
  have:=heap_alloc_new W0 (.cells (Tryz.zeroCells150.setIfInBounds 0 (.int .i64 (m:Int))) 150)
  unfold LatB
  rw [<- latZero];exact this
 have HN1:Hid ((W0.alloc (.cells (Tryz.zeroCells150.setIfInBounds 0 (.int .i64 (m:Int))) 150)).heap[w.heap.size]?=some (.cells #[.int .i64 m] 3 (0,0))):=(((bR _ _).alloc (nR _) _).block _ (aE HN.out).1).trans HN.out
 have hlb:w.heap.size<W0.heap.size:=(aE HN.out).1
 generalize (Tryz.zeroCells150.setIfInBounds 0 (.int .i64 (m:Int)))=Z at *
 generalize W0.alloc (.cells Z 150)=W1 at *
 obtain ⟨p,hp⟩:∃ p,W0.heap.size=p:=⟨_,rfl⟩
 rw [hp] at HL1 hlb ⊢
 clear hp n0 HN HB0
 have n0:=row_of HN1.out 0 (.int .i64 m) rfl
 go_wp2_with fail
 clear n0
 go_loopw [7,29] (fun _ v wr=>∃ i:Nat,i<=m/\v=.int .i64 i/\LatB wr p m (firstW i) (fun _=>0)/\wr.heap[w.heap.size]?=some (.cells #[.int .i64 m] 3 (0,0))/\Below w.heap.size w wr) (fun _ v _=>m - (intOf v).toNat)
 case atStart=>exact ⟨0,by omega,rfl,HL1.out,HN1.out,HB1.out⟩
 case round=>
  obtain ⟨i,hi,rfl,hl,hnn,hb⟩:=hrel
  obtain ⟨w1,rfl⟩:∃ x:World,x=wr:=⟨_,rfl⟩
  have HLi:=Hd hl
  have HNi:=Hd hnn
  have HBi:=Hd hb
  clear hl hnn hb
  by_cases him:i<m
  ·have him1:(i:Int)<m:=by omega
   have hi32:(i:Int)<32:=by omega
   have hpw:=pow_u32 (show i<32 by omega)
   go_upto_region 9 with fail
   have hfz:=frozen_of_row w1 p (1+i) _ _ HLi.out
   have hcc:=HLi.out.rowU (show i<32 by omega)
   go_region
   obtain ⟨q,hq⟩:∃ q:Nat,2 ^ i=q:=⟨_,rfl⟩
   rw [hq] at hpw
   have hpi:(2:Int) ^ i=(q:Int):=by rw [<- hq];simp
   try rw [hpw]
   try rw [hpi]
   have HB2:=Hd (((HBi.out.setCell (show w.heap.size<=({ block:=p,off:=1+i }:Addr).block by show w.heap.size<=p;omega) (.int .u32 (q:Int)))).drew)
   have HL2:Hid (LatB (w1.setCell ⟨p,1+i,none⟩ (.int .u32 (q:Int))).drew p m (firstW (i+1)) (fun _=>0)):=by
    have:=HLi.out.up (show i<32 by omega) q
    rw [<- hq,firstW_step,hq] at this
    exact this
   have HN2:Hid ((w1.setCell ⟨p,1+i,none⟩ (.int .u32 (q:Int))).drew.heap[w.heap.size]?=some (.cells #[.int .i64 m] 3 (0,0))):=(heap_setCell_other _ _ _ _ (by show w.heap.size ≠ p;omega)).trans HNi.out
   generalize (w1.setCell ⟨p,1+i,none⟩ (.int .u32 (q:Int))).drew=w2 at *
   clear hfz hcc hpw hpi hq HLi HNi HBi
   go_wp2_with fail
   go_roundw
   case rel=>exact ⟨i+1,by omega,by go_num,HL2.out,HN2.out,HB2.out⟩
   case measure=>simp [intOf];omega
  ·obtain rfl:i=m:=by omega
   have him1:¬ (i:Int)<i:=by omega
   have HL2:Hid (LatB w1 p i (rowW i (ordsM (l.take 0))) (fun _=>0)):=by
    show LatB _ _ _ _ _
    have:=HLi.out
    rw [firstW_end] at this
    exact this
   clear HLi HL1 HN1
   go_wp2_with fail
   go_loopw [9,42] (fun _ v wr=>∃ k:Nat,k<=l.length/\v=.int .i64 k/\Hid ((l.take k).any (badP i)=false)/\LatB wr p i (rowW i (ordsM (l.take k))) (fun _=>0)/\wr.heap[w.heap.size]?=some (.cells #[.int .i64 i] 3 (0,0))/\Below w.heap.size w wr) (fun _ v _=>l.length - (intOf v).toNat)
   case atStart=>exact ⟨0,by omega,rfl,rfl,HL2.out,HNi.out,HBi.out⟩
   case round=>
    obtain ⟨k,hk,rfl,HBD,hl,hnn,hb⟩:=hrel
    clear HL2 HNi HBi w1
    obtain ⟨w1,rfl⟩:∃ x:World,x=wr:=⟨_,rfl⟩
    have HLi:=Hd hl
    have HNi:=Hd hnn
    have HBi:=Hd hb
    clear hl hnn hb
    by_cases hkl:k<l.length
    ·have hkl1:(k:Int)<l.length:=by omega
     obtain ⟨x,hx⟩:∃ x,l[k]?=some x:=⟨_,lG hkl⟩
     obtain ⟨b,o,rfl,-,c0,c1,hx0,hx1⟩:=atPair (HO.out.keep HBi.out) hx
     have HX:=Hd hx
     obtain ⟨x0,x1⟩:=x
     unfold InI64 at hx0 hx1
     simp only at c0 c1 hx0 hx1
     clear hx
     have HX2:=Hd (ordsM_snoc HX.out)
     have HA2:Hid ((l.take (k+1)).any (badP i)=badP i (x0,x1)):=by
      show _=_
      rw [List.take_add_one,HX.out,List.any_append,HBD.out];simp
     by_cases hbad:badP i (x0,x1)=true
     ·have HANY:Hid (l.any (badP i)=true):=by
       show _=_
       rw [List.any_eq_true]
       exact ⟨_,List.mem_of_getElem? HX.out,hbad⟩
      obtain rfl:E=3:=by rw [HE3.out,if_pos HANY.out]
      have HAL:=Hd ((HBi.out.alloc (by have:=HBi.out.size;omega) (.cells #[.int .i64 x0,.int .i64 x1] 93)))
      have HC0:=Hd (heap_alloc_new w1 (.cells #[.int .i64 x0,.int .i64 x1] 93))
      have hsz:=(aE HNi.out).1
      have HN4:Hid ((w1.alloc (.cells #[.int .i64 x0,.int .i64 x1] 93)).heap[w.heap.size]?=some (.cells #[.int .i64 i] 3 (0,0))):=(((bR _ _).alloc (nR _) _).block _ hsz).trans HNi.out
      go_upto_region 14 with fail
      clear c0 c1
      generalize w1.alloc (.cells #[.int .i64 x0,.int .i64 x1] 93)=w2 at *
      have c0:=row_of HC0.out 0 (.int .i64 x0) rfl
      have c1:=row_of HC0.out 1 (.int .i64 x1) rfl
      have n0:=row_of HN4.out 0 (.int .i64 i) rfl
      unfold badP at hbad
      by_cases t1:x0<0
      ·go_wp2_with fail
       go_ret2
       exact ⟨_,rfl,LatSaid.bad (by decide),HAL.out⟩
      by_cases t2:(i:Int)<=x0
      ·go_wp2_with fail
       go_ret2
       exact ⟨_,rfl,LatSaid.bad (by decide),HAL.out⟩
      by_cases t3:x1<0
      ·go_wp2_with fail
       go_ret2
       exact ⟨_,rfl,LatSaid.bad (by decide),HAL.out⟩
      by_cases t4:(i:Int)<=x1
      ·go_wp2_with fail
       go_ret2
       exact ⟨_,rfl,LatSaid.bad (by decide),HAL.out⟩
      exfalso
      simp [t1,t2,t3,t4] at hbad
     ·simp only [Bool.not_eq_true] at hbad
      obtain ⟨hst,ha,hb',ha0,hb0⟩:=ordM_step (ordsM (l.take k)) hbad
      obtain ⟨a,rfl⟩:∃ a:Nat,x0=a:=⟨x0.toNat,by omega⟩
      obtain ⟨a',rfl⟩:∃ a':Nat,x1=a':=⟨x1.toNat,by omega⟩
      simp only [Int.toNat_natCast] at hst ha hb'
      rw [<- HX2.out] at hst
      have HAL:=Hd ((HBi.out.alloc (by have:=HBi.out.size;omega) (.cells #[.int .i64 a,.int .i64 a'] 93)))
      have HC0:=Hd (heap_alloc_new w1 (.cells #[.int .i64 a,.int .i64 a'] 93))
      have hsz:=(aE HNi.out).1
      have hlp:=HLi.out.lt
      have HN4:Hid ((w1.alloc (.cells #[.int .i64 a,.int .i64 a'] 93)).heap[w.heap.size]?=some (.cells #[.int .i64 i] 3 (0,0))):=(((bR _ _).alloc (nR _) _).block _ hsz).trans HNi.out
      have HL4:=Hd (HLi.out.keep ((bR w1.heap.size w1).alloc (nR _) (.cells #[.int .i64 a,.int .i64 a'] 93)))
      have HBD2:Hid ((l.take (k+1)).any (badP i)=false):=HA2.out.trans hbad
      clear HX HX2 HA2 HBD hbad
      go_upto_region 14 with fail
      clear c0 c1
      generalize w1.alloc (.cells #[.int .i64 a,.int .i64 a'] 93)=w2 at *
      have c0:=row_of HC0.out 0 (.int .i64 a) rfl
      have c1:=row_of HC0.out 1 (.int .i64 a') rfl
      have n0:=row_of HN4.out 0 (.int .i64 i) rfl
      have t2:¬ (i:Int)<=a:=by omega
      have t4:¬ (i:Int)<=a':=by omega
      go_upto_region 16 with fail
      clear n0
      have hlt:=rowW_lt hm2 (ordsM (l.take k)) a
      have hcc:=HL4.out.rowU (show a<32 by omega)
      have hfz:=frozen_of_row w2 p (1+a) _ _ HL4.out
      have ha32:(a:Int)<32:=by omega
      have hpw:=pow_u32 (show a'<32 by omega)
      have hor:=u32_or_nat (rowW i (ordsM (l.take k)) a) (2 ^ a') hlt (Nat.lt_of_lt_of_eq (Nat.pow_lt_pow_right (by decide) (show a'<32 by omega)) (show (2:Nat) ^ 32=4294967296 by decide))
      obtain ⟨q,hq⟩:∃ q:Nat,rowW i (ordsM (l.take k)) a ||| 2 ^ a'=q:=⟨_,rfl⟩
      obtain ⟨x,hx⟩:∃ x:Nat,rowW i (ordsM (l.take k)) a=x:=⟨_,rfl⟩
      rw [hq] at hor hst
      rw [hx] at hor hcc
      have hpp:bits .or .u32 (x:Int) (2 ^ a':Int)=(q:Int):=by rw [<- hor];simp
      have hpq:bits .or .u32 (x:Int) ((2:Int) ^ a' % 4294967296)=(q:Int):=by rw [hpw,<- hor]
      clear hor hpw hq hx hlt
      go_region
      have HB5:=Hd ((HAL.out.setCell (show w.heap.size<=({ block:=p,off:=1+a }:Addr).block by show w.heap.size<=p;omega) (.int .u32 (q:Int))).drew)
      have HL5:Hid (LatB (w2.setCell ⟨p,1+a,none⟩ (.int .u32 (q:Int))).drew p i (rowW i (ordsM (l.take (k+1)))) (fun _=>0)):=by
       have:=HL4.out.up (show a<32 by omega) q
       rw [hst] at this
       exact this
      have HN5:Hid ((w2.setCell ⟨p,1+a,none⟩ (.int .u32 (q:Int))).drew.heap[w.heap.size]?=some (.cells #[.int .i64 i] 3 (0,0))):=(heap_setCell_other _ _ _ _ (by show w.heap.size ≠ p;omega)).trans HN4.out
      generalize (w2.setCell ⟨p,1+a,none⟩ (.int .u32 (q:Int))).drew=w3 at *
      clear hfz hcc hpp hpq hst HL4 HN4 HAL HLi HNi HBi c0 c1 HC0
      go_wp2_with fail
      go_roundw
      case rel=>exact ⟨k+1,by omega,by go_num,HBD2,HL5.out,HN5.out,HB5.out⟩
      case measure=>simp [intOf];omega
    ·obtain rfl:k=l.length:=by omega
     have hkl1:¬ (l.length:Int)<l.length:=by omega
     have HE4:Hid (E=if loopsM i (latM i l) then 9 else if wholeM i (latM i l) && wholeM i (flipM (latM i l)) then 0 else 4):=by
      show E=_
      have:=HBD.out
      rw [List.take_length] at this
      rw [HE3.out,this];rfl
     have HLj:Hid (LatB w1 p i (rowW i (closeM i (ordsM l) 0)) (fun _=>0)):=by
      have:=HLi.out
      rw [List.take_length] at this
      exact this
     have n0:=row_of HNi.out 0 (.int .i64 i) rfl
     clear HE3 HLi HBD HO
     go_wp2_with fail
     clear n0
     go_loopw [10,82] (fun _ v wr=>∃ k:Nat,k<=i/\v=.int .i64 k/\LatB wr p i (rowW i (closeM i (ordsM l) k)) (fun _=>0)/\wr.heap[w.heap.size]?=some (.cells #[.int .i64 i] 3 (0,0))/\Below w.heap.size w wr) (fun _ v _=>i - (intOf v).toNat)
     case atStart=>exact ⟨0,by omega,rfl,HLj.out,HNi.out,HBi.out⟩
     case round=>
      obtain ⟨k,hk,rfl,hl,hnn,hb⟩:=hrel
      clear HLj HNi HBi w1
      obtain ⟨w1,rfl⟩:∃ x:World,x=wr:=⟨_,rfl⟩
      have HLi:=Hd hl
      have HNi:=Hd hnn
      have HBi:=Hd hb
      clear hl hnn hb
      by_cases hki:k<i
      ·have hki1:(k:Int)<i:=by omega
       have n0:=row_of HNi.out 0 (.int .i64 i) rfl
       go_wp2_with fail
       clear n0
       go_loopw [11,86] (fun _ v wr=>∃ j:Nat,j<=i/\v=.int .i64 j/\LatB wr p i (rowW i (rowsM k (closeM i (ordsM l) k) j)) (fun _=>0)/\wr.heap[w.heap.size]?=some (.cells #[.int .i64 i] 3 (0,0))/\Below w.heap.size w wr) (fun _ v _=>i - (intOf v).toNat)
       case atStart=>exact ⟨0,by omega,rfl,HLi.out,HNi.out,HBi.out⟩
       case round=>
        obtain ⟨j,hj,rfl,hl,hnn,hb⟩:=hrel
        clear HLi HNi HBi w1
        obtain ⟨w1,rfl⟩:∃ x:World,x=wr:=⟨_,rfl⟩
        have HLi:=Hd hl
        have HNi:=Hd hnn
        have HBi:=Hd hb
        clear hl hnn hb
        by_cases hji:j<i
        ·have hji1:(j:Int)<i:=by omega
         have hJ:=joinM_step (rowsM k (closeM i (ordsM l) k)  j) hji hki
         have hbit:=bit_test (rowW i (rowsM k (closeM i (ordsM l) k) j) j) k (rowW_lt hm2 _ j)
         rw [rowW_bit _ hji hki] at hbit
         have hcj:=HLi.out.rowU (show j<32 by omega)
         have hck:=HLi.out.rowU (show k<32 by omega)
         have hfz:=frozen_of_row w1 p (1+j) _ _ HLi.out
         have hltj:=rowW_lt hm2 (rowsM k (closeM i (ordsM l) k) j) j
         have hltk:=rowW_lt hm2 (rowsM k (closeM i (ordsM l) k) j) k
         have hor:=u32_or_nat _ _ hltj hltk
         have hk32:(0:Int)<=(k:Int)/\(k:Int)<=32:=by omega
         have hk33:(k:Int)<32:=by omega
         have hj33:(j:Int)<32:=by omega
         obtain ⟨hk1,hk2⟩:=hk32
         have HP:=Hd (show rowW i (rowsM k (closeM i (ordsM l) k) (j+1))=rowW i (joinM k j (rowsM k (closeM i (ordsM l) k) j)) from rfl)
         obtain ⟨P,hP⟩:∃ P,rowsM k (closeM i (ordsM l) k) j=P:=⟨_,rfl⟩
         rw [hP] at hJ hbit hcj hck hltj hltk hor HP
         have HLp:Hid (LatB w1 p i (rowW i P) (fun _=>0)):=by rw [<- hP];exact HLi.out
         clear hP HLi
         obtain ⟨x,hx⟩:∃ x,rowW i P j=x:=⟨_,rfl⟩
         obtain ⟨y,hy⟩:∃ y,rowW i P k=y:=⟨_,rfl⟩
         obtain ⟨q,hq⟩:∃ q,rowW i P j ||| rowW i P k=q:=⟨_,rfl⟩
         rw [hq] at hor hJ
         rw [hx] at hbit hcj hor
         rw [hy] at hck hor
         clear hx hy hq hltj hltk
         by_cases hM:P j k=true
         ·rw [hM] at hbit
          simp only [if_true] at hbit
          have HST:=Hd (hJ.1 hM)
          clear hJ hM
          go_upto_region 25 with (simp only [hbit])
          clear hbit
          go_region
          have HB5:=Hd ((HBi.out.setCell (show w.heap.size<=({ block:=p,off:=1+j }:Addr).block by show w.heap.size<=p;omega) (.int .u32 (q:Int))).drew)
          have HL5:Hid (LatB (w1.setCell ⟨p,1+j,none⟩ (.int .u32 (q:Int))).drew p i (rowW i (rowsM k (closeM i (ordsM l) k) (j+1))) (fun _=>0)):=by
           have:=HLp.out.up (show j<32 by omega) q
           rw [HST.out,<- HP.out] at this
           exact this
          have HN5:Hid ((w1.setCell ⟨p,1+j,none⟩ (.int .u32 (q:Int))).drew.heap[w.heap.size]?=some (.cells #[.int .i64 i] 3 (0,0))):=(heap_setCell_other _ _ _ _ (by show w.heap.size ≠ p;omega)).trans HNi.out
          generalize (w1.setCell ⟨p,1+j,none⟩ (.int .u32 (q:Int))).drew=w3 at *
          clear hfz hcj hck hor HST HLp HNi HBi HP
          go_wp2_with fail
          go_roundw
          case rel=>exact ⟨j+1,by omega,by go_num,HL5.out,HN5.out,HB5.out⟩
          case measure=>simp [intOf];omega
         ·simp only [Bool.not_eq_true] at hM
          rw [hM] at hbit
          simp only [Bool.false_eq_true,if_false] at hbit
          have HL5:Hid (LatB w1 p i (rowW i (rowsM k (closeM i (ordsM l) k) (j+1))) (fun _=>0)):=by
           have:=HLp.out
           rw [hJ.2 hM,<- HP.out] at this
           exact this
          clear hJ hM HLp HP
          go_wp2_with (simp only [hbit])
          go_roundw
          case rel=>exact ⟨j+1,by omega,by go_num,HL5.out,HNi.out,HBi.out⟩
          case measure=>simp [intOf];omega
        ·obtain rfl:j=i:=by omega
         have hji1:¬ (j:Int)<j:=by omega
         go_wp2_with fail
         go_roundw
         case rel=>exact ⟨k+1,by omega,by go_num,HLi.out,HNi.out,HBi.out⟩
         case measure=>simp [intOf];omega
      ·obtain rfl:k=i:=by omega
       have hki1:¬ (k:Int)<k:=by omega
       have HL7:Hid (LatB w1 p k (rowW k (latM k l)) (dnW k (latM k l) 0 0)):=by
        show LatB _ _ _ _ _
        rw [dnW_zero];exact HLi.out
       obtain ⟨M,hM⟩:∃ M,latM k l=M:=⟨_,rfl⟩
       have HMR:Hid (∀ j,M j j=true):=by intro j;rw [<- hM];exact latM_refl k l j
       have HMl:=Hd hM
       rw [hM] at HL7 HE4
       clear hM HLi
       have n0:=row_of HNi.out 0 (.int .i64 k) rfl
       go_wp2_with fail
       clear n0
       go_loopw [12,118] (fun _ v wr=>∃ i:Nat,i<=k/\v=.int .i64 i/\LatB wr p k (rowW k M) (dnW k M i 0)/\wr.heap[w.heap.size]?=some (.cells #[.int .i64 k] 3 (0,0))/\Below w.heap.size w wr) (fun _ v _=>k - (intOf v).toNat)
       case atStart=>exact ⟨0,by omega,rfl,HL7.out,HNi.out,HBi.out⟩
       case round=>
        obtain ⟨i,hi,rfl,hl,hnn,hb⟩:=hrel
        clear HL7 HNi HBi w1
        obtain ⟨w1,rfl⟩:∃ x:World,x=wr:=⟨_,rfl⟩
        have HLi:=Hd hl
        have HNi:=Hd hnn
        have HBi:=Hd hb
        clear hl hnn hb
        by_cases hik:i<k
        ·have hik1:(i:Int)<k:=by omega
         have n0:=row_of HNi.out 0 (.int .i64 k) rfl
         go_wp2_with fail
         clear n0
         go_loopw [13,122] (fun _ v wr=>∃ j:Nat,j<=k/\v=.int .i64 j/\LatB wr p k (rowW k M) (dnW k M i j)/\wr.heap[w.heap.size]?=some (.cells #[.int .i64 k] 3 (0,0))/\Below w.heap.size w wr) (fun _ v _=>k - (intOf v).toNat)
         case atStart=>exact ⟨0,by omega,rfl,HLi.out,HNi.out,HBi.out⟩
         case round=>
          obtain ⟨j,hj,rfl,hl,hnn,hb⟩:=hrel
          clear HLi HNi HBi w1
          obtain ⟨w1,rfl⟩:∃ x:World,x=wr:=⟨_,rfl⟩
          have HLi:=Hd hl
          have HNi:=Hd hnn
          have HBi:=Hd hb
          clear hl hnn hb
          by_cases hjk:j<k
          ·have hjk1:(j:Int)<k:=by omega
           have hJ:=dnW_step M hik hjk
           have hbit:=bit_test (rowW k M i) j (rowW_lt hm2 M i)
           rw [rowW_bit M hik hjk] at hbit
           have hci:=HLi.out.rowU (show i<32 by omega)
           have hcj:=HLi.out.rowD (show j<32 by omega)
           have hfz:=frozen_of_row w1 p (33+j) _ _ HLi.out
           have hltj:=dnW_lt hm2 M i j j
           have hpw:=pow_u32 (show i<32 by omega)
           have hor:=u32_or_nat (dnW k M i j j) (2 ^ i) hltj (Nat.lt_of_lt_of_eq (Nat.pow_lt_pow_right (by decide) (show i<32 by omega)) (show (2:Nat) ^ 32=4294967296 by decide))
           have hj32:(0:Int)<=(j:Int)/\(j:Int)<=32:=by omega
           obtain ⟨hj1,hj2⟩:=hj32
           have hi33:(i:Int)<32:=by omega
           have hj33:(j:Int)<32:=by omega
           obtain ⟨x,hx⟩:∃ x,rowW k M i=x:=⟨_,rfl⟩
           obtain ⟨y,hy⟩:∃ y,dnW k M i j j=y:=⟨_,rfl⟩
           obtain ⟨q,hq⟩:∃ q,dnW k M i j j ||| 2 ^ i=q:=⟨_,rfl⟩
           rw [hq] at hor hJ
           rw [hx] at hbit hci
           rw [hy] at hcj hor
           have hpp:bits .or .u32 (y:Int) (2 ^ i:Int)=(q:Int):=by rw [<- hor];simp
           have hpq:bits .or .u32 (y:Int) ((2:Int) ^ i % 4294967296)=(q:Int):=by rw [hpw,<- hor]
           clear hx hy hq hltj hor hpw
           by_cases hMij:M i j=true
           ·rw [hMij] at hbit
            simp only [if_true] at hbit
            have HST:=Hd (hJ.1 hMij)
            clear hJ hMij
            go_upto_region 35 with (simp only [hbit])
            clear hbit
            go_region
            have HB5:=Hd ((HBi.out.setCell (show w.heap.size<=({ block:=p,off:=33+j }:Addr).block by show w.heap.size<=p;omega) (.int .u32 (q:Int))).drew)
            have HL5:Hid (LatB (w1.setCell ⟨p,33+j,none⟩ (.int .u32 (q:Int))).drew p k (rowW k M) (dnW k M i (j+1))):=by
             have:=HLi.out.dn (show j<32 by omega) q
             rw [HST.out] at this
             exact this
            have HN5:Hid ((w1.setCell ⟨p,33+j,none⟩ (.int .u32 (q:Int))).drew.heap[w.heap.size]?=some (.cells #[.int .i64 k] 3 (0,0))):=(heap_setCell_other _ _ _ _ (by show w.heap.size ≠ p;omega)).trans HNi.out
            generalize (w1.setCell ⟨p,33+j,none⟩ (.int .u32 (q:Int))).drew=w3 at *
            clear hfz hci hcj hpp hpq HST HLi HNi HBi
            go_wp2_with fail
            go_roundw
            case rel=>exact ⟨j+1,by omega,by go_num,HL5.out,HN5.out,HB5.out⟩
            case measure=>simp [intOf];omega
           ·simp only [Bool.not_eq_true] at hMij
            rw [hMij] at hbit
            simp only [Bool.false_eq_true,if_false] at hbit
            have HL5:Hid (LatB w1 p k (rowW k M) (dnW k M i (j+1))):=by
             have:=HLi.out
             rw [hJ.2 hMij] at this
             exact this
            clear hJ hMij
            go_wp2_with (simp only [hbit])
            go_roundw
            case rel=>exact ⟨j+1,by omega,by go_num,HL5.out,HNi.out,HBi.out⟩
            case measure=>simp [intOf];omega
          ·obtain rfl:j=k:=by omega
           have hjk1:¬ (j:Int)<j:=by omega
           have HL5:Hid (LatB w1 p j (rowW j M) (dnW j M (i+1) 0)):=by
            have:=HLi.out
            rw [dnW_row] at this
            exact this
           go_wp2_with fail
           go_roundw
           case rel=>exact ⟨i+1,by omega,by go_num,HL5.out,HNi.out,HBi.out⟩
           case measure=>simp [intOf];omega
        ·obtain rfl:i=k:=by omega
         have hik1:¬ (i:Int)<i:=by omega
         have HLf:Hid (LatB w1 p i (rowW i M) (rowW i (flipM M))):=by
          have:=HLi.out
          rw [dnW_end] at this
          exact this
         clear HLi
         have n0:=row_of HNi.out 0 (.int .i64 i) rfl
         go_wp2_with fail
         clear n0
         go_loopw [14,150] (fun _ v wr=>∃ j:Nat,j<=i/\v=.int .i64 j/\Hid (∀ x,x<j->(anyN i fun y=>!decide (y=x) && M x y && M y x)=false)/\LatB wr p i (rowW i M) (rowW i (flipM M))/\wr.heap[w.heap.size]?=some (.cells #[.int .i64 i] 3 (0,0))/\Below w.heap.size w wr) (fun _ v _=>i - (intOf v).toNat)
         case atStart=>exact ⟨0,by omega,rfl,fun x hx=>by omega,HLf.out,HNi.out,HBi.out⟩
         case round=>
          obtain ⟨j,hj,rfl,HQ,hl,hnn,hb⟩:=hrel
          clear HLf HNi HBi w1
          obtain ⟨w1,rfl⟩:∃ x:World,x=wr:=⟨_,rfl⟩
          have HLi:=Hd hl
          have HNi:=Hd hnn
          have HBi:=Hd hb
          clear hl hnn hb
          by_cases hji:j<i
          ·have hji1:(j:Int)<i:=by omega
           have hLR:=loops_row M hji (HMR.out j)
           have hcu:=HLi.out.rowU (show j<32 by omega)
           have hcd:=HLi.out.rowD (show j<32 by omega)
           have hpw:=pow_u32 (show j<32 by omega)
           have hand:=u32_and_nat _ _ (rowW_lt hm2 M j) (rowW_lt hm2 (flipM M) j)
           have hj33:(j:Int)<32:=by omega
           obtain ⟨x,hx⟩:∃ x,rowW i M j=x:=⟨_,rfl⟩
           obtain ⟨y,hy⟩:∃ y,rowW i (flipM M) j=y:=⟨_,rfl⟩
           obtain ⟨q,hq⟩:∃ q,rowW i M j &&& rowW i (flipM M) j=q:=⟨_,rfl⟩
           obtain ⟨z,hz⟩:∃ z:Nat,2 ^ j=z:=⟨_,rfl⟩
           rw [hq] at hand hLR
           rw [hz] at hpw hLR
           rw [hx] at hcu hand
           rw [hy] at hcd hand
           have hpi:(2:Int) ^ j=(z:Int):=by rw [<- hz];simp
           clear hx hy hq hz
           by_cases hqz:q=z
           ·have HQ2:Hid (∀ x,x<j+1->(anyN i fun y=>!decide (y=x) && M x y && M y x)=false):=by
             intro x hx
             by_cases e:x<j
             ·exact HQ.out x e
             ·obtain rfl:x=j:=by omega
              exact hLR.1 hqz
            have htest:((q:Int) != (z:Int))=false:=by subst hqz;simp
            clear hLR hqz
            go_upto_region 41 with fail
            go_quiet (first|simp only [hand]|simp only [hpw]|simp only [hpi]|simp only [htest])
            have HL5:=Hd (HLi.out.keep (below_drewN (bR w1.heap.size w1) nq))
            have HB5:=Hd (below_drewN HBi.out nq)
            have HN5:Hid ((w1.drewN nq).heap[w.heap.size]?=some (.cells #[.int .i64 i] 3 (0,0))):=HNi.out
            generalize w1.drewN nq=w3 at *
            clear hcu hcd hand hpw hpi htest HLi HNi HBi
            go_wp2_with fail
            go_roundw
            case rel=>exact ⟨j+1,by omega,by go_num,HQ2,HL5.out,HN5.out,HB5.out⟩
            case measure=>simp [intOf];omega
           ·have HLP:Hid (loopsM i M=true):=by
             show _=_
             unfold loopsM
             rw [anyN_iff]
             refine ⟨j,hji,?_⟩
             cases h:(anyN i fun y=>!decide (y=j) && M j y && M y j) with
             | true=>rfl
             | false=>exact absurd (hLR.2 h) hqz
            obtain rfl:E=9:=by rw [HE4.out,if_pos HLP.out]
            have htest:((q:Int) != (z:Int))=true:=by simp;omega
            clear hLR hqz
            go_upto_region 41 with fail
            go_quiet (first|simp only [hand]|simp only [hpw]|simp only [hpi]|simp only [htest])
            have HB5:=Hd (below_drewN HBi.out nq)
            go_wp2_with fail
            go_ret2
            exact ⟨_,rfl,LatSaid.bad (by decide),HB5.out⟩
          ·obtain rfl:j=i:=by omega
           have hji1:¬ (j:Int)<j:=by omega
           have HE5:Hid (E=if wholeM j M && wholeM j (flipM M) then 0 else 4):=by
            show E=_
            have:loopsM j M=false:=by
             unfold loopsM
             rw [anyN_false]
             exact fun x hx=>HQ.out x hx
            rw [HE4.out,this];rfl
           clear HE4 HQ
           have hn1:=row_of HNi.out 0 (.int .i64 j) rfl
           have HW1:Hid (∀ w':World,Below w1.heap.size w1 w'->Calls Tryz.prog 88 #[.pointer (some ⟨p,1,none⟩),.pointer (some ⟨w.heap.size,0,none⟩)] w' fun e w''=>e=.returned (.bool (wholeM j M))/\Below w'.heap.size w' w''):=fun w' hb=>
            whole_any p 1 j w.heap.size M w' hm1 hm2 (HT.out.keep (bcomp HBi.out hb)) (cell_keep hb hn1) (fun i hi=>cell_keep hb (HLi.out.rowU hi))
           have HW2:Hid (∀ w':World,Below w1.heap.size w1 w'->Calls Tryz.prog 88 #[.pointer (some ⟨p,33,none⟩),.pointer (some ⟨w.heap.size,0,none⟩)] w' fun e w''=>e=.returned (.bool (wholeM j (flipM M)))/\Below w'.heap.size w' w''):=fun w' hb=>
            whole_any p 33 j w.heap.size (flipM M) w' hm1 hm2 (HT.out.keep (bcomp HBi.out hb)) (cell_keep hb hn1) (fun i hi=>cell_keep hb (HLi.out.rowD hi))
           clear hn1
           obtain ⟨V1,hV1⟩:∃ V,wholeM j M=V:=⟨_,rfl⟩
           obtain ⟨V2,hV2⟩:∃ V,wholeM j (flipM M)=V:=⟨_,rfl⟩
           rw [hV1] at HW1 HE5
           rw [hV2] at HW2 HE5
           clear hV1 hV2
           cases V1 with
           | false=>
            obtain rfl:E=4:=HE5.out
            go_wp2_with (first|(go_at_call 88;refine (HW1.out _ (bR _ _)).mono ?_;rintro e z1 ⟨rfl,hz⟩;have B1:=Hd (bcomp HBi.out hz);clear hz))
            go_ret2
            exact ⟨_,rfl,LatSaid.bad (by decide),B1.out⟩
           | true=>
            cases V2 with
            | false=>
             obtain rfl:E=4:=HE5.out
             go_wp2_with (first|(go_at_call_of 88 (Value.pointer (some ⟨p,1,none⟩));refine (HW1.out _ (bR _ _)).mono ?_;rintro e z1 ⟨rfl,hz⟩;have B1:=Hd hz;clear hz)|(go_at_call 88;refine (HW2.out _ B1.out).mono ?_;rintro e z2 ⟨rfl,hz⟩;have B2:=Hd (bcomp HBi.out (bcomp B1.out hz));clear hz))
             go_ret2
             exact ⟨_,rfl,LatSaid.bad (by decide),B2.out⟩
            | true=>
             obtain rfl:E=0:=HE5.out
             go_wp2_with (first|(go_at_call_of 88 (Value.pointer (some ⟨p,1,none⟩));refine (HW1.out _ (bR _ _)).mono ?_;rintro e z1 ⟨rfl,hz⟩;have B1:=Hd hz;clear hz)|(go_at_call 88;refine (HW2.out _ B1.out).mono ?_;rintro e z2 ⟨rfl,hz⟩;have B2:=Hd (bcomp B1.out hz);clear hz))
             go_ret2
             refine ⟨_,rfl,⟨fun _=>?_,fun h=>absurd rfl h⟩,bcomp HBi.out B2.out⟩
             refine ⟨p,rfl,?_,?_,?_⟩
             ·have:=HLi.out.keep B2.out
              unfold LatB at this
              rw [<- HMl.out] at this
              exact this
             ·exact hm1
             ·exact hm2
open Go.ChangeShapes Go.WideShapes Go.ChangeAt Go.RowKit
def idxB (s:ByteArray):List BindD->Nat->Int
 | [],_=>-1
 | x :: l,k=>if isB s x then k else idxB s l (k+1)
theorem idxB_step (s:ByteArray) (t:BindD) (l:List BindD) (k:Nat) (h:l[k]?=some t):idxB s (l.drop k) k=if isB s t then (k:Int) else idxB s (l.drop (k+1)) (k+1):=by
 have:l.drop k=t :: l.drop (k+1):=by
  obtain ⟨hlt,he⟩:=lE h
  rw [List.drop_eq_getElem_cons hlt,he]
 rw [this,idxB]
theorem idxB_has (s:ByteArray):∀ (l:List BindD) (k:Nat),decide (0<=idxB s l k)=hasS s (l.map BindD.name)
 | [],k=>by simp [idxB,hasS]
 | t :: r,k=>by
  rw [idxB,hasS,List.map_cons,List.any_cons]
  have e:isB s t=(s.toList == t.name.toList):=by unfold isB;rw [Bool.eq_iff_iff];simp;exact eq_comm
  rw [<- e]
  cases h:isB s t
  ·simp only [Bool.false_eq_true,if_false,Bool.false_or];exact idxB_has s r (k+1)
  ·simp
theorem idxB_level (s:ByteArray):∀ (l:List BindD) (k:Nat),(idxB s l k=-1/\levelOf l s=none) \/ (∃ i b,idxB s l k=((k+i:Nat):Int)/\l[i]?=some b/\levelOf l s=some b.level)
 | [],k=>.inl ⟨rfl,rfl⟩
 | t :: r,k=>by
  rw [idxB,levelOf]
  cases h:isB s t
  ·rcases idxB_level s r (k+1) with ⟨h1,h2⟩|⟨i,b,h1,h2,h3⟩
   ·exact .inl ⟨by simp [h1],by simp [h2]⟩
   ·refine .inr ⟨i+1,b,?_,?_,?_⟩
    ·rw [if_neg (by simp),h1];omega
    ·simpa using h2
    ·rw [if_neg (by simp)];exact h3
  ·exact .inr ⟨0,t,by simp,rfl,by simp⟩
abbrev bindV (x:BindD):Value:=.agg #[.string x.name,.int .i64 x.level]
theorem bindsIs (x:BindD) (s:ByteArray) (c:Nat) (w:World) (hc:w.cell? ⟨c,0,none⟩=some (.string s)) :
  Calls Tryz.prog 91 #[bindV x,.pointer (some ⟨c,0,none⟩)] w fun e w'=>e=.returned (.bool (isB s x))/\Below w.heap.size w w':=by
 have HB:=Hd ((bR w.heap.size w).alloc (nR _) (.cells #[.string x.name,.int .i64 x.level] 54))
 have HC:=Hd (heap_alloc_new w (.cells #[.string x.name,.int .i64 x.level] 54))
 have HS:=Hd hc
 clear hc
 have HV:Hid (isB s x=(x.name.toList == s.toList)):=rfl
 go_enter Tryz.func91,Tryz.ntmps91
 go_upto_region 1 with fail
 generalize w.alloc (.cells #[.string x.name,.int .i64 x.level] 54)=W at *
 have c0:=row_of HC.out 0 (.string x.name) rfl
 have c1:=cell_keep HB.out HS.out
 go_wp2_with fail
 go_ret
 exact ⟨by rw [HV.out];rfl,HB.out⟩
theorem bindsIndex (v:Value) (l:List BindD) (s:ByteArray) (c:Nat) (w:World) (h:RdRow kBind none w v l) (hc:w.cell? ⟨c,0,none⟩=some (.string s)) :
  Calls Tryz.prog 92 #[v,.func (.func 91) #[] #[.pointer (some ⟨c,0,none⟩)]] w fun e w'=>e=.returned (.int .i64 (idxB s l 0))/\Below w.heap.size w w':=by
 obtain ⟨a,cp,rfl⟩:=h.is
 have hl:l.length * 24<=140737488351232:=h.size
 have HR:=Hd h
 have HS:=Hd hc
 clear h hc
 go_enter Tryz.func92,Tryz.ntmps92
 go_wp2
 go_loopw [5,8] (fun _ i wr=>∃ k:Nat,k<=l.length/\i=.int .i64 k/\Hid (idxB s l 0=idxB s (l.drop k) k)/\Below w.heap.size w wr) (fun _ i _=>l.length - (intOf i).toNat)
 case atStart=>exact ⟨0,Nat.zero_le _,rfl,rfl,bR _ _⟩
 case round=>
  obtain ⟨k,hk,rfl,HQ,hb⟩:=hrel
  obtain ⟨w1,rfl⟩:∃ x:World,x=wr:=⟨_,rfl⟩
  have HB:=Hd hb
  clear hb
  by_cases hlt:k<l.length
  ·have hlt1:(k:Int)<l.length:=by omega
   obtain ⟨x,hx⟩:∃ x,l[k]?=some x:=⟨_,lG hlt⟩
   obtain ⟨b,o,rfl,_,c0,c1,_⟩:=atBind (HR.out.keep HB.out) hx
   have hs:=idxB_step s x l k hx
   have HI:=Hd (bindsIs x s c w1 (cell_keep HB.out HS.out))
   clear hx
   cases he:isB s x
   ·rw [he,if_neg (by simp)] at hs
    rw [he] at HI
    have HN:=Hd (HQ.out.trans hs)
    clear hs he
    go_wp2_with (go_at_call 91;refine HI.out.mono ?_;rintro e w' ⟨rfl,hz⟩;have B1:=Hd (bcomp HB.out hz);clear hz)
    go_roundw
    case rel=>exact ⟨k+1,by omega,by go_num,HN,B1.out⟩
    case measure=>simp [intOf];omega
   ·rw [he,if_pos rfl] at hs
    rw [he] at HI
    have HN:=Hd (HQ.out.trans hs)
    clear hs he
    go_wp2_with (go_at_call 91;refine HI.out.mono ?_;rintro e w' ⟨rfl,hz⟩;have B1:=Hd (bcomp HB.out hz);clear hz)
    go_ret
    exact ⟨by rw [HN.out];rfl,B1.out⟩
  ·obtain rfl:k=l.length:=by omega
   have hlt1:¬ (l.length:Int)<l.length:=by omega
   go_wp2
   go_ret
   exact ⟨by rw [HQ.out,List.drop_length];rfl,HB.out⟩
theorem levelIs (x:BindD) (s:ByteArray) (c:Nat) (w:World) (hc:w.cell? ⟨c,0,none⟩=some (.string s)) :
  Calls Tryz.prog 57 #[bindV x,.pointer (some ⟨c,0,none⟩)] w fun e w'=>e=.returned (.bool (isB s x))/\Below w.heap.size w w':=by
 have HB:=Hd ((bR w.heap.size w).alloc (nR _) (.cells #[.string x.name,.int .i64 x.level] 54))
 have HC:=Hd (heap_alloc_new w (.cells #[.string x.name,.int .i64 x.level] 54))
 have HS:=Hd hc
 clear hc
 have HV:Hid (isB s x=(x.name.toList == s.toList)):=rfl
 go_enter Tryz.func57,Tryz.ntmps57
 go_upto_region 1 with fail
 generalize w.alloc (.cells #[.string x.name,.int .i64 x.level] 54)=W at *
 have c0:=row_of HC.out 0 (.string x.name) rfl
 have c1:=cell_keep HB.out HS.out
 go_wp2_with fail
 go_ret
 exact ⟨by rw [HV.out];rfl,HB.out⟩
theorem levelIndex (v:Value) (l:List BindD) (s:ByteArray) (c:Nat) (w:World) (h:RdRow kBind none w v l) (hc:w.cell? ⟨c,0,none⟩=some (.string s)) :
  Calls Tryz.prog 92 #[v,.func (.func 57) #[] #[.pointer (some ⟨c,0,none⟩)]] w fun e w'=>e=.returned (.int .i64 (idxB s l 0))/\Below w.heap.size w w':=by
 obtain ⟨a,cp,rfl⟩:=h.is
 have hl:l.length * 24<=140737488351232:=h.size
 have HR:=Hd h
 have HS:=Hd hc
 clear h hc
 go_enter Tryz.func92,Tryz.ntmps92
 go_wp2
 go_loopw [5,8] (fun _ i wr=>∃ k:Nat,k<=l.length/\i=.int .i64 k/\Hid (idxB s l 0=idxB s (l.drop k) k)/\Below w.heap.size w wr) (fun _ i _=>l.length - (intOf i).toNat)
 case atStart=>exact ⟨0,Nat.zero_le _,rfl,rfl,bR _ _⟩
 case round=>
  obtain ⟨k,hk,rfl,HQ,hb⟩:=hrel
  obtain ⟨w1,rfl⟩:∃ x:World,x=wr:=⟨_,rfl⟩
  have HB:=Hd hb
  clear hb
  by_cases hlt:k<l.length
  ·have hlt1:(k:Int)<l.length:=by omega
   obtain ⟨x,hx⟩:∃ x,l[k]?=some x:=⟨_,lG hlt⟩
   obtain ⟨b,o,rfl,_,c0,c1,_⟩:=atBind (HR.out.keep HB.out) hx
   have hs:=idxB_step s x l k hx
   have HI:=Hd (levelIs x s c w1 (cell_keep HB.out HS.out))
   clear hx
   cases he:isB s x
   ·rw [he,if_neg (by simp)] at hs
    rw [he] at HI
    have HN:=Hd (HQ.out.trans hs)
    clear hs he
    go_wp2_with (go_at_call 57;refine HI.out.mono ?_;rintro e w' ⟨rfl,hz⟩;have B1:=Hd (bcomp HB.out hz);clear hz)
    go_roundw
    case rel=>exact ⟨k+1,by omega,by go_num,HN,B1.out⟩
    case measure=>simp [intOf];omega
   ·rw [he,if_pos rfl] at hs
    rw [he] at HI
    have HN:=Hd (HQ.out.trans hs)
    clear hs he
    go_wp2_with (go_at_call 57;refine HI.out.mono ?_;rintro e w' ⟨rfl,hz⟩;have B1:=Hd (bcomp HB.out hz);clear hz)
    go_ret
    exact ⟨by rw [HN.out];rfl,B1.out⟩
  ·obtain rfl:k=l.length:=by omega
   have hlt1:¬ (l.length:Int)<l.length:=by omega
   go_wp2
   go_ret
   exact ⟨by rw [HQ.out,List.drop_length];rfl,HB.out⟩
theorem bindsContains (v:Value) (l:List BindD) (s:ByteArray) (c:Nat) (w:World) (h:RdRow kBind none w v l) (hc:w.cell? ⟨c,0,none⟩=some (.string s)) :
  Calls Tryz.prog 90 #[v,.func (.func 91) #[] #[.pointer (some ⟨c,0,none⟩)]] w fun e w'=>e=.returned (.bool (hasS s (l.map BindD.name)))/\Below w.heap.size w w':=by
 have hh:=Hd (idxB_has s l 0)
 have HI:=Hd (bindsIndex v l s c w h hc)
 clear h hc
 generalize idxB s l 0=z at *
 generalize hasS s (l.map BindD.name)=y at *
 go_enter Tryz.func90,Tryz.ntmps90
 go_wp2_with (go_at_call 92;refine HI.out.mono ?_;rintro e w' ⟨rfl,hz⟩;have B1:=Hd hz;clear hz)
 go_ret
 exact ⟨by rw [<- hh.out];rfl,B1.out⟩
theorem results_cell_two {P:Program} {fn:Func} {p u:Tmp} {ty:TypeId} (h:fn.results=#[.cell p ty,.tmp u]) (tmps:Array Value) (w:World) (g:Nat) (t:TypeId) (cs:Array Value) (fr:Nat × Nat) (d:TypeDesc)
  (hp:tmps.getD p undef=.pointer (some ⟨g,0,none⟩)) (hg:w.heap[g]?=some (.cells cs t fr))
  (hu:P.underlying ty=some d) (hd:(match d with|.struct _|.array _ _=>true|_=>false)=true) (hi:(P.info? ty).map (·.size)=some cs.size) :
  (results fn tmps).run P w=.ok (.tuple #[.agg cs,tmps.getD u undef]) w:=by
 have hp':tmps[p]?.getD undef=.pointer (some ⟨g,0,none⟩):=by simpa using hp
 simp [results,h,hp',asAddr,run_loadVar_row w g t ty cs fr d hg hu hd hi]
theorem levelFind (v:Value) (l:List BindD) (s:ByteArray) (c:Nat) (w:World) (h:RdRow kBind none w v l) (hc:w.cell? ⟨c,0,none⟩=some (.string s)) :
  Calls Tryz.prog 56 #[v,.func (.func 57) #[] #[.pointer (some ⟨c,0,none⟩)]] w fun e w'=>∃ x:BindD,e=.returned (.tuple #[bindV x,.bool (levelOf l s).isSome])/\Hid (x.level=(levelOf l s).getD 0)/\Below w.heap.size w w':=by
 obtain ⟨a,cp,rfl⟩:=h.is
 have hl:l.length * 24<=140737488351232:=h.size
 have HR:=Hd h
 have HB0:=Hd ((bR w.heap.size w).alloc (nR _) (.cells #[.string ⟨#[]⟩,.int .i64 0] 54))
 have HC0:=Hd (heap_alloc_new w (.cells #[.string ⟨#[]⟩,.int .i64 0] 54))
 have HI:=Hd (fun (w':World) (hb:Below w.heap.size w w')=>levelIndex _ l s c w' (h.keep hb) (cell_keep hb hc))
 have hcase:=idxB_level s l 0
 clear h hc
 generalize idxB s l 0=z at *
 obtain ⟨V,hV⟩:∃ V,levelOf l s=V:=⟨_,rfl⟩
 rw [hV]
 rw [hV] at hcase
 have HV:=Hd hV
 clear hV
 go_enter Tryz.func56,Tryz.ntmps56
 go_upto_region 1 with fail
 generalize w.alloc (.cells #[.string ⟨#[]⟩,.int .i64 0] 54)=W at *
 have hsz:=(aE HC0.out).1
 go_upto_region 2 with (go_at_call 92;refine (HI.out _ HB0.out).mono ?_;rintro e z1 ⟨rfl,hz⟩;have B1:=Hd hz;clear hz)
 have HC1:Hid (z1.heap[w.heap.size]?=some (.cells #[.string ⟨#[]⟩,.int .i64 0] 54 (0,0))):=(B1.out.block _ hsz).trans HC0.out
 have HB1:=Hd (bcomp HB0.out B1.out)
 clear HI HC0
 rcases hcase with ⟨rfl,rfl⟩|⟨i,x,rfl,hi,rfl⟩
 ·have c0:=row_of HC1.out 0 (.string ⟨#[]⟩) rfl
  have c1:=row_of HC1.out 1 (.int .i64 0) rfl
  go_wp2_with (refine wpList_store_row rfl 54 (.tmp 4) (.tmp 12) rfl w.heap.size #[.string ⟨#[]⟩,.int .i64 0] rfl rfl 54 #[.string ⟨#[]⟩,.int .i64 0] ?h1 (by as_aux_lemma=>kernel_rfl) (by as_aux_lemma=>kernel_rfl) (by as_aux_lemma=>kernel_rfl) ?_;exact HC1.out)
  refine bodyPost_ret (v:=.tuple #[.agg #[.string ⟨#[]⟩,.int .i64 0],.bool false]) ?_ rfl ⟨⟨⟨#[]⟩,0⟩,rfl,rfl,below_row HB1.out (nR _) _⟩
  exact results_cell_two (P:=Tryz.prog) (fn:=Tryz.f56) rfl _ _ w.heap.size 54 #[.string ⟨#[]⟩,.int .i64 0] (0,0) _ rfl (setRow_heap _ _ _ _ _ _ HC1.out) Tryz.underlying54 rfl (by as_aux_lemma=>kernel_rfl)
 ·obtain ⟨b,o,rfl,_,c0,c1,_⟩:=atBind (HR.out.keep HB1.out) hi
  have hil:i<l.length:=(lE hi).1
  clear hi
  have hi0:¬ (((0+i:Nat):Int)<0):=by omega
  simp only [Nat.zero_add] at hi0 ⊢
  go_wp2_with (refine wpList_store_row rfl 54 (.tmp 4) (.tmp 16) rfl w.heap.size #[.string x.name,.int .i64 x.level] rfl rfl 54 #[.string ⟨#[]⟩,.int .i64 0] ?h2 (by as_aux_lemma=>kernel_rfl) (by as_aux_lemma=>kernel_rfl) (by as_aux_lemma=>kernel_rfl) ?_;exact HC1.out)
  refine bodyPost_ret (v:=.tuple #[.agg #[.string x.name,.int .i64 x.level],.bool true]) ?_ rfl ⟨x,rfl,rfl,below_row HB1.out (nR _) _⟩
  exact results_cell_two (P:=Tryz.prog) (fn:=Tryz.f56) rfl _ _ w.heap.size 54 #[.string x.name,.int .i64 x.level] (0,0) _ rfl (setRow_heap _ _ _ _ _ _ HC1.out) Tryz.underlying54 rfl (by as_aux_lemma=>kernel_rfl)
theorem level_any (v:Value) (l:List BindD) (s:ByteArray) (w:World) (h:RdRow kBind none w v l) :
  Calls Tryz.prog 27 #[v,.string s] w fun e w'=>e=.returned (.tuple #[.int .i64 ((levelOf l s).getD 0),.bool (levelOf l s).isSome])/\Below w.heap.size w w':=by
 obtain ⟨a,cp,rfl⟩:=h.is
 have hl:l.length * 24<=140737488351232:=h.size
 have HB0:=Hd ((bR w.heap.size w).alloc (nR _) (.cells #[.string s] 9))
 have HC0:=Hd (heap_alloc_new w (.cells #[.string s] 9))
 have hmf:∀ (fn:Fn) (first cap:Array Value) (w:World),(Instr.makeFunc fn first cap).run Tryz.prog w=.ok (.func fn first cap) w:=fun _ _ _ _=>rfl
 have HR:=Hd h
 clear h
 obtain ⟨V,hV⟩:∃ V,levelOf l s=V:=⟨_,rfl⟩
 rw [hV]
 have HV:=Hd hV
 clear hV
 go_enter Tryz.func27,Tryz.ntmps27
 go_upto_region 1 with fail
 generalize w.alloc (.cells #[.string s] 9)=W at *
 have hI:=levelFind _ l s w.heap.size W (HR.out.keep HB0.out) (row_of HC0.out 0 (.string s) rfl)
 rw [HV.out] at hI
 have HI:=Hd hI
 clear HC0 HR hI
 go_upto_region 2 with (first|(go_at_call 56;refine HI.out.mono ?_;rintro e z1 ⟨x,rfl,HX,hz⟩;have B1:=Hd (bcomp HB0.out hz);have HZN:=Hd (heap_alloc_new z1 (.cells #[.string ⟨#[]⟩,.int .i64 0] 54));clear hz)|(refine wpList_store_row rfl 54 (.tmp 6) (.tmp 12) rfl z1.heap.size #[.string x.name,.int .i64 x.level] rfl rfl 54 #[.string ⟨#[]⟩,.int .i64 0] ?h3 (by as_aux_lemma=>kernel_rfl) (by as_aux_lemma=>kernel_rfl) (by as_aux_lemma=>kernel_rfl) ?_;exact HZN.out))
 have HB2:=Hd (below_row (B1.out.alloc (by have:=B1.out.size;omega) (.cells #[.string ⟨#[]⟩,.int .i64 0] 54)) (show w.heap.size<=z1.heap.size by have:=B1.out.size;omega) #[.string x.name,.int .i64 x.level])
 have HC2:Hid (((z1.alloc (.cells #[.string ⟨#[]⟩,.int .i64 0] 54)).setRow z1.heap.size #[.string x.name,.int .i64 x.level]).heap[z1.heap.size]?=some (.cells #[.string x.name,.int .i64 x.level] 54 (0,0))):=setRow_heap _ _ _ _ _ _ HZN.out
 try simp only [Act.put]
 generalize (z1.alloc (.cells #[.string ⟨#[]⟩,.int .i64 0] 54)).setRow z1.heap.size #[.string x.name,.int .i64 x.level]=W2 at *
 have c1:=row_of HC2.out 1 (.int .i64 x.level) rfl
 have HX2:=HX.out
 clear HC2 HZN B1 HI
 go_wp2_with fail
 go_ret2
 exact ⟨by rw [<- HX2];rfl,HB2.out⟩
open Go.ChangeShapes Go.WideShapes Go.ChangeAt Go.RowKit
theorem digitM (c:Int) (w:World):Calls Tryz.prog 86 #[.int .u8 c] w fun e w'=>e=.returned (.bool (isDig c))/\w=w':=by
 unfold isDig
 by_cases h1:48<=c
 ·by_cases h2:c<=57
  all_goals
   go_enter Tryz.func86,Tryz.ntmps86
   go_wp2
   go_ret
   exact ⟨by simp [h1,h2],rfl⟩
 ·go_enter Tryz.func86,Tryz.ntmps86
  go_wp2
  go_ret
  exact ⟨by simp [h1];omega,rfl⟩
theorem tokName_anyM (s:ByteArray) (w:World) (hs:s.size<=maxLen) :
  Calls Tryz.prog 52 #[.string s] w fun e w'=>e=.returned (.bool (tokName s))/\Below w.heap.size w w':=by
 unfold maxLen at hs
 by_cases h0:s.size=0
 ·have ht:Hid (tokName s=false):=by show _=_;simp [tokName,h0]
  have he:s.toList=[]:=by rw [ByteArray.toList_eq,show s.data=#[] from Array.eq_empty_of_size_eq_zero h0]
  go_enter Tryz.func52,Tryz.ntmps52
  go_wp2
  go_ret
  exact ⟨by rw [ht.out];rfl,bR _ _⟩
 have hpos:0<s.size:=by omega
 have he:s.toList.isEmpty=false:=by
  rw [ByteArray.toList_eq];have:0<s.data.size:=hpos
  simp;intro h;simp [h] at this
 by_cases h1:32<s.size
 ·have ht:Hid (tokName s=false):=by show _=_;simp [tokName];omega
  go_enter Tryz.func52,Tryz.ntmps52
  go_wp2
  go_ret
  exact ⟨by rw [ht.out];rfl,bR _ _⟩
 have hhead:s.data.toList.headD 0=s[0]:=by
  have:0<s.data.toList.length:=by simpa using hpos
  cases hl:s.data.toList with
  | nil=>rw [hl] at this;simp at this
  | cons a r=>
   show a=s.data[0]
   rw [<- Array.getElem_toList];simp [hl]
 cases h2:isDig (s[0].toNat:Int)
 ·obtain ⟨cap,W1,hcv,hcell,hbel⟩:=bytesOf w s
  have ht:Hid ((s.data.toList.all fun c=>okc (c.toNat:Int))=tokName s):=by
   show _=_
   unfold tokName;rw [hhead,h2];simp [show 1<=s.size from hpos,show s.size<=32 from by omega]
  have HC:=Hd hcell
  have HB:=Hd hbel
  clear hcell hbel hhead
  go_enter Tryz.func52,Tryz.ntmps52
  go_wp2_with (go_at_call 86;refine (digitM _ _).mono ?_;rintro e w' ⟨rfl,rfl⟩)
  go_loop [4,20] (fun _ i=>∃ k:Nat,k<=s.size/\i=.int .i64 k/\Hid (∀ j (h:j<s.size),j<k->okc (s[j].toNat:Int)=true)) (fun _ i=>s.size - (intOf i).toNat)
  case atStart=>exact ⟨0,Nat.zero_le _,rfl,fun j _ h=>by omega⟩
  case round=>
   obtain ⟨k,hk,rfl,hq⟩:=hrel
   by_cases hlt:k<s.size
   ·have hc:=HC.out k hlt
    have hu:(s[k].toNat:Int)<256:=by have:=s[k].toNat_lt;omega
    cases ho:okc (s[k].toNat:Int)
    ·have HO:=Hd ho
     obtain ⟨o1,o2,o3,o4⟩:=okc_false _ ho
     have o5:((s[k].toNat:Int) != 95)=true:=by rw [bne,o2];rfl
     clear ho
     rcases o3 with o3|o3 <;> rcases o4 with o4|o4 <;> first|(exfalso;omega)|skip
     all_goals
      go_wp2_with (go_at_call 86;refine (digitM _ _).mono ?_;rintro e w' ⟨rfl,rfl⟩)
      go_ret
      refine ⟨?_,HB.out⟩
      rw [<- ht.out,show (s.data.toList.all fun c=>okc (c.toNat:Int))=false from ?_]
      ·rfl
      ·rw [List.all_eq_false]
       exact ⟨s[k],by show s.data[k] ∈ _;simp,by rw [HO.out];simp⟩
    ·have HO:=Hd ho
     rcases okc_true _ ho with o1|⟨o1,o2⟩|⟨o1,o2,o3,o4⟩|⟨o1,o2,o3,o4⟩
     ·clear ho
      go_wp2_with (go_at_call 86;refine (digitM _ _).mono ?_;rintro e w' ⟨rfl,rfl⟩)
      go_round
      case rel=>
       refine ⟨k+1,by omega,by go_num,fun j hj hjk=>?_⟩
       rcases Nat.lt_or_ge j k with h|h
       ·exact hq.out j hj h
       ·obtain rfl:j=k:=by omega
        exact HO.out
      case measure=>simp [intOf];omega
     ·have o5:((s[k].toNat:Int) != 95)=false:=by rw [bne,o2];rfl
      clear ho
      go_wp2_with (go_at_call 86;refine (digitM _ _).mono ?_;rintro e w' ⟨rfl,rfl⟩)
      go_round
      case rel=>
       refine ⟨k+1,by omega,by go_num,fun j hj hjk=>?_⟩
       rcases Nat.lt_or_ge j k with h|h
       ·exact hq.out j hj h
       ·obtain rfl:j=k:=by omega
        exact HO.out
      case measure=>simp [intOf];omega
     all_goals
      have o5:((s[k].toNat:Int) != 95)=true:=by rw [bne,o2];rfl
      clear ho
      go_wp2_with (go_at_call 86;refine (digitM _ _).mono ?_;rintro e w' ⟨rfl,rfl⟩)
      go_round
      case rel=>
       refine ⟨k+1,by omega,by go_num,fun j hj hjk=>?_⟩
       rcases Nat.lt_or_ge j k with h|h
       ·exact hq.out j hj h
       ·obtain rfl:j=k:=by omega
        exact HO.out
      case measure=>simp [intOf];omega
   ·obtain rfl:k=s.size:=by omega
    go_wp2
    go_ret
    refine ⟨?_,HB.out⟩
    rw [<- ht.out,show (s.data.toList.all fun c=>okc (c.toNat:Int))=true from ?_]
    ·rfl
    ·rw [List.all_eq_true]
     intro c hc
     obtain ⟨j,hj,he⟩:=List.getElem_of_mem hc
     have hj':j<s.size:=by simpa using hj
     have:=hq.out j hj' hj'
     have e2:s[j]'hj'=c:=by rw [<- he];show s.data[j]=_;rw [<- Array.getElem_toList]
     rw [<- e2];exact this
 ·have ht:Hid (tokName s=false):=by show _=_;unfold tokName;rw [hhead,h2];simp
  go_enter Tryz.func52,Tryz.ntmps52
  go_wp2_with (go_at_call 86;refine (digitM _ _).mono ?_;rintro e w' ⟨rfl,rfl⟩)
  go_ret
  exact ⟨by rw [ht.out];rfl,bR _ _⟩
open Go.ChangeShapes Go.WideShapes Go.ChangeAt Go.RowKit
open Go.ChangeShapes Go.WideShapes Go.ChangeAt Go.RowKit
theorem bindsAt_step (n:Int) (l:List BindD) (k:Nat) (x:BindD) (h:l[k]?=some x) :
  bindsAt n ((l.take k).map BindD.name) (l.drop k)=if tokName x.name=false then 4 else if hasS x.name ((l.take k).map BindD.name) then 8 else if x.level<0 \/ n<=x.level then 3 else bindsAt n ((l.take (k+1)).map BindD.name) (l.drop (k+1)):=by
 obtain ⟨hlt,he⟩:=lE h
 have:l.drop k=x :: l.drop (k+1):=by rw [List.drop_eq_getElem_cons hlt,he]
 have e2:(l.take (k+1)).map BindD.name=(l.take k).map BindD.name ++ [x.name]:=by rw [List.take_add_one,h];simp
 rw [this,bindsAt,e2]
theorem wordsErr_step (l:List ByteArray) (k:Nat) (x:ByteArray) (h:l[k]?=some x) :
  wordsErr (l.take k) (l.drop k)=if tokName x=false then 4 else if hasS x (l.take k) then 8 else wordsErr (l.take (k+1)) (l.drop (k+1)):=by
 obtain ⟨hlt,he⟩:=lE h
 have:l.drop k=x :: l.drop (k+1):=by rw [List.drop_eq_getElem_cons hlt,he]
 have e2:l.take (k+1)=l.take k ++ [x]:=by rw [List.take_add_one,h];simp
 rw [this,wordsErr,e2]
theorem binds_any (n:Int) (v:Value) (l:List BindD) (w:World) (hn:InI64 n) (h:RdRow kBind none w v l) :
  Calls Tryz.prog 55 #[v,.int .i64 n] w fun e w'=>e=.returned (.int .i64 (bindsErr n l))/\Below w.heap.size w w':=by
 obtain ⟨a,cp,rfl⟩:=h.is
 have hl:l.length * 24<=140737488351232:=h.size
 have hcap:l.length<=cp:=by obtain ⟨a',c',e,hl,_⟩:=h;simp only [Value.slice.injEq] at e;obtain ⟨_,_,rfl⟩:=e;exact hl.2
 have HR:=Hd h
 clear h
 have hmf:∀ (fn:Fn) (first cap:Array Value) (w:World),(Instr.makeFunc fn first cap).run Tryz.prog w=.ok (.func fn first cap) w:=fun _ _ _ _=>rfl
 obtain ⟨E,hE⟩:∃ E,bindsErr n l=E:=⟨_,rfl⟩
 rw [hE]
 have HE:=Hd hE
 clear hE
 obtain ⟨hn1,hn2⟩:=hn
 go_enter Tryz.func55,Tryz.ntmps55
 by_cases g:32<l.length
 ·obtain rfl:E=5:=by rw [<- HE.out,bindsErr,if_pos g]
  have g1:(32:Int)<l.length:=by omega
  go_wp2_with fail
  go_ret
  exact ⟨rfl,bR _ _⟩
 have g1:¬ (32:Int)<l.length:=by omega
 have HQ0:Hid (E=bindsAt n [] l):=by show E=_;rw [<- HE.out,bindsErr,if_neg g]
 clear HE g
 go_wp2_with fail
 go_loopw [12] (fun i wr=>∃ k:Nat,k<=l.length/\i=.int .i64 k/\Hid (E=bindsAt n ((l.take k).map BindD.name) (l.drop k))/\Below w.heap.size w wr) (fun i _=>l.length - (intOf i).toNat)
 case atStart=>exact ⟨0,Nat.zero_le _,rfl,HQ0.out,bR _ _⟩
 case round=>
  clear HQ0
  obtain ⟨k,hk,rfl,HQ,hb⟩:=hrel
  obtain ⟨w1,rfl⟩:∃ x:World,x=wr:=⟨_,rfl⟩
  have HB:=Hd hb
  clear hb
  by_cases hlt:k<l.length
  ·have hlt1:(k:Int)<l.length:=by omega
   obtain ⟨x,hx⟩:∃ x,l[k]?=some x:=⟨_,lG hlt⟩
   obtain ⟨b,o,rfl,_,c0,c1,hxs,hx1,hx2⟩:=atBind (HR.out.keep HB.out) hx
   have HS:=Hd (HQ.out.trans (bindsAt_step n l k x hx))
   have HTK:=Hd (fun w'=>tokName_anyM x.name w' hxs)
   have HRT:=Hd (HR.out.take k (by omega))
   have hkc:k<=cp:=by omega
   clear hx HQ
   have HAL:=Hd ((HB.out.alloc HB.out.size (.cells #[.string x.name,.int .i64 x.level] 54)))
   have HC0:=Hd (heap_alloc_new w1 (.cells #[.string x.name,.int .i64 x.level] 54))
   go_upto_region 6 with fail
   clear c0 c1
   generalize w1.alloc (.cells #[.string x.name,.int .i64 x.level] 54)=w2 at *
   have hsz2:=(aE HC0.out).1
   have c0:=row_of HC0.out 0 (.string x.name) rfl
   cases ht:tokName x.name
   ·obtain rfl:E=4:=by rw [HS.out,ht];rfl
    rw [ht] at HTK
    go_wp2_with (go_at_call 52;refine (HTK.out _).mono ?_;rintro e z1 ⟨rfl,hz⟩;have B1:=Hd (bcomp HAL.out hz);clear hz)
    go_ret
    exact ⟨rfl,B1.out⟩
   ·rw [ht] at HTK HS
    go_upto_region 8 with (go_at_call 52;refine (HTK.out _).mono ?_;rintro e z1 ⟨rfl,hz⟩;have B1:=Hd hz;clear hz)
    have HC1:Hid (z1.heap[w1.heap.size]?=some (.cells #[.string x.name,.int .i64 x.level] 54 (0,0))):=(B1.out.block _ hsz2).trans HC0.out
    have HB1:=Hd (bcomp HAL.out B1.out)
    have hI:=bindsContains _ (l.take k) x.name w1.heap.size z1 (HRT.out.keep HB1.out) (row_of HC1.out 0 (.string x.name) rfl)
    obtain ⟨V,hV⟩:∃ V,hasS x.name ((l.take k).map BindD.name)=V:=⟨_,rfl⟩
    rw [hV] at hI HS
    have HI:=Hd hI
    clear hI hV c0 HTK HC0
    cases V
    ·go_upto_region 10 with (go_at_call 90;refine HI.out.mono ?_;rintro e z2 ⟨rfl,hz⟩;have B2:=Hd hz;clear hz)
     have hsz3:=(aE HC1.out).1
     have c1:=row_of ((B2.out.block _ hsz3).trans HC1.out) 1 (.int .i64 x.level) rfl
     have HB2:=Hd (bcomp HB1.out B2.out)
     clear HC1 HI
     by_cases t1:x.level<0
     ·obtain rfl:E=3:=by rw [HS.out,if_neg (by simp),if_neg (by simp),if_pos (.inl t1)]
      go_wp2_with fail
      go_ret
      exact ⟨rfl,HB2.out⟩
     by_cases t2:n<=x.level
     ·obtain rfl:E=3:=by rw [HS.out,if_neg (by simp),if_neg (by simp),if_pos (.inr t2)]
      go_wp2_with fail
      go_ret
      exact ⟨rfl,HB2.out⟩
     have HQ2:Hid (E=bindsAt n ((l.take (k+1)).map BindD.name) (l.drop (k+1))):=by
      show E=_
      rw [HS.out,if_neg (by simp),if_neg (by simp),if_neg (by omega)]
     go_wp2_with fail
     go_roundw
     case rel=>exact ⟨k+1,by omega,by go_num,HQ2,HB2.out⟩
     case measure=>simp [intOf];omega
    ·obtain rfl:E=8:=by rw [HS.out,if_neg (by simp),if_pos rfl]
     go_wp2_with (go_at_call 90;refine HI.out.mono ?_;rintro e z2 ⟨rfl,hz⟩;have B2:=Hd (bcomp HB1.out hz);clear hz)
     go_ret
     exact ⟨rfl,B2.out⟩
  ·obtain rfl:k=l.length:=by omega
   have hlt1:¬ (l.length:Int)<l.length:=by omega
   obtain rfl:E=0:=by rw [HQ.out,List.drop_length];rfl
   go_wp2_with fail
   go_ret
   exact ⟨rfl,HB.out⟩
theorem polCheck (q:PolD) (lv ov cv sv:Value) (w:World) (h:RdPol none w q lv ov cv sv) (hT:BitsAt w) :
  Calls Tryz.prog 25 #[polV q lv ov cv sv] w fun e w'=>e=.returned (.int .i64 (polErr q))/\Below w.heap.size w w':=by
 obtain ⟨la,lc,rfl⟩:=h.1.is
 obtain ⟨oa,oc,rfl⟩:=h.2.1.is
 obtain ⟨ca,cc,rfl⟩:=h.2.2.1.is
 obtain ⟨sa,sc,rfl⟩:=h.2.2.2.1.is
 obtain ⟨hs1,hs2⟩:=h.2.2.2.2.1
 obtain ⟨hp1,hp2⟩:=h.2.2.2.2.2.1
 obtain ⟨hd1,hd2⟩:=h.2.2.2.2.2.2.1
 obtain ⟨hc1,hc2⟩:=h.2.2.2.2.2.2.2
 have hl:q.levels.length * 16<=140737488351232:=h.1.size
 have hcap:q.levels.length<=lc:=by obtain ⟨a',c',e,hl,_⟩:=h.1;simp only [Value.slice.injEq] at e;obtain ⟨_,_,rfl⟩:=e;exact hl.2
 obtain ⟨E,hE⟩:∃ E,polErr q=E:=⟨_,rfl⟩
 rw [hE]
 have HE:=Hd hE
 have HR:=Hd h
 have HT:=Hd hT
 clear hE h hT
 have HB0:=Hd ((bR w.heap.size w).alloc (nR _) (.cells #[.slice la q.levels.length lc,.slice oa q.order.length oc,.slice ca q.chans.length cc,.slice sa q.sites.length sc,.bool q.sens,.int .i64 q.steps,.int .i64 q.paths,.int .i64 q.nodes,.int .i64 q.confs] 31))
 have HP0:=Hd (heap_alloc_new w (.cells #[.slice la q.levels.length lc,.slice oa q.order.length oc,.slice ca q.chans.length cc,.slice sa q.sites.length sc,.bool q.sens,.int .i64 q.steps,.int .i64 q.paths,.int .i64 q.nodes,.int .i64 q.confs] 31))
 go_enter Tryz.func25,Tryz.ntmps25
 go_upto_region 1 with fail
 generalize w.alloc (.cells #[.slice la q.levels.length lc,.slice oa q.order.length oc,.slice ca q.chans.length cc,.slice sa q.sites.length sc,.bool q.sens,.int .i64 q.steps,.int .i64 q.paths,.int .i64 q.nodes,.int .i64 q.confs] 31)=W at *
 have HRW:=Hd (HR.out.keep HB0.out)
 have hsz:=(aE HP0.out).1
 clear HR
 have p0:=row_of HP0.out 0 (.slice la q.levels.length lc) rfl
 by_cases g0:q.levels.length=0
 ·obtain rfl:E=4:=by rw [<- HE.out,polErr,if_pos g0]
  have g0':((q.levels.length:Int) == 0)=true:=by simp [g0]
  go_wp2_with fail
  go_ret
  exact ⟨rfl,HB0.out⟩
 have g0':((q.levels.length:Int) == 0)=false:=by simp;exact fun h=>g0 (by rw [h];rfl)
 by_cases g:32<q.levels.length
 ·obtain rfl:E=5:=by rw [<- HE.out,polErr,if_neg g0,if_pos g]
  have g1:(32:Int)<q.levels.length:=by omega
  go_wp2_with fail
  go_ret
  exact ⟨rfl,HB0.out⟩
 have g1:¬ (32:Int)<q.levels.length:=by omega
 have HE1:Hid (E=if wordsErr [] q.levels ≠ 0 then wordsErr [] q.levels else if latErr q.levels.length q.order ≠ 0 then latErr q.levels.length q.order
  else if bindsErr q.levels.length q.chans ≠ 0 then bindsErr q.levels.length q.chans
  else if bindsErr q.levels.length q.sites ≠ 0 then bindsErr q.levels.length q.sites else limErr q):=by
  show E=_;rw [<- HE.out,polErr,if_neg g0,if_neg g]
 clear HE
 go_wp2_with fail
 clear p0
 go_loopw [20] (fun i wr=>∃ k:Nat,k<=q.levels.length/\i=.int .i64 k/\Hid (wordsErr [] q.levels=wordsErr (q.levels.take k) (q.levels.drop k))/\Below W.heap.size W wr) (fun i _=>q.levels.length - (intOf i).toNat)
 case atStart=>exact ⟨0,Nat.zero_le _,rfl,rfl,bR _ _⟩
 case round=>
  obtain ⟨k,hk,rfl,HQ,hb⟩:=hrel
  obtain ⟨w1,rfl⟩:∃ x:World,x=wr:=⟨_,rfl⟩
  have HB:=Hd hb
  clear hb
  have HP1:Hid (w1.heap[w.heap.size]?=some (.cells #[.slice la q.levels.length lc,.slice oa q.order.length oc,.slice ca q.chans.length cc,.slice sa q.sites.length sc,.bool q.sens,.int .i64 q.steps,.int .i64 q.paths,.int .i64 q.nodes,.int .i64 q.confs] 31 (0,0))):=(HB.out.block _ hsz).trans HP0.out
  have HB1:=Hd (bcomp HB0.out HB.out)
  have HR1:=Hd (HRW.out.keep HB.out)
  by_cases hlt:k<q.levels.length
  ·have hlt1:(k:Int)<q.levels.length:=by omega
   obtain ⟨x,hx⟩:∃ x,q.levels[k]?=some x:=⟨_,lG hlt⟩
   obtain ⟨b,o,rfl,_,c0,hxs⟩:=atStr HR1.out.1 hx
   have HS:=Hd (HQ.out.trans (wordsErr_step q.levels k x hx))
   have HTK:=Hd (fun w'=>tokName_anyM x w' hxs)
   have HRT:=Hd (HR1.out.1.take k (by omega))
   have hkc:k<=lc:=by omega
   clear hx HQ
   obtain ⟨V0,hV0⟩:∃ V,wordsErr [] q.levels=V:=⟨_,rfl⟩
   rw [hV0] at HS
   have HV0:=Hd hV0
   clear hV0
   cases ht:tokName x
   ·obtain rfl:V0=4:=by rw [HS.out,ht];rfl
    obtain rfl:E=4:=by rw [HE1.out,HV0.out];rfl
    rw [ht] at HTK
    go_wp2_with (go_at_call 52;refine (HTK.out _).mono ?_;rintro e z1 ⟨rfl,hz⟩;have B1:=Hd (bcomp HB1.out hz);clear hz)
    go_ret
    exact ⟨rfl,B1.out⟩
   ·rw [ht] at HTK HS
    go_upto_region 10 with (go_at_call 52;refine (HTK.out _).mono ?_;rintro e z1 ⟨rfl,hz⟩;have B1:=Hd hz;clear hz)
    have hsz1:=(aE HP1.out).1
    have hp2':z1.heap[w.heap.size]?=some (.cells #[.slice (some ⟨b,o,none⟩) q.levels.length lc,.slice oa q.order.length oc,.slice ca q.chans.length cc,.slice sa q.sites.length sc,.bool q.sens,.int .i64 q.steps,.int .i64 q.paths,.int .i64 q.nodes,.int .i64 q.confs] 31 (0,0)):=(B1.out.block _ hsz1).trans HP1.out
    have p0:=row_of hp2' 0 (.slice (some ⟨b,o,none⟩) q.levels.length lc) rfl
    have HBz:=Hd (bcomp HB.out B1.out)
    have hI:=slicesContainsM _ (q.levels.take k) x z1 (HRT.out.keep B1.out)
    obtain ⟨V,hV⟩:∃ V,hasS x (q.levels.take k)=V:=⟨_,rfl⟩
    rw [hV] at hI HS
    have HI:=Hd hI
    clear hI hV c0 HTK hp2'
    cases V
    ·have HQ2:Hid (wordsErr [] q.levels=wordsErr (q.levels.take (k+1)) (q.levels.drop (k+1))):=by
      show _=_
      rw [HV0.out,HS.out,if_neg (by simp),if_neg (by simp)]
     go_wp2_with (go_at_call 53;refine HI.out.mono ?_;rintro e z2 ⟨rfl,rfl⟩)
     go_roundw
     case rel=>exact ⟨k+1,by omega,by go_num,HQ2,HBz.out⟩
     case measure=>simp [intOf];omega
    ·obtain rfl:V0=8:=by rw [HS.out,if_neg (by simp),if_pos rfl]
     obtain rfl:E=8:=by rw [HE1.out,HV0.out];rfl
     go_wp2_with (go_at_call 53;refine HI.out.mono ?_;rintro e z2 ⟨rfl,rfl⟩)
     go_ret
     exact ⟨rfl,bcomp HB0.out HBz.out⟩
  ·obtain rfl:k=q.levels.length:=by omega
   have hlt1:¬ (q.levels.length:Int)<q.levels.length:=by omega
   have HE2:Hid (E=if latErr q.levels.length q.order ≠ 0 then latErr q.levels.length q.order
    else if bindsErr q.levels.length q.chans ≠ 0 then bindsErr q.levels.length q.chans
    else if bindsErr q.levels.length q.sites ≠ 0 then bindsErr q.levels.length q.sites else limErr q):=by
    have hz:wordsErr [] q.levels=0:=by rw [HQ.out,List.drop_length];rfl
    show E=_
    rw [HE1.out,if_neg (by simp [hz])]
   clear HE1 HQ
   have HLN:=Hd (latNew q.levels.length _ q.order w1 ⟨by omega,by omega⟩ HR1.out.2.1 (HT.out.keep HB1.out))
   obtain ⟨eL,heL⟩:∃ e,latErr q.levels.length q.order=e:=⟨_,rfl⟩
   rw [heL] at HLN HE2
   clear heL
   have p0:=row_of HP1.out 0 (.slice la q.levels.length lc) rfl
   have p1:=row_of HP1.out 1 (.slice oa q.order.length oc) rfl
   have p2:=row_of HP1.out 2 (.slice ca q.chans.length cc) rfl
   have p3:=row_of HP1.out 3 (.slice sa q.sites.length sc) rfl
   have p4:=row_of HP1.out 4 (.bool q.sens) rfl
   have p5:=row_of HP1.out 5 (.int .i64 q.steps) rfl
   have p6:=row_of HP1.out 6 (.int .i64 q.paths) rfl
   have p7:=row_of HP1.out 7 (.int .i64 q.nodes) rfl
   have p8:=row_of HP1.out 8 (.int .i64 q.confs) rfl
   go_upto_region 14 with (go_at_call 54;refine HLN.out.mono ?_;rintro e z1 ⟨vl,rfl,-,hz⟩;have B1:=Hd hz;clear hz)
   have HBz:=Hd (bcomp HB1.out B1.out)
   clear p0 p1 p2 p3 p4 p5 p6 p7 p8 HLN
   by_cases n1:eL=0
   case neg=>
    obtain rfl:E=eL:=by rw [HE2.out,if_pos n1]
    have n1':(E != 0)=true:=by simp [n1]
    go_wp2_with fail
    go_ret
    exact ⟨rfl,HBz.out⟩
   subst n1
   have hsz1:=(aE HP1.out).1
   have HP2:Hid (z1.heap[w.heap.size]?=some (.cells #[.slice la q.levels.length lc,.slice oa q.order.length oc,.slice ca q.chans.length cc,.slice sa q.sites.length sc,.bool q.sens,.int .i64 q.steps,.int .i64 q.paths,.int .i64 q.nodes,.int .i64 q.confs] 31 (0,0))):=(B1.out.block _ hsz1).trans HP1.out
   have HR2:=Hd (HR1.out.keep B1.out)
   have HE3:Hid (E=if bindsErr q.levels.length q.chans ≠ 0 then bindsErr q.levels.length q.chans
    else if bindsErr q.levels.length q.sites ≠ 0 then bindsErr q.levels.length q.sites else limErr q):=by
    show E=_;rw [HE2.out,if_neg (by simp)]
   clear HE2 HR1 HP1 HB1
   have HC1:=Hd (binds_any q.levels.length _ q.chans z1 ⟨by omega,by omega⟩ HR2.out.2.2.1)
   obtain ⟨eC,heC⟩:∃ e,bindsErr q.levels.length q.chans=e:=⟨_,rfl⟩
   rw [heC] at HC1 HE3
   clear heC
   have p0:=row_of HP2.out 0 (.slice la q.levels.length lc) rfl
   have p1:=row_of HP2.out 1 (.slice oa q.order.length oc) rfl
   have p2:=row_of HP2.out 2 (.slice ca q.chans.length cc) rfl
   have p3:=row_of HP2.out 3 (.slice sa q.sites.length sc) rfl
   have p4:=row_of HP2.out 4 (.bool q.sens) rfl
   have p5:=row_of HP2.out 5 (.int .i64 q.steps) rfl
   have p6:=row_of HP2.out 6 (.int .i64 q.paths) rfl
   have p7:=row_of HP2.out 7 (.int .i64 q.nodes) rfl
   have p8:=row_of HP2.out 8 (.int .i64 q.confs) rfl
   go_upto_region 17 with (go_at_call 55;refine HC1.out.mono ?_;rintro e z2 ⟨rfl,hz⟩;have B2:=Hd hz;clear hz)
   have HBz2:=Hd (bcomp HBz.out B2.out)
   clear p0 p1 p2 p3 p4 p5 p6 p7 p8 HC1 HBz
   by_cases n2:eC=0
   case neg=>
    obtain rfl:E=eC:=by rw [HE3.out,if_pos n2]
    have n1':(E != 0)=true:=by simp [n2]
    go_wp2_with fail
    go_ret
    exact ⟨rfl,HBz2.out⟩
   subst n2
   have hsz2:=(aE HP2.out).1
   have HP3:Hid (z2.heap[w.heap.size]?=some (.cells #[.slice la q.levels.length lc,.slice oa q.order.length oc,.slice ca q.chans.length cc,.slice sa q.sites.length sc,.bool q.sens,.int .i64 q.steps,.int .i64 q.paths,.int .i64 q.nodes,.int .i64 q.confs] 31 (0,0))):=(B2.out.block _ hsz2).trans HP2.out
   have HR3:=Hd (HR2.out.keep B2.out)
   have HE4:Hid (E=if bindsErr q.levels.length q.sites ≠ 0 then bindsErr q.levels.length q.sites else limErr q):=by
    show E=_;rw [HE3.out,if_neg (by simp)]
   clear HE3 HR2 HP2
   have HC2:=Hd (binds_any q.levels.length _ q.sites z2 ⟨by omega,by omega⟩ HR3.out.2.2.2.1)
   obtain ⟨eS,heS⟩:∃ e,bindsErr q.levels.length q.sites=e:=⟨_,rfl⟩
   rw [heS] at HC2 HE4
   clear heS
   have p0:=row_of HP3.out 0 (.slice la q.levels.length lc) rfl
   have p1:=row_of HP3.out 1 (.slice oa q.order.length oc) rfl
   have p2:=row_of HP3.out 2 (.slice ca q.chans.length cc) rfl
   have p3:=row_of HP3.out 3 (.slice sa q.sites.length sc) rfl
   have p4:=row_of HP3.out 4 (.bool q.sens) rfl
   have p5:=row_of HP3.out 5 (.int .i64 q.steps) rfl
   have p6:=row_of HP3.out 6 (.int .i64 q.paths) rfl
   have p7:=row_of HP3.out 7 (.int .i64 q.nodes) rfl
   have p8:=row_of HP3.out 8 (.int .i64 q.confs) rfl
   go_upto_region 20 with (go_at_call 55;refine HC2.out.mono ?_;rintro e z3 ⟨rfl,hz⟩;have B3:=Hd hz;clear hz)
   have HBz3:=Hd (bcomp HBz2.out B3.out)
   clear p0 p1 p2 p3 p4 p5 p6 p7 p8 HC2 HBz2
   by_cases n3:eS=0
   case neg=>
    obtain rfl:E=eS:=by rw [HE4.out,if_pos n3]
    have n1':(E != 0)=true:=by simp [n3]
    go_wp2_with fail
    go_ret
    exact ⟨rfl,HBz3.out⟩
   subst n3
   have hsz3:=(aE HP3.out).1
   have hp4:z3.heap[w.heap.size]?=some (.cells #[.slice la q.levels.length lc,.slice oa q.order.length oc,.slice ca q.chans.length cc,.slice sa q.sites.length sc,.bool q.sens,.int .i64 q.steps,.int .i64 q.paths,.int .i64 q.nodes,.int .i64 q.confs] 31 (0,0)):=(B3.out.block _ hsz3).trans HP3.out
   have HE5:Hid (E=limErr q):=by show E=_;rw [HE4.out,if_neg (by simp)]
   have p0:=row_of hp4 0 (.slice la q.levels.length lc) rfl
   have p1:=row_of hp4 1 (.slice oa q.order.length oc) rfl
   have p2:=row_of hp4 2 (.slice ca q.chans.length cc) rfl
   have p3:=row_of hp4 3 (.slice sa q.sites.length sc) rfl
   have p4:=row_of hp4 4 (.bool q.sens) rfl
   have p5:=row_of hp4 5 (.int .i64 q.steps) rfl
   have p6:=row_of hp4 6 (.int .i64 q.paths) rfl
   have p7:=row_of hp4 7 (.int .i64 q.nodes) rfl
   have p8:=row_of hp4 8 (.int .i64 q.confs) rfl
   clear HE4 HR3 HP3 hp4
   by_cases t0:q.steps<1
   ·obtain rfl:E=3:=by rw [HE5.out,limErr,if_pos (by omega)]
    go_wp2_with fail
    go_ret
    exact ⟨rfl,HBz3.out⟩
   by_cases t1:65536<q.steps
   ·obtain rfl:E=3:=by rw [HE5.out,limErr,if_pos (by omega)]
    go_wp2_with fail
    go_ret
    exact ⟨rfl,HBz3.out⟩
   by_cases t2:q.paths<1
   ·obtain rfl:E=3:=by rw [HE5.out,limErr,if_pos (by omega)]
    go_wp2_with fail
    go_ret
    exact ⟨rfl,HBz3.out⟩
   by_cases t3:4096<q.paths
   ·obtain rfl:E=3:=by rw [HE5.out,limErr,if_pos (by omega)]
    go_wp2_with fail
    go_ret
    exact ⟨rfl,HBz3.out⟩
   by_cases t4:q.nodes<0
   ·obtain rfl:E=3:=by rw [HE5.out,limErr,if_pos (by omega)]
    go_wp2_with fail
    go_ret
    exact ⟨rfl,HBz3.out⟩
   by_cases t5:1048576<q.nodes
   ·obtain rfl:E=3:=by rw [HE5.out,limErr,if_pos (by omega)]
    go_wp2_with fail
    go_ret
    exact ⟨rfl,HBz3.out⟩
   by_cases t6:q.confs<0
   ·obtain rfl:E=3:=by rw [HE5.out,limErr,if_pos (by omega)]
    go_wp2_with fail
    go_ret
    exact ⟨rfl,HBz3.out⟩
   by_cases t7:1099511627776<q.confs
   ·obtain rfl:E=3:=by rw [HE5.out,limErr,if_pos (by omega)]
    go_wp2_with fail
    go_ret
    exact ⟨rfl,HBz3.out⟩
   obtain rfl:E=0:=by rw [HE5.out,limErr,if_neg (by omega)]
   go_wp2_with fail
   go_ret
   exact ⟨rfl,HBz3.out⟩
end Go.Proofs.YtgllkgedjplpdaaGreatDoor
