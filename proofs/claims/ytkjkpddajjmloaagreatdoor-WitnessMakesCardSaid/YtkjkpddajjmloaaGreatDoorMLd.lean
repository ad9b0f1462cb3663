/- Contracts of the reference's words: called in whatever memory they return numbers that are equal to those of the program's, modulo 2 to the power of the width, and write nothing that was there. Conditions: the width is one from 1 to 64, the operator one of those with one or two arguments, and as many numbers come in. Contracts of word.Check, Trim, table and Apply: called in whatever memory they return what the functions on numbers say, and write nothing that was there. Conditions: the width is one from 1 to 64, the operator one of those with one or two arguments, and as many numbers come in. What the two package-level tables hold, and which flat programs are valid: plain definitions. No condition. -/
import Derived.Test.YtkjkpddajjmloaaGreatDoorMWd
import Derived.Test.YtkjkpddajjmloaaGreatDoorCalm
import Derived.Test.YtkjkpddajjmloaaGreatDoorMNm
set_option linter.all false
set_option maxRecDepth 1000000
set_option maxHeartbeats 6400000
namespace Go.Proofs.YtkjkpddajjmloaaGreatDoor
open Go.ChangeShapes Go.WideShapes Go.ChangeAt Go.RowKit
theorem pow_in (n:Nat) (h2:n<64):IntKind.u64.wrap (2 ^ n)=(2:Int) ^ n:=by
 have:=pow_lt n h2
 have h0:(0:Int)<2 ^ n:=Int.pow_pos (by decide)
 rw [IntKind.wrap_u64];exact Int.emod_eq_of_lt (by omega) (by omega)
theorem r_check (n:Int) (h1:1≤n) (h2:n≤64) (w:World):Calls Tryz.prog 126 #[.int .i64 n] w fun e w'=>e=.returned (.int .i64 0)∧w=w':=by
 go_enter Tryz.func126,Tryz.ntmps126
 go_wp2
 go_ret
 exact ⟨rfl,rfl⟩
theorem r_trim (n:Nat) (v:Int) (h1:1≤n) (h2:n≤64) (hv:InU64 v) (w:World):Calls Tryz.prog 127 #[.int .i64 n,.int .u64 v] w fun e w'=>e=.returned (.int .u64 (v % 2 ^ n))∧w=w':=by
 obtain ⟨hv0,hv1⟩:=hv
 by_cases hn:n=64
 ·subst hn
  have e:Hid (v % 2 ^ 64=v):=Int.emod_eq_of_lt hv0 hv1
  go_enter Tryz.func127,Tryz.ntmps127
  go_wp2
  go_ret
  exact ⟨by rw [e.out];rfl,rfl⟩
 ·have hb:((n:Int) == 64)=false:=by rw [beq_eq_false_iff_ne];omega
  have hp:=pow_in n (by omega)
  have h0:(0:Int)<2 ^ n:=Int.pow_pos (by decide)
  have hlt:=pow_lt n (by omega)
  clear hn
  go_enter Tryz.func127,Tryz.ntmps127
  go_wp2
  go_ret
  exact ⟨rfl,rfl⟩
theorem refTrim (n:Nat) (v:Int) (h1:1≤n) (h2:n≤64) (hv:InU64 v) (w:World):Calls Tryz.prog 120 #[.int .i64 n,.int .u64 v] w fun e w'=>e=.returned (.tuple #[.int .u64 (v % 2 ^ n),.int .i64 0])∧w=w':=by
 have HM:=Lib.hid (r_trim n v h1 h2 hv)
 clear hv
 go_enter Tryz.func120,Tryz.ntmps120
 go_wp2_with (first|(go_at_call 126;refine (r_check _ (by omega) (by omega) _).mono ?_;rintro e w1 ⟨rfl,rfl⟩)|(go_at_call 127;refine (HM.out _).mono ?_;rintro e w2 ⟨rfl,rfl⟩))
 go_ret2
 exact ⟨rfl,rfl⟩
theorem r_bit (x:Bool) (w:World):Calls Tryz.prog 142 #[.bool x] w fun e w'=>e=.returned (.int .u64 (bitZ x))∧w=w':=by
 cases x
 all_goals
  go_enter Tryz.func142,Tryz.ntmps142
  go_wp2
  go_ret
  exact ⟨rfl,rfl⟩
theorem top_is (n:Nat) (h1:1≤n) (h2:n≤64) (a:Int) (ha0:0≤a) (ha1:a<2 ^ n):(a / 2 ^ (n - 1) == 1)=topZ n a:=by
 obtain ⟨q,e1,e2,q1,q2⟩:=pow_n n h1 h2
 unfold topZ
 rw [e2]
 by_cases hle:q≤a
 ·have h3:=Int.le_ediv_of_mul_le (a:=1) (b:=a) (c:=q) (by omega) (by omega)
  have h4:a / q<2:=Int.ediv_lt_of_lt_mul (by omega) (by omega)
  rw [show a / q=1 by omega,decide_eq_true hle];rfl
 ·rw [show a / q=0 from Int.ediv_eq_zero_of_lt ha0 (by omega),decide_eq_false hle];rfl
theorem r_top (n:Nat) (a:Int) (h1:1≤n) (h2:n≤64) (ha0:0≤a) (ha1:a<2 ^ n) (w:World):Calls Tryz.prog 141 #[.int .i64 n,.int .u64 a] w fun e w'=>e=.returned (.bool (topZ n a))∧w=w':=by
 have hm:=Lib.hid (top_is n h1 h2 a ha0 ha1)
 have ha2:a<18446744073709551616:=by have:=(mod_in n h2 0).2.2;omega
 clear ha1
 go_enter Tryz.func141,Tryz.ntmps141
 go_wp2
 go_ret
 exact ⟨by rw [← hm.out];rfl,rfl⟩
theorem less_is (n:Nat) (h1:1≤n) (h2:n≤64) (a b:Int) (ha0:0≤a) (ha1:a<2 ^ n) (hb0:0≤b) (hb1:b<2 ^ n):(if topZ n a != topZ n b then topZ n a else decide (a<b))=decide (sgnZ n a<sgnZ n b):=by
 obtain ⟨q,e1,e2,q1,q2⟩:=pow_n n h1 h2
 unfold sgnZ
 cases ha:topZ n a <;> cases hb:topZ n b
 ·rfl
 ·have:=of_decide_eq_false ha;have:=of_decide_eq_true hb
  simp;omega
 ·have:=of_decide_eq_true ha;have:=of_decide_eq_false hb
  simp;omega
 ·simp
theorem r_less (n:Nat) (a b:Int) (h1:1≤n) (h2:n≤64) (ha0:0≤a) (ha1:a<2 ^ n) (hb0:0≤b) (hb1:b<2 ^ n) (w:World):Calls Tryz.prog 143 #[.int .i64 n,.int .u64 a,.int .u64 b] w fun e w'=>e=.returned (.bool (decide (sgnZ n a<sgnZ n b)))∧w=w':=by
 have hm:=Lib.hid (less_is n h1 h2 a b ha0 ha1 hb0 hb1)
 have hp:=(mod_in n h2 0).2.2
 have ha2:a<18446744073709551616:=by omega
 have hb2:b<18446744073709551616:=by omega
 have HA:=Lib.hid (r_top n a h1 h2 ha0 ha1)
 have HB:=Lib.hid (r_top n b h1 h2 hb0 hb1)
 clear ha1 hb1 hp
 generalize topZ n a=ta at *
 generalize topZ n b=tb at *
 cases ta <;> cases tb
 all_goals
  go_enter Tryz.func143,Tryz.ntmps143
  go_wp2_with (first|(go_at_call_of 141 (Value.int IntKind.u64 a);refine (HA.out _).mono ?_;rintro e w1 ⟨rfl,rfl⟩)|(go_at_call_of 141 (Value.int IntKind.u64 b);refine (HB.out _).mono ?_;rintro e w2 ⟨rfl,rfl⟩))
  go_ret
  exact ⟨by rw [← hm.out];rfl,rfl⟩
def shF (o:Nat) (n:Nat) (a:Int) (k:Nat):Int:=if o=12 then a * 2 ^ k % 2 ^ n else if o=14∧topZ n a=true then (a - 2 ^ n) / 2 ^ k+2 ^ n else a / 2 ^ k
theorem div_step (s:Int) (k:Nat):s / 2 ^ k / 2=s / 2 ^ (k+1):=by
 rw [Int.pow_succ,Int.ediv_ediv_of_nonneg (show (0:Int)≤2 ^ k from Int.le_of_lt (Int.pow_pos (by decide)))]
theorem sh12 (n:Nat) (h2:n≤64) (a:Int) (k:Nat):IntKind.u64.wrap (2 * shF 12 n a k) % 2 ^ n=shF 12 n a (k+1):=by
 rw [wrap_mod n h2]
 show (2 * (a * 2 ^ k % 2 ^ n)) % 2 ^ n=a * 2 ^ (k+1) % 2 ^ n
 rw [Int.mul_emod,Int.emod_emod,← Int.mul_emod,Int.pow_succ,Int.mul_comm 2,Int.mul_assoc]
theorem sh13 (n:Nat) (a:Int) (k:Nat):shF 13 n a k / 2=shF 13 n a (k+1):=div_step a k
theorem sh14 (n:Nat) (a:Int) (k:Nat) (ht:topZ n a=false):shF 14 n a k / 2=shF 14 n a (k+1):=by
 unfold shF
 rw [if_neg (by decide),if_neg (by rw [ht];simp),if_neg (by decide),if_neg (by rw [ht];simp)]
 exact div_step a k
theorem neg_div (s q:Int) (k:Nat) (h0:-q≤s) (h1:s<0):-q≤s / 2 ^ k∧s / 2 ^ k<0:=by
 have hp:(0:Int)<2 ^ k:=Int.pow_pos (by decide)
 refine ⟨?_,Int.ediv_neg_of_neg_of_pos h1 hp⟩
 refine Int.le_ediv_of_mul_le hp ?_
 have h:1≤(2:Int) ^ k:=by omega
 have:0≤q * (2 ^ k - 1):=Int.mul_nonneg (by omega) (by omega)
 rw [Int.mul_sub] at this
 rw [Int.neg_mul]
 omega
theorem sh14t (n:Nat) (h1:1≤n) (h2:n≤64) (a:Int) (k:Nat) (ha1:a<2 ^ n) (ht:topZ n a=true):shF 14 n a k / 2+2 ^ (n - 1)=shF 14 n a (k+1):=by
 obtain ⟨q,e1,e2,q1,q2⟩:=pow_n n h1 h2
 unfold shF
 rw [if_neg (by decide),if_pos ⟨rfl,ht⟩,if_neg (by decide),if_pos ⟨rfl,ht⟩,e2,← div_step,e1]
 omega
theorem sh_in (o n:Nat) (ho:o=12 ∨ o=13 ∨ o=14) (h1:1≤n) (h2:n≤64) (a:Int) (ha0:0≤a) (ha1:a<2 ^ n) (k:Nat):0≤shF o n a k∧shF o n a k<2 ^ n:=by
 obtain ⟨q,e1,e2,q1,q2⟩:=pow_n n h1 h2
 have hp:(0:Int)<2 ^ k:=Int.pow_pos (by decide)
 unfold shF
 split
 ·exact ⟨(mod_in n h2 _).1,(mod_in n h2 _).2.1⟩
 ·split
  ·rename_i h
   have ht:q≤a:=by rw [← e2];exact of_decide_eq_true h.2
   have:=neg_div (a - 2 ^ n) q k (by omega) (by omega)
   omega
  ·have:=Int.ediv_le_self (2 ^ k) ha0;have:=Int.ediv_nonneg ha0 (Int.le_of_lt hp);omega
theorem small_div (s q:Int) (k:Nat) (h0:-q≤s) (h1:s<q) (hq:q≤2 ^ k):s / 2 ^ k=if s<0 then -1 else 0:=by
 have hp:(0:Int)<2 ^ k:=Int.pow_pos (by decide)
 split
 ·have h3:=Int.ediv_neg_of_neg_of_pos (a:=s) (b:=2 ^ k) (by omega) hp
  have h4:-1≤s / 2 ^ k:=Int.le_ediv_of_mul_le hp (by omega)
  omega
 ·exact Int.ediv_eq_zero_of_lt (by omega) (by omega)
theorem sgn_range (n:Nat) (h1:1≤n) (h2:n≤64) (a:Int) (ha0:0≤a) (ha1:a<2 ^ n):-(2 ^ (n - 1))≤sgnZ n a∧sgnZ n a<2 ^ (n - 1):=by
 obtain ⟨q,e1,e2,q1,q2⟩:=pow_n n h1 h2
 unfold sgnZ topZ
 rw [e2]
 split
 ·rename_i h;have:=of_decide_eq_true h;omega
 ·rename_i h;have:¬ q≤a:=fun h'=>h (decide_eq_true h');omega
theorem sh_end (o n:Nat) (ho:o=12 ∨ o=13 ∨ o=14) (h1:1≤n) (h2:n≤64) (a b:Int) (ha0:0≤a) (ha1:a<2 ^ n) (hb0:0≤b) (k:Nat) (hk1:(k:Int)≤b) (hk2:k≤n) (hk3:¬ ((k:Int)<b∧k<n)):shF o n a k % 2 ^ n=rawZ o n a b % 2 ^ n:=by
 obtain ⟨q,e1,e2,q1,q2⟩:=pow_n n h1 h2
 have hpn:(0:Int)<2 ^ n:=by omega
 rcases ho with rfl|rfl|rfl
 ·show (a * 2 ^ k % 2 ^ n) % 2 ^ n=(if b<n then IntKind.u64.wrap (a * 2 ^ b.toNat) else 0) % 2 ^ n
  rw [Int.emod_emod]
  split
  ·rw [wrap_mod n h2,show b.toNat=k by omega]
  ·rw [show k=n by omega,Int.mul_emod_left];rfl
 ·show a / 2 ^ k % 2 ^ n=(if b<n then a / 2 ^ b.toNat else 0) % 2 ^ n
  split
  ·rw [show b.toNat=k by omega]
  ·rw [show k=n by omega,Int.ediv_eq_zero_of_lt ha0 ha1]
 ·show shF 14 n a k % 2 ^ n=IntKind.u64.wrap (if b≤63 then sgnZ n a / 2 ^ b.toNat else sgnZ n a / 9223372036854775808) % 2 ^ n
  rw [wrap_mod n h2]
  have hsh:shF 14 n a k % 2 ^ n=sgnZ n a / 2 ^ k % 2 ^ n:=by
   unfold shF sgnZ
   rw [if_neg (by decide)]
   cases topZ n a
   ·simp
   ·rw [if_pos ⟨rfl,rfl⟩,if_pos rfl,Int.add_emod_right]
  rw [hsh]
  have hr:=sgn_range n h1 h2 a ha0 ha1
  by_cases hbn:b<n
  ·rw [if_pos (by omega),show b.toNat=k by omega]
  ·have hkn:k=n:=by omega
   subst hkn
   have e1:=small_div _ (2 ^ (k - 1)) k hr.1 hr.2 (ipow_le (by omega))
   by_cases hb63:b≤63
   ·rw [if_pos hb63,e1,small_div _ (2 ^ (k - 1)) b.toNat hr.1 hr.2 (ipow_le (by omega))]
   ·rw [if_neg hb63,e1,show (9223372036854775808:Int)=2 ^ 63 from rfl,small_div _ (2 ^ (k - 1)) 63 hr.1 hr.2 (ipow_le (by omega))]
theorem r_sh12 (n:Nat) (a b:Int) (h1:1≤n) (h2:n≤64) (ha0:0≤a) (ha1:a<2 ^ n) (hb0:0≤b) (hb1:b<2 ^ n) (w:World):Calls Tryz.prog 139 #[.int .u8 12,.int .i64 n,.int .u64 a,.int .u64 b] w fun e w'=>∃ y,e=.returned (.int .u64 y)∧InU64 y∧y % 2 ^ n=rawZ 12 n a b % 2 ^ n∧w=w':=by
 have hp:=(mod_in n h2 0).2.2
 have hb2:b<18446744073709551616:=by omega
 have HI:=Lib.hid (sh_in 12 n (by omega) h1 h2 a ha0 ha1)
 have HE:=Lib.hid (sh_end 12 n (by omega) h1 h2 a b ha0 ha1 hb0)
 have H0:Hid (shF 12 n a 0=a):=by
  show _=_
  unfold shF
  rw [if_pos rfl,Int.pow_zero,Int.mul_one,Int.emod_eq_of_lt ha0 ha1]
 have HS:=Lib.hid (fun k=>sh12 n h2 a k)
 have HT:=Lib.hid (fun v hv=>r_trim n v h1 h2 hv)
 clear ha1 hb1
 go_enter Tryz.func139,Tryz.ntmps139
 go_wp2_with fail
 go_loop [2,10] (fun u i=>∃ (k:Nat) (y:Int),(k:Int)≤b∧k≤n∧i=.int .u64 k∧u=.int .u64 y∧Hid (y=shF 12 n a k)) (fun _ i=>n - (intOf i).toNat)
 case atStart=>exact ⟨0,a,hb0,by omega,rfl,rfl,H0.out.symm⟩
 case round=>
  obtain ⟨k,y,hk1,hk2,rfl,rfl,hy⟩:=hrel
  have hin:0≤y∧y<2 ^ n:=by rw [hy.out];exact HI.out k
  obtain ⟨hy0,hy1⟩:=hin
  have hy2:y<18446744073709551616:=by omega
  have hstep:=HS.out k
  rw [← hy.out] at hstep
  have hnext:=HI.out (k+1)
  rw [← hstep] at hnext
  have HP:=Lib.hid hstep
  have HN:=Lib.hid hnext
  clear hstep hy1 hnext
  by_cases hkb:(k:Int)<b
  ·by_cases hkn:(k:Int)<n
   ·go_wp2_with (go_at_call 127;refine (HT.out _ (by first|exact wrap_in _|(unfold InU64;omega)) _).mono ?_;rintro e w1 ⟨rfl,rfl⟩)
    go_round
    case rel=>exact ⟨k+1,_,by omega,by omega,by go_num,rfl,HP.out⟩
    case measure=>simp [intOf];omega
   ·have HZ:=Lib.hid (HE.out k hk1 hk2 (by omega))
    go_wp2
    go_ret
    exact ⟨_,rfl,⟨hy0,hy2⟩,by rw [hy.out];exact HZ.out,rfl⟩
  ·have HZ:=Lib.hid (HE.out k hk1 hk2 (by omega))
   go_wp2
   go_ret
   exact ⟨_,rfl,⟨hy0,hy2⟩,by rw [hy.out];exact HZ.out,rfl⟩
theorem r_sh13 (n:Nat) (a b:Int) (h1:1≤n) (h2:n≤64) (ha0:0≤a) (ha1:a<2 ^ n) (hb0:0≤b) (hb1:b<2 ^ n) (w:World):Calls Tryz.prog 139 #[.int .u8 13,.int .i64 n,.int .u64 a,.int .u64 b] w fun e w'=>∃ y,e=.returned (.int .u64 y)∧InU64 y∧y % 2 ^ n=rawZ 13 n a b % 2 ^ n∧w=w':=by
 have hp:=(mod_in n h2 0).2.2
 have hb2:b<18446744073709551616:=by omega
 have HI:=Lib.hid (sh_in 13 n (by omega) h1 h2 a ha0 ha1)
 have HE:=Lib.hid (sh_end 13 n (by omega) h1 h2 a b ha0 ha1 hb0)
 have H0:Hid (shF 13 n a 0=a):=by
  show _=_
  unfold shF
  rw [if_neg (by decide),if_neg (by intro h;have:=h.1;omega),Int.pow_zero,Int.ediv_one]
 have HS:=Lib.hid (fun k=>sh13 n a k)
 clear ha1 hb1
 go_enter Tryz.func139,Tryz.ntmps139
 go_wp2_with fail
 go_loop [2,10] (fun u i=>∃ (k:Nat) (y:Int),(k:Int)≤b∧k≤n∧i=.int .u64 k∧u=.int .u64 y∧Hid (y=shF 13 n a k)) (fun _ i=>n - (intOf i).toNat)
 case atStart=>exact ⟨0,a,hb0,by omega,rfl,rfl,H0.out.symm⟩
 case round=>
  obtain ⟨k,y,hk1,hk2,rfl,rfl,hy⟩:=hrel
  have hin:0≤y∧y<2 ^ n:=by rw [hy.out];exact HI.out k
  obtain ⟨hy0,hy1⟩:=hin
  have hy2:y<18446744073709551616:=by omega
  have hstep:=HS.out k
  rw [← hy.out] at hstep
  have hnext:=HI.out (k+1)
  rw [← hstep] at hnext
  have HP:=Lib.hid hstep
  have HN:=Lib.hid hnext
  clear hstep hy1 hnext
  by_cases hkb:(k:Int)<b
  ·by_cases hkn:(k:Int)<n
   ·go_wp2_with fail
    go_round
    case rel=>exact ⟨k+1,_,by omega,by omega,by go_num,rfl,HP.out⟩
    case measure=>simp [intOf];omega
   ·have HZ:=Lib.hid (HE.out k hk1 hk2 (by omega))
    go_wp2
    go_ret
    exact ⟨_,rfl,⟨hy0,hy2⟩,by rw [hy.out];exact HZ.out,rfl⟩
  ·have HZ:=Lib.hid (HE.out k hk1 hk2 (by omega))
   go_wp2
   go_ret
   exact ⟨_,rfl,⟨hy0,hy2⟩,by rw [hy.out];exact HZ.out,rfl⟩
theorem r_sh14f (n:Nat) (a b:Int) (h1:1≤n) (h2:n≤64) (ha0:0≤a) (ha1:a<2 ^ n) (hb0:0≤b) (hb1:b<2 ^ n) (ht:topZ n a=false) (w:World):Calls Tryz.prog 139 #[.int .u8 14,.int .i64 n,.int .u64 a,.int .u64 b] w fun e w'=>∃ y,e=.returned (.int .u64 y)∧InU64 y∧y % 2 ^ n=rawZ 14 n a b % 2 ^ n∧w=w':=by
 have hp:=(mod_in n h2 0).2.2
 have hb2:b<18446744073709551616:=by omega
 have HI:=Lib.hid (sh_in 14 n (by omega) h1 h2 a ha0 ha1)
 have HE:=Lib.hid (sh_end 14 n (by omega) h1 h2 a b ha0 ha1 hb0)
 have H0:Hid (shF 14 n a 0=a):=by
  show _=_
  unfold shF
  rw [if_neg (by decide),if_neg (by rw [ht];simp),Int.pow_zero,Int.ediv_one]
 have HS:=Lib.hid (fun k=>sh14 n a k ht)
 have HTop:=Lib.hid (r_top n a h1 h2 ha0 ha1)
 rw [ht] at HTop
 clear ht ha1 hb1
 go_enter Tryz.func139,Tryz.ntmps139
 go_wp2_with (go_at_call 141;refine (HTop.out _).mono ?_;rintro e w1 ⟨rfl,rfl⟩)
 go_loop [2,10] (fun u i=>∃ (k:Nat) (y:Int),(k:Int)≤b∧k≤n∧i=.int .u64 k∧u=.int .u64 y∧Hid (y=shF 14 n a k)) (fun _ i=>n - (intOf i).toNat)
 case atStart=>exact ⟨0,a,hb0,by omega,rfl,rfl,H0.out.symm⟩
 case round=>
  obtain ⟨k,y,hk1,hk2,rfl,rfl,hy⟩:=hrel
  have hin:0≤y∧y<2 ^ n:=by rw [hy.out];exact HI.out k
  obtain ⟨hy0,hy1⟩:=hin
  have hy2:y<18446744073709551616:=by omega
  have hstep:=HS.out k
  rw [← hy.out] at hstep
  have hnext:=HI.out (k+1)
  rw [← hstep] at hnext
  have HP:=Lib.hid hstep
  have HN:=Lib.hid hnext
  clear hstep hy1 hnext
  by_cases hkb:(k:Int)<b
  ·by_cases hkn:(k:Int)<n
   ·go_wp2_with fail
    go_round
    case rel=>exact ⟨k+1,_,by omega,by omega,by go_num,rfl,HP.out⟩
    case measure=>simp [intOf];omega
   ·have HZ:=Lib.hid (HE.out k hk1 hk2 (by omega))
    go_wp2
    go_ret
    exact ⟨_,rfl,⟨hy0,hy2⟩,by rw [hy.out];exact HZ.out,rfl⟩
  ·have HZ:=Lib.hid (HE.out k hk1 hk2 (by omega))
   go_wp2
   go_ret
   exact ⟨_,rfl,⟨hy0,hy2⟩,by rw [hy.out];exact HZ.out,rfl⟩
theorem r_sh14t (n:Nat) (a b:Int) (h1:1≤n) (h2:n≤64) (ha0:0≤a) (ha1:a<2 ^ n) (hb0:0≤b) (hb1:b<2 ^ n) (ht:topZ n a=true) (w:World):Calls Tryz.prog 139 #[.int .u8 14,.int .i64 n,.int .u64 a,.int .u64 b] w fun e w'=>∃ y,e=.returned (.int .u64 y)∧InU64 y∧y % 2 ^ n=rawZ 14 n a b % 2 ^ n∧w=w':=by
 have hp:=(mod_in n h2 0).2.2
 have hb2:b<18446744073709551616:=by omega
 have HI:=Lib.hid (sh_in 14 n (by omega) h1 h2 a ha0 ha1)
 have HE:=Lib.hid (sh_end 14 n (by omega) h1 h2 a b ha0 ha1 hb0)
 have H0:Hid (shF 14 n a 0=a):=by
  show _=_
  unfold shF
  rw [if_neg (by decide),if_pos ⟨rfl,ht⟩,Int.pow_zero,Int.ediv_one];omega
 have HS:=Lib.hid (fun k=>sh14t n h1 h2 a k ha1 ht)
 have HTop:=Lib.hid (r_top n a h1 h2 ha0 ha1)
 rw [ht] at HTop
 have hq:=pow_n n h1 h2
 have hq2:(2:Int) ^ (n - 1)≤9223372036854775808:=by obtain ⟨q,e1,e2,q1,q2⟩:=hq;omega
 have hq1:(0:Int)<2 ^ (n - 1):=Int.pow_pos (by decide)
 clear hq
 clear ht ha1 hb1
 go_enter Tryz.func139,Tryz.ntmps139
 go_wp2_with (go_at_call 141;refine (HTop.out _).mono ?_;rintro e w1 ⟨rfl,rfl⟩)
 go_loop [2,10] (fun u i=>∃ (k:Nat) (y:Int),(k:Int)≤b∧k≤n∧i=.int .u64 k∧u=.int .u64 y∧Hid (y=shF 14 n a k)) (fun _ i=>n - (intOf i).toNat)
 case atStart=>exact ⟨0,a,hb0,by omega,rfl,rfl,H0.out.symm⟩
 case round=>
  obtain ⟨k,y,hk1,hk2,rfl,rfl,hy⟩:=hrel
  have hin:0≤y∧y<2 ^ n:=by rw [hy.out];exact HI.out k
  obtain ⟨hy0,hy1⟩:=hin
  have hy2:y<18446744073709551616:=by omega
  have hstep:=HS.out k
  rw [← hy.out] at hstep
  have hnext:=HI.out (k+1)
  rw [← hstep] at hnext
  have HP:=Lib.hid hstep
  have HN:=Lib.hid hnext
  clear hstep hy1 hnext
  by_cases hkb:(k:Int)<b
  ·by_cases hkn:(k:Int)<n
   ·go_wp2_with fail
    go_round
    case rel=>exact ⟨k+1,_,by omega,by omega,by go_num,rfl,HP.out⟩
    case measure=>simp [intOf];omega
   ·have HZ:=Lib.hid (HE.out k hk1 hk2 (by omega))
    go_wp2
    go_ret
    exact ⟨_,rfl,⟨hy0,hy2⟩,by rw [hy.out];exact HZ.out,rfl⟩
  ·have HZ:=Lib.hid (HE.out k hk1 hk2 (by omega))
   go_wp2
   go_ret
   exact ⟨_,rfl,⟨hy0,hy2⟩,by rw [hy.out];exact HZ.out,rfl⟩
theorem ones_mod (n:Nat) (h2:n≤64):(18446744073709551615:Int) % 2 ^ n=(2 ^ n - 1) % 2 ^ n:=by
 have:=wrap_mod n h2 (-1)
 rw [show IntKind.u64.wrap (-1)=18446744073709551615 from rfl] at this
 rw [this,show (2:Int) ^ n - 1=-1+2 ^ n from by omega,Int.add_emod_right]
theorem le_is (s t:Int):(!decide (t<s))=decide (s≤t):=by
 by_cases h:t<s
 ·rw [decide_eq_true h,decide_eq_false (by omega)];rfl
 ·rw [decide_eq_false h,decide_eq_true (by omega)];rfl
theorem r_rest7 (n:Nat) (a b:Int) (h1:1≤n) (h2:n≤64) (ha0:0≤a) (ha1:a<2 ^ n) (hb0:0≤b) (hb1:b<2 ^ n) (w:World):Calls Tryz.prog 140 #[.int .u8 7,.int .i64 n,.int .u64 a,.int .u64 b] w fun e w'=>∃ y,e=.returned (.int .u64 y)∧InU64 y∧y % 2 ^ n=rawZ 7 n a b % 2 ^ n∧w=w':=by
 have hp:=(mod_in n h2 0).2.2
 have ha2:a<18446744073709551616:=by omega
 have hb2:b<18446744073709551616:=by omega
 have HW:=Lib.hid (raw_in 7 n (by omega) (by omega) a b h1 h2 ha0 ha1 hb0 hb1)
 have HO:=Lib.hid (ones_mod n h2)
 clear hp ha1 hb1
 by_cases hz:b=0
 ·subst hz
  go_enter Tryz.func140,Tryz.ntmps140
  go_wp2_with fail
  go_ret
  exact ⟨_,rfl,⟨by decide,by decide⟩,HO.out,rfl⟩
 ·have hp:0<b:=by omega
  have e:Hid (rawZ 7 n a b=a / b):=by show _=_;simp only [rawZ];rw [if_neg hz]
  clear hz
  go_enter Tryz.func140,Tryz.ntmps140
  go_wp2_with fail
  go_ret
  exact ⟨_,rfl,by rw [← e.out];exact HW.out,by rw [e.out],rfl⟩
theorem r_rest8 (n:Nat) (a b:Int) (h1:1≤n) (h2:n≤64) (ha0:0≤a) (ha1:a<2 ^ n) (hb0:0≤b) (hb1:b<2 ^ n) (w:World):Calls Tryz.prog 140 #[.int .u8 8,.int .i64 n,.int .u64 a,.int .u64 b] w fun e w'=>∃ y,e=.returned (.int .u64 y)∧InU64 y∧y % 2 ^ n=rawZ 8 n a b % 2 ^ n∧w=w':=by
 have hp:=(mod_in n h2 0).2.2
 have ha2:a<18446744073709551616:=by omega
 have hb2:b<18446744073709551616:=by omega
 have HW:=Lib.hid (raw_in 8 n (by omega) (by omega) a b h1 h2 ha0 ha1 hb0 hb1)
 clear hp ha1 hb1
 by_cases hz:b=0
 ·subst hz
  go_enter Tryz.func140,Tryz.ntmps140
  go_wp2_with fail
  go_ret
  exact ⟨_,rfl,HW.out,rfl,rfl⟩
 ·have hp:0<b:=by omega
  have e:Hid (rawZ 8 n a b=a % b):=by show _=_;simp only [rawZ];rw [if_neg hz]
  clear hz
  go_enter Tryz.func140,Tryz.ntmps140
  go_wp2_with fail
  go_ret
  exact ⟨_,rfl,by rw [← e.out];exact HW.out,by rw [e.out],rfl⟩
theorem r_rest15 (n:Nat) (a b:Int) (h1:1≤n) (h2:n≤64) (ha0:0≤a) (ha1:a<2 ^ n) (hb0:0≤b) (hb1:b<2 ^ n) (w:World):Calls Tryz.prog 140 #[.int .u8 15,.int .i64 n,.int .u64 a,.int .u64 b] w fun e w'=>∃ y,e=.returned (.int .u64 y)∧InU64 y∧y % 2 ^ n=rawZ 15 n a b % 2 ^ n∧w=w':=by
 have hp:=(mod_in n h2 0).2.2
 have ha2:a<18446744073709551616:=by omega
 have hb2:b<18446744073709551616:=by omega
 have HW:=Lib.hid (raw_in 15 n (by omega) (by omega) a b h1 h2 ha0 ha1 hb0 hb1)
 clear hp ha1 hb1
 go_enter Tryz.func140,Tryz.ntmps140
 go_wp2_with (go_at_call 142;refine (r_bit _ _).mono ?_;rintro e w1 ⟨rfl,rfl⟩)
 go_ret
 exact ⟨_,rfl,HW.out,rfl,rfl⟩
theorem r_rest16 (n:Nat) (a b:Int) (h1:1≤n) (h2:n≤64) (ha0:0≤a) (ha1:a<2 ^ n) (hb0:0≤b) (hb1:b<2 ^ n) (w:World):Calls Tryz.prog 140 #[.int .u8 16,.int .i64 n,.int .u64 a,.int .u64 b] w fun e w'=>∃ y,e=.returned (.int .u64 y)∧InU64 y∧y % 2 ^ n=rawZ 16 n a b % 2 ^ n∧w=w':=by
 have hp:=(mod_in n h2 0).2.2
 have ha2:a<18446744073709551616:=by omega
 have hb2:b<18446744073709551616:=by omega
 have HW:=Lib.hid (raw_in 16 n (by omega) (by omega) a b h1 h2 ha0 ha1 hb0 hb1)
 clear hp ha1 hb1
 go_enter Tryz.func140,Tryz.ntmps140
 go_wp2_with (go_at_call 142;refine (r_bit _ _).mono ?_;rintro e w1 ⟨rfl,rfl⟩)
 go_ret
 exact ⟨_,rfl,HW.out,rfl,rfl⟩
theorem r_rest17 (n:Nat) (a b:Int) (h1:1≤n) (h2:n≤64) (ha0:0≤a) (ha1:a<2 ^ n) (hb0:0≤b) (hb1:b<2 ^ n) (w:World):Calls Tryz.prog 140 #[.int .u8 17,.int .i64 n,.int .u64 a,.int .u64 b] w fun e w'=>∃ y,e=.returned (.int .u64 y)∧InU64 y∧y % 2 ^ n=rawZ 17 n a b % 2 ^ n∧w=w':=by
 have hp:=(mod_in n h2 0).2.2
 have ha2:a<18446744073709551616:=by omega
 have hb2:b<18446744073709551616:=by omega
 have HW:=Lib.hid (raw_in 17 n (by omega) (by omega) a b h1 h2 ha0 ha1 hb0 hb1)
 clear hp ha1 hb1
 go_enter Tryz.func140,Tryz.ntmps140
 go_wp2_with (go_at_call 142;refine (r_bit _ _).mono ?_;rintro e w1 ⟨rfl,rfl⟩)
 go_ret
 exact ⟨_,rfl,HW.out,rfl,rfl⟩
theorem r_rest18 (n:Nat) (a b:Int) (h1:1≤n) (h2:n≤64) (ha0:0≤a) (ha1:a<2 ^ n) (hb0:0≤b) (hb1:b<2 ^ n) (w:World):Calls Tryz.prog 140 #[.int .u8 18,.int .i64 n,.int .u64 a,.int .u64 b] w fun e w'=>∃ y,e=.returned (.int .u64 y)∧InU64 y∧y % 2 ^ n=rawZ 18 n a b % 2 ^ n∧w=w':=by
 have hp:=(mod_in n h2 0).2.2
 have ha2:a<18446744073709551616:=by omega
 have hb2:b<18446744073709551616:=by omega
 have HW:=Lib.hid (raw_in 18 n (by omega) (by omega) a b h1 h2 ha0 ha1 hb0 hb1)
 clear hp ha1 hb1
 go_enter Tryz.func140,Tryz.ntmps140
 go_wp2_with (go_at_call 142;refine (r_bit _ _).mono ?_;rintro e w1 ⟨rfl,rfl⟩)
 go_ret
 exact ⟨_,rfl,HW.out,rfl,rfl⟩
theorem r_rest19 (n:Nat) (a b:Int) (h1:1≤n) (h2:n≤64) (ha0:0≤a) (ha1:a<2 ^ n) (hb0:0≤b) (hb1:b<2 ^ n) (w:World):Calls Tryz.prog 140 #[.int .u8 19,.int .i64 n,.int .u64 a,.int .u64 b] w fun e w'=>∃ y,e=.returned (.int .u64 y)∧InU64 y∧y % 2 ^ n=rawZ 19 n a b % 2 ^ n∧w=w':=by
 have hp:=(mod_in n h2 0).2.2
 have ha2:a<18446744073709551616:=by omega
 have hb2:b<18446744073709551616:=by omega
 have HW:=Lib.hid (raw_in 19 n (by omega) (by omega) a b h1 h2 ha0 ha1 hb0 hb1)
 have HL:=Lib.hid (r_less n a b h1 h2 ha0 ha1 hb0 hb1)
 clear hp ha1 hb1
 generalize hd:decide (sgnZ n a<sgnZ n b)=d at *
 have e:Hid (rawZ 19 n a b=bitZ d):=by show bitZ _=_;rw [hd]
 clear hd
 go_enter Tryz.func140,Tryz.ntmps140
 go_wp2_with (first|(go_at_call 143;refine (HL.out _).mono ?_;rintro e w1 ⟨rfl,rfl⟩)|(go_at_call 142;refine (r_bit _ _).mono ?_;rintro e w1 ⟨rfl,rfl⟩))
 go_ret
 exact ⟨_,rfl,by rw [← e.out];exact HW.out,by rw [e.out],rfl⟩
theorem r_rest20 (n:Nat) (a b:Int) (h1:1≤n) (h2:n≤64) (ha0:0≤a) (ha1:a<2 ^ n) (hb0:0≤b) (hb1:b<2 ^ n) (w:World):Calls Tryz.prog 140 #[.int .u8 20,.int .i64 n,.int .u64 a,.int .u64 b] w fun e w'=>∃ y,e=.returned (.int .u64 y)∧InU64 y∧y % 2 ^ n=rawZ 20 n a b % 2 ^ n∧w=w':=by
 have hp:=(mod_in n h2 0).2.2
 have ha2:a<18446744073709551616:=by omega
 have hb2:b<18446744073709551616:=by omega
 have HW:=Lib.hid (raw_in 20 n (by omega) (by omega) a b h1 h2 ha0 ha1 hb0 hb1)
 have HL:=Lib.hid (r_less n b a h1 h2 hb0 hb1 ha0 ha1)
 clear hp ha1 hb1
 have HK:=Lib.hid (le_is (sgnZ n a) (sgnZ n b))
 generalize hd:decide (sgnZ n b<sgnZ n a)=d at *
 have e:Hid (rawZ 20 n a b=bitZ (!d)):=by show bitZ _=_;rw [HK.out]
 clear hd
 go_enter Tryz.func140,Tryz.ntmps140
 go_wp2_with (first|(go_at_call 143;refine (HL.out _).mono ?_;rintro e w1 ⟨rfl,rfl⟩)|(go_at_call 142;refine (r_bit _ _).mono ?_;rintro e w1 ⟨rfl,rfl⟩))
 go_ret
 exact ⟨_,rfl,by rw [← e.out];exact HW.out,by rw [e.out],rfl⟩
theorem r_result2 (n:Nat) (a b:Int) (h1:1≤n) (h2:n≤64) (ha0:0≤a) (ha1:a<2 ^ n) (hb0:0≤b) (hb1:b<2 ^ n) (w:World):Calls Tryz.prog 128 #[.int .u8 2,.int .i64 n,.int .u64 a,.int .u64 b,.int .u64 0] w fun e w'=>∃ y,e=.returned (.int .u64 y)∧InU64 y∧y % 2 ^ n=rawZ 2 n a b % 2 ^ n∧w=w':=by
 have hp:=(mod_in n h2 0).2.2
 have ha2:a<18446744073709551616:=by omega
 have hb2:b<18446744073709551616:=by omega
 have HW:=Lib.hid (raw_in 2 n (by omega) (by omega) a b h1 h2 ha0 ha1 hb0 hb1)
 have HX:=Lib.hid (xor_max a ⟨ha0,ha2⟩)
 clear hp ha1 hb1
 go_enter Tryz.func128,Tryz.ntmps128
 go_wp2_with fail
 go_ret
 refine ⟨18446744073709551615 - a,?_,HW.out,rfl,rfl⟩;rw [← HX.out];rfl
theorem r_result3 (n:Nat) (a b:Int) (h1:1≤n) (h2:n≤64) (ha0:0≤a) (ha1:a<2 ^ n) (hb0:0≤b) (hb1:b<2 ^ n) (w:World):Calls Tryz.prog 128 #[.int .u8 3,.int .i64 n,.int .u64 a,.int .u64 b,.int .u64 0] w fun e w'=>∃ y,e=.returned (.int .u64 y)∧InU64 y∧y % 2 ^ n=rawZ 3 n a b % 2 ^ n∧w=w':=by
 have hp:=(mod_in n h2 0).2.2
 have ha2:a<18446744073709551616:=by omega
 have hb2:b<18446744073709551616:=by omega
 have HW:=Lib.hid (raw_in 3 n (by omega) (by omega) a b h1 h2 ha0 ha1 hb0 hb1)
 clear hp ha1 hb1
 go_enter Tryz.func128,Tryz.ntmps128
 go_wp2_with fail
 go_ret
 exact ⟨_,rfl,HW.out,rfl,rfl⟩
theorem r_result4 (n:Nat) (a b:Int) (h1:1≤n) (h2:n≤64) (ha0:0≤a) (ha1:a<2 ^ n) (hb0:0≤b) (hb1:b<2 ^ n) (w:World):Calls Tryz.prog 128 #[.int .u8 4,.int .i64 n,.int .u64 a,.int .u64 b,.int .u64 0] w fun e w'=>∃ y,e=.returned (.int .u64 y)∧InU64 y∧y % 2 ^ n=rawZ 4 n a b % 2 ^ n∧w=w':=by
 have hp:=(mod_in n h2 0).2.2
 have ha2:a<18446744073709551616:=by omega
 have hb2:b<18446744073709551616:=by omega
 have HW:=Lib.hid (raw_in 4 n (by omega) (by omega) a b h1 h2 ha0 ha1 hb0 hb1)
 clear hp ha1 hb1
 go_enter Tryz.func128,Tryz.ntmps128
 go_wp2_with fail
 go_ret
 exact ⟨_,rfl,HW.out,rfl,rfl⟩
theorem r_result5 (n:Nat) (a b:Int) (h1:1≤n) (h2:n≤64) (ha0:0≤a) (ha1:a<2 ^ n) (hb0:0≤b) (hb1:b<2 ^ n) (w:World):Calls Tryz.prog 128 #[.int .u8 5,.int .i64 n,.int .u64 a,.int .u64 b,.int .u64 0] w fun e w'=>∃ y,e=.returned (.int .u64 y)∧InU64 y∧y % 2 ^ n=rawZ 5 n a b % 2 ^ n∧w=w':=by
 have hp:=(mod_in n h2 0).2.2
 have ha2:a<18446744073709551616:=by omega
 have hb2:b<18446744073709551616:=by omega
 have HW:=Lib.hid (raw_in 5 n (by omega) (by omega) a b h1 h2 ha0 ha1 hb0 hb1)
 clear hp ha1 hb1
 go_enter Tryz.func128,Tryz.ntmps128
 go_wp2_with fail
 go_ret
 exact ⟨_,rfl,HW.out,rfl,rfl⟩
theorem r_result6 (n:Nat) (a b:Int) (h1:1≤n) (h2:n≤64) (ha0:0≤a) (ha1:a<2 ^ n) (hb0:0≤b) (hb1:b<2 ^ n) (w:World):Calls Tryz.prog 128 #[.int .u8 6,.int .i64 n,.int .u64 a,.int .u64 b,.int .u64 0] w fun e w'=>∃ y,e=.returned (.int .u64 y)∧InU64 y∧y % 2 ^ n=rawZ 6 n a b % 2 ^ n∧w=w':=by
 have hp:=(mod_in n h2 0).2.2
 have ha2:a<18446744073709551616:=by omega
 have hb2:b<18446744073709551616:=by omega
 have HW:=Lib.hid (raw_in 6 n (by omega) (by omega) a b h1 h2 ha0 ha1 hb0 hb1)
 clear hp ha1 hb1
 go_enter Tryz.func128,Tryz.ntmps128
 go_wp2_with fail
 go_ret
 exact ⟨_,rfl,HW.out,rfl,rfl⟩
theorem r_result7 (n:Nat) (a b:Int) (h1:1≤n) (h2:n≤64) (ha0:0≤a) (ha1:a<2 ^ n) (hb0:0≤b) (hb1:b<2 ^ n) (w:World):Calls Tryz.prog 128 #[.int .u8 7,.int .i64 n,.int .u64 a,.int .u64 b,.int .u64 0] w fun e w'=>∃ y,e=.returned (.int .u64 y)∧InU64 y∧y % 2 ^ n=rawZ 7 n a b % 2 ^ n∧w=w':=by
 have hp:=(mod_in n h2 0).2.2
 have ha2:a<18446744073709551616:=by omega
 have hb2:b<18446744073709551616:=by omega
 have HW:=Lib.hid (raw_in 7 n (by omega) (by omega) a b h1 h2 ha0 ha1 hb0 hb1)
 have HC:=Lib.hid (r_rest7 n a b h1 h2 ha0 ha1 hb0 hb1)
 clear hp ha1 hb1
 go_enter Tryz.func128,Tryz.ntmps128
 go_wp2_with (go_at_call 140;refine (HC.out _).mono ?_;rintro e w1 ⟨y,rfl,hy1,hy2,rfl⟩)
 go_ret
 exact ⟨_,rfl,hy1,hy2,rfl⟩
theorem r_result8 (n:Nat) (a b:Int) (h1:1≤n) (h2:n≤64) (ha0:0≤a) (ha1:a<2 ^ n) (hb0:0≤b) (hb1:b<2 ^ n) (w:World):Calls Tryz.prog 128 #[.int .u8 8,.int .i64 n,.int .u64 a,.int .u64 b,.int .u64 0] w fun e w'=>∃ y,e=.returned (.int .u64 y)∧InU64 y∧y % 2 ^ n=rawZ 8 n a b % 2 ^ n∧w=w':=by
 have hp:=(mod_in n h2 0).2.2
 have ha2:a<18446744073709551616:=by omega
 have hb2:b<18446744073709551616:=by omega
 have HW:=Lib.hid (raw_in 8 n (by omega) (by omega) a b h1 h2 ha0 ha1 hb0 hb1)
 have HC:=Lib.hid (r_rest8 n a b h1 h2 ha0 ha1 hb0 hb1)
 clear hp ha1 hb1
 go_enter Tryz.func128,Tryz.ntmps128
 go_wp2_with (go_at_call 140;refine (HC.out _).mono ?_;rintro e w1 ⟨y,rfl,hy1,hy2,rfl⟩)
 go_ret
 exact ⟨_,rfl,hy1,hy2,rfl⟩
theorem r_result9 (n:Nat) (a b:Int) (h1:1≤n) (h2:n≤64) (ha0:0≤a) (ha1:a<2 ^ n) (hb0:0≤b) (hb1:b<2 ^ n) (w:World):Calls Tryz.prog 128 #[.int .u8 9,.int .i64 n,.int .u64 a,.int .u64 b,.int .u64 0] w fun e w'=>∃ y,e=.returned (.int .u64 y)∧InU64 y∧y % 2 ^ n=rawZ 9 n a b % 2 ^ n∧w=w':=by
 have hp:=(mod_in n h2 0).2.2
 have ha2:a<18446744073709551616:=by omega
 have hb2:b<18446744073709551616:=by omega
 have HW:=Lib.hid (raw_in 9 n (by omega) (by omega) a b h1 h2 ha0 ha1 hb0 hb1)
 clear hp ha1 hb1
 go_enter Tryz.func128,Tryz.ntmps128
 go_wp2_with fail
 go_ret
 exact ⟨_,rfl,HW.out,rfl,rfl⟩
theorem r_result10 (n:Nat) (a b:Int) (h1:1≤n) (h2:n≤64) (ha0:0≤a) (ha1:a<2 ^ n) (hb0:0≤b) (hb1:b<2 ^ n) (w:World):Calls Tryz.prog 128 #[.int .u8 10,.int .i64 n,.int .u64 a,.int .u64 b,.int .u64 0] w fun e w'=>∃ y,e=.returned (.int .u64 y)∧InU64 y∧y % 2 ^ n=rawZ 10 n a b % 2 ^ n∧w=w':=by
 have hp:=(mod_in n h2 0).2.2
 have ha2:a<18446744073709551616:=by omega
 have hb2:b<18446744073709551616:=by omega
 have HW:=Lib.hid (raw_in 10 n (by omega) (by omega) a b h1 h2 ha0 ha1 hb0 hb1)
 clear hp ha1 hb1
 go_enter Tryz.func128,Tryz.ntmps128
 go_wp2_with fail
 go_ret
 exact ⟨_,rfl,HW.out,rfl,rfl⟩
theorem r_result11 (n:Nat) (a b:Int) (h1:1≤n) (h2:n≤64) (ha0:0≤a) (ha1:a<2 ^ n) (hb0:0≤b) (hb1:b<2 ^ n) (w:World):Calls Tryz.prog 128 #[.int .u8 11,.int .i64 n,.int .u64 a,.int .u64 b,.int .u64 0] w fun e w'=>∃ y,e=.returned (.int .u64 y)∧InU64 y∧y % 2 ^ n=rawZ 11 n a b % 2 ^ n∧w=w':=by
 have hp:=(mod_in n h2 0).2.2
 have ha2:a<18446744073709551616:=by omega
 have hb2:b<18446744073709551616:=by omega
 have HW:=Lib.hid (raw_in 11 n (by omega) (by omega) a b h1 h2 ha0 ha1 hb0 hb1)
 clear hp ha1 hb1
 go_enter Tryz.func128,Tryz.ntmps128
 go_wp2_with fail
 go_ret
 exact ⟨_,rfl,HW.out,rfl,rfl⟩
theorem r_result12 (n:Nat) (a b:Int) (h1:1≤n) (h2:n≤64) (ha0:0≤a) (ha1:a<2 ^ n) (hb0:0≤b) (hb1:b<2 ^ n) (w:World):Calls Tryz.prog 128 #[.int .u8 12,.int .i64 n,.int .u64 a,.int .u64 b,.int .u64 0] w fun e w'=>∃ y,e=.returned (.int .u64 y)∧InU64 y∧y % 2 ^ n=rawZ 12 n a b % 2 ^ n∧w=w':=by
 have hp:=(mod_in n h2 0).2.2
 have ha2:a<18446744073709551616:=by omega
 have hb2:b<18446744073709551616:=by omega
 have HW:=Lib.hid (raw_in 12 n (by omega) (by omega) a b h1 h2 ha0 ha1 hb0 hb1)
 have HC:=Lib.hid (r_sh12 n a b h1 h2 ha0 ha1 hb0 hb1)
 clear hp ha1 hb1
 go_enter Tryz.func128,Tryz.ntmps128
 go_wp2_with (go_at_call 139;refine (HC.out _).mono ?_;rintro e w1 ⟨y,rfl,hy1,hy2,rfl⟩)
 go_ret
 exact ⟨_,rfl,hy1,hy2,rfl⟩
theorem r_result13 (n:Nat) (a b:Int) (h1:1≤n) (h2:n≤64) (ha0:0≤a) (ha1:a<2 ^ n) (hb0:0≤b) (hb1:b<2 ^ n) (w:World):Calls Tryz.prog 128 #[.int .u8 13,.int .i64 n,.int .u64 a,.int .u64 b,.int .u64 0] w fun e w'=>∃ y,e=.returned (.int .u64 y)∧InU64 y∧y % 2 ^ n=rawZ 13 n a b % 2 ^ n∧w=w':=by
 have hp:=(mod_in n h2 0).2.2
 have ha2:a<18446744073709551616:=by omega
 have hb2:b<18446744073709551616:=by omega
 have HW:=Lib.hid (raw_in 13 n (by omega) (by omega) a b h1 h2 ha0 ha1 hb0 hb1)
 have HC:=Lib.hid (r_sh13 n a b h1 h2 ha0 ha1 hb0 hb1)
 clear hp ha1 hb1
 go_enter Tryz.func128,Tryz.ntmps128
 go_wp2_with (go_at_call 139;refine (HC.out _).mono ?_;rintro e w1 ⟨y,rfl,hy1,hy2,rfl⟩)
 go_ret
 exact ⟨_,rfl,hy1,hy2,rfl⟩
theorem r_result14 (n:Nat) (a b:Int) (h1:1≤n) (h2:n≤64) (ha0:0≤a) (ha1:a<2 ^ n) (hb0:0≤b) (hb1:b<2 ^ n) (w:World):Calls Tryz.prog 128 #[.int .u8 14,.int .i64 n,.int .u64 a,.int .u64 b,.int .u64 0] w fun e w'=>∃ y,e=.returned (.int .u64 y)∧InU64 y∧y % 2 ^ n=rawZ 14 n a b % 2 ^ n∧w=w':=by
 have hp:=(mod_in n h2 0).2.2
 have ha2:a<18446744073709551616:=by omega
 have hb2:b<18446744073709551616:=by omega
 have HW:=Lib.hid (raw_in 14 n (by omega) (by omega) a b h1 h2 ha0 ha1 hb0 hb1)
 have HC:Hid (∀ w,Calls Tryz.prog 139 #[.int .u8 14,.int .i64 n,.int .u64 a,.int .u64 b] w fun e w'=>∃ y,e=.returned (.int .u64 y)∧InU64 y∧y % 2 ^ n=rawZ 14 n a b % 2 ^ n∧w=w'):=by
  intro w
  cases ht:topZ n a
  ·exact r_sh14f n a b h1 h2 ha0 ha1 hb0 hb1 ht w
  ·exact r_sh14t n a b h1 h2 ha0 ha1 hb0 hb1 ht w
 clear hp ha1 hb1
 go_enter Tryz.func128,Tryz.ntmps128
 go_wp2_with (go_at_call 139;refine (HC.out _).mono ?_;rintro e w1 ⟨y,rfl,hy1,hy2,rfl⟩)
 go_ret
 exact ⟨_,rfl,hy1,hy2,rfl⟩
theorem r_result15 (n:Nat) (a b:Int) (h1:1≤n) (h2:n≤64) (ha0:0≤a) (ha1:a<2 ^ n) (hb0:0≤b) (hb1:b<2 ^ n) (w:World):Calls Tryz.prog 128 #[.int .u8 15,.int .i64 n,.int .u64 a,.int .u64 b,.int .u64 0] w fun e w'=>∃ y,e=.returned (.int .u64 y)∧InU64 y∧y % 2 ^ n=rawZ 15 n a b % 2 ^ n∧w=w':=by
 have hp:=(mod_in n h2 0).2.2
 have ha2:a<18446744073709551616:=by omega
 have hb2:b<18446744073709551616:=by omega
 have HW:=Lib.hid (raw_in 15 n (by omega) (by omega) a b h1 h2 ha0 ha1 hb0 hb1)
 have HC:=Lib.hid (r_rest15 n a b h1 h2 ha0 ha1 hb0 hb1)
 clear hp ha1 hb1
 go_enter Tryz.func128,Tryz.ntmps128
 go_wp2_with (go_at_call 140;refine (HC.out _).mono ?_;rintro e w1 ⟨y,rfl,hy1,hy2,rfl⟩)
 go_ret
 exact ⟨_,rfl,hy1,hy2,rfl⟩
theorem r_result16 (n:Nat) (a b:Int) (h1:1≤n) (h2:n≤64) (ha0:0≤a) (ha1:a<2 ^ n) (hb0:0≤b) (hb1:b<2 ^ n) (w:World):Calls Tryz.prog 128 #[.int .u8 16,.int .i64 n,.int .u64 a,.int .u64 b,.int .u64 0] w fun e w'=>∃ y,e=.returned (.int .u64 y)∧InU64 y∧y % 2 ^ n=rawZ 16 n a b % 2 ^ n∧w=w':=by
 have hp:=(mod_in n h2 0).2.2
 have ha2:a<18446744073709551616:=by omega
 have hb2:b<18446744073709551616:=by omega
 have HW:=Lib.hid (raw_in 16 n (by omega) (by omega) a b h1 h2 ha0 ha1 hb0 hb1)
 have HC:=Lib.hid (r_rest16 n a b h1 h2 ha0 ha1 hb0 hb1)
 clear hp ha1 hb1
 go_enter Tryz.func128,Tryz.ntmps128
 go_wp2_with (go_at_call 140;refine (HC.out _).mono ?_;rintro e w1 ⟨y,rfl,hy1,hy2,rfl⟩)
 go_ret
 exact ⟨_,rfl,hy1,hy2,rfl⟩
theorem r_result17 (n:Nat) (a b:Int) (h1:1≤n) (h2:n≤64) (ha0:0≤a) (ha1:a<2 ^ n) (hb0:0≤b) (hb1:b<2 ^ n) (w:World):Calls Tryz.prog 128 #[.int .u8 17,.int .i64 n,.int .u64 a,.int .u64 b,.int .u64 0] w fun e w'=>∃ y,e=.returned (.int .u64 y)∧InU64 y∧y % 2 ^ n=rawZ 17 n a b % 2 ^ n∧w=w':=by
 have hp:=(mod_in n h2 0).2.2
 have ha2:a<18446744073709551616:=by omega
 have hb2:b<18446744073709551616:=by omega
 have HW:=Lib.hid (raw_in 17 n (by omega) (by omega) a b h1 h2 ha0 ha1 hb0 hb1)
 have HC:=Lib.hid (r_rest17 n a b h1 h2 ha0 ha1 hb0 hb1)
 clear hp ha1 hb1
 go_enter Tryz.func128,Tryz.ntmps128
 go_wp2_with (go_at_call 140;refine (HC.out _).mono ?_;rintro e w1 ⟨y,rfl,hy1,hy2,rfl⟩)
 go_ret
 exact ⟨_,rfl,hy1,hy2,rfl⟩
theorem r_result18 (n:Nat) (a b:Int) (h1:1≤n) (h2:n≤64) (ha0:0≤a) (ha1:a<2 ^ n) (hb0:0≤b) (hb1:b<2 ^ n) (w:World):Calls Tryz.prog 128 #[.int .u8 18,.int .i64 n,.int .u64 a,.int .u64 b,.int .u64 0] w fun e w'=>∃ y,e=.returned (.int .u64 y)∧InU64 y∧y % 2 ^ n=rawZ 18 n a b % 2 ^ n∧w=w':=by
 have hp:=(mod_in n h2 0).2.2
 have ha2:a<18446744073709551616:=by omega
 have hb2:b<18446744073709551616:=by omega
 have HW:=Lib.hid (raw_in 18 n (by omega) (by omega) a b h1 h2 ha0 ha1 hb0 hb1)
 have HC:=Lib.hid (r_rest18 n a b h1 h2 ha0 ha1 hb0 hb1)
 clear hp ha1 hb1
 go_enter Tryz.func128,Tryz.ntmps128
 go_wp2_with (go_at_call 140;refine (HC.out _).mono ?_;rintro e w1 ⟨y,rfl,hy1,hy2,rfl⟩)
 go_ret
 exact ⟨_,rfl,hy1,hy2,rfl⟩
theorem r_result19 (n:Nat) (a b:Int) (h1:1≤n) (h2:n≤64) (ha0:0≤a) (ha1:a<2 ^ n) (hb0:0≤b) (hb1:b<2 ^ n) (w:World):Calls Tryz.prog 128 #[.int .u8 19,.int .i64 n,.int .u64 a,.int .u64 b,.int .u64 0] w fun e w'=>∃ y,e=.returned (.int .u64 y)∧InU64 y∧y % 2 ^ n=rawZ 19 n a b % 2 ^ n∧w=w':=by
 have hp:=(mod_in n h2 0).2.2
 have ha2:a<18446744073709551616:=by omega
 have hb2:b<18446744073709551616:=by omega
 have HW:=Lib.hid (raw_in 19 n (by omega) (by omega) a b h1 h2 ha0 ha1 hb0 hb1)
 have HC:=Lib.hid (r_rest19 n a b h1 h2 ha0 ha1 hb0 hb1)
 clear hp ha1 hb1
 go_enter Tryz.func128,Tryz.ntmps128
 go_wp2_with (go_at_call 140;refine (HC.out _).mono ?_;rintro e w1 ⟨y,rfl,hy1,hy2,rfl⟩)
 go_ret
 exact ⟨_,rfl,hy1,hy2,rfl⟩
theorem r_result20 (n:Nat) (a b:Int) (h1:1≤n) (h2:n≤64) (ha0:0≤a) (ha1:a<2 ^ n) (hb0:0≤b) (hb1:b<2 ^ n) (w:World):Calls Tryz.prog 128 #[.int .u8 20,.int .i64 n,.int .u64 a,.int .u64 b,.int .u64 0] w fun e w'=>∃ y,e=.returned (.int .u64 y)∧InU64 y∧y % 2 ^ n=rawZ 20 n a b % 2 ^ n∧w=w':=by
 have hp:=(mod_in n h2 0).2.2
 have ha2:a<18446744073709551616:=by omega
 have hb2:b<18446744073709551616:=by omega
 have HW:=Lib.hid (raw_in 20 n (by omega) (by omega) a b h1 h2 ha0 ha1 hb0 hb1)
 have HC:=Lib.hid (r_rest20 n a b h1 h2 ha0 ha1 hb0 hb1)
 clear hp ha1 hb1
 go_enter Tryz.func128,Tryz.ntmps128
 go_wp2_with (go_at_call 140;refine (HC.out _).mono ?_;rintro e w1 ⟨y,rfl,hy1,hy2,rfl⟩)
 go_ret
 exact ⟨_,rfl,hy1,hy2,rfl⟩
theorem r_result (o:Int) (ho0:2≤o) (ho1:o≤20) (n:Nat) (a b:Int) (h1:1≤n) (h2:n≤64) (ha0:0≤a) (ha1:a<2 ^ n) (hb0:0≤b) (hb1:b<2 ^ n) (w:World):Calls Tryz.prog 128 #[.int .u8 o,.int .i64 n,.int .u64 a,.int .u64 b,.int .u64 0] w fun e w'=>∃ y,e=.returned (.int .u64 y)∧InU64 y∧y % 2 ^ n=rawZ o.toNat n a b % 2 ^ n∧w=w':=by
 have hk:o=2 ∨ o=3 ∨ o=4 ∨ o=5 ∨ o=6 ∨ o=7 ∨ o=8 ∨ o=9 ∨ o=10 ∨ o=11 ∨ o=12 ∨ o=13 ∨ o=14 ∨ o=15 ∨ o=16 ∨ o=17 ∨ o=18 ∨ o=19 ∨ o=20:=by omega
 rcases hk with rfl|rfl|rfl|rfl|rfl|rfl|rfl|rfl|rfl|rfl|rfl|rfl|rfl|rfl|rfl|rfl|rfl|rfl|rfl
 ·exact r_result2 n a b h1 h2 ha0 ha1 hb0 hb1 w
 ·exact r_result3 n a b h1 h2 ha0 ha1 hb0 hb1 w
 ·exact r_result4 n a b h1 h2 ha0 ha1 hb0 hb1 w
 ·exact r_result5 n a b h1 h2 ha0 ha1 hb0 hb1 w
 ·exact r_result6 n a b h1 h2 ha0 ha1 hb0 hb1 w
 ·exact r_result7 n a b h1 h2 ha0 ha1 hb0 hb1 w
 ·exact r_result8 n a b h1 h2 ha0 ha1 hb0 hb1 w
 ·exact r_result9 n a b h1 h2 ha0 ha1 hb0 hb1 w
 ·exact r_result10 n a b h1 h2 ha0 ha1 hb0 hb1 w
 ·exact r_result11 n a b h1 h2 ha0 ha1 hb0 hb1 w
 ·exact r_result12 n a b h1 h2 ha0 ha1 hb0 hb1 w
 ·exact r_result13 n a b h1 h2 ha0 ha1 hb0 hb1 w
 ·exact r_result14 n a b h1 h2 ha0 ha1 hb0 hb1 w
 ·exact r_result15 n a b h1 h2 ha0 ha1 hb0 hb1 w
 ·exact r_result16 n a b h1 h2 ha0 ha1 hb0 hb1 w
 ·exact r_result17 n a b h1 h2 ha0 ha1 hb0 hb1 w
 ·exact r_result18 n a b h1 h2 ha0 ha1 hb0 hb1 w
 ·exact r_result19 n a b h1 h2 ha0 ha1 hb0 hb1 w
 ·exact r_result20 n a b h1 h2 ha0 ha1 hb0 hb1 w
theorem refApply1 (o:Int) (n:Nat) (v:Value) (l:List Int) (a b:Int) (w:World) (ho0:2≤o) (ho1:o≤3) (h1:1≤n) (h2:n≤64) (h:RdRow kNum none w v l) (hl:l=[a]) :
  Calls Tryz.prog 94 #[.int .u8 o,.int .i64 n,v] w fun e w'=>e=.returned (.tuple #[.int .u64 (opZ o.toNat n a b),.int .i64 0])∧w=w':=by
 obtain ⟨sa,sc,rfl⟩:=h.is
 have hlen:l.length=1:=by rw [hl];rfl
 obtain ⟨za0,za1,hp⟩:=mod_in n h2 a
 obtain ⟨zb0,zb1,_⟩:=mod_in n h2 b
 obtain ⟨b',o',rfl,_,c0,hu0⟩:=atNum h (i:=0) (x:=a) (by rw [hl];rfl)
 rw [Nat.add_zero] at c0
 have HT1:=Lib.hid (r_trim n a h1 h2 hu0)
 have HC:Hid (∀ w,Calls Tryz.prog 128 #[.int .u8 o,.int .i64 n,.int .u64 (a % 2 ^ n),.int .u64 0,.int .u64 0] w fun e w'=>∃ y,e=.returned (.int .u64 y)∧InU64 y∧y % 2 ^ n=opZ o.toNat n a b∧w=w'):=by
  intro w
  have h3:=r_result o ho0 (by omega) n (a % 2 ^ n) 0 h1 h2 za0 za1 (Int.le_refl 0) (Int.pow_pos (by decide)) w
  have e:rawZ o.toNat n (a % 2 ^ n) 0=rawZ o.toNat n (a % 2 ^ n) (b % 2 ^ n):=by
   have:o=2 ∨ o=3:=by omega
   rcases this with rfl|rfl <;> rfl
  rw [e] at h3
  exact h3
 have ear:arityZ o=1:=by unfold arityZ;rw [if_neg (by omega),if_neg (by omega),if_pos (by omega)]
 have eer:arityErr o=0:=by unfold arityErr;rw [if_neg (by omega)]
 have HAr:Hid (∀ w,Calls Tryz.prog 119 #[.int .u8 o] w fun e w'=>e=.returned (.tuple #[.int .i64 1,.int .i64 0])∧w=w'):=by
  intro w
  have:=refArity o w
  rwa [ear,eer] at this
 have qn:((l.length:Int) != 1)=false:=by rw [hlen];rfl
 have HL:=Lib.hid hlen
 have hl1:1≤l.length:=by omega
 clear ear eer h hl hlen hu0
 generalize opZ o.toNat n a b=res at *
 go_enter Tryz.func94,Tryz.ntmps94
 go_wp2_with (first|(go_at_call 126;refine (r_check _ (by omega) (by omega) _).mono ?_;rintro e w1 ⟨rfl,rfl⟩)|(go_at_call 119;refine (HAr.out _).mono ?_;rintro e w1 ⟨rfl,rfl⟩)|(go_at_call_of 127 (Value.int IntKind.u64 a);refine (HT1.out _).mono ?_;rintro e w1 ⟨rfl,rfl⟩)|(go_at_call 128;refine (HC.out _).mono ?_;rintro e w1 ⟨y,rfl,hy1,hy2,rfl⟩;have HY:=Lib.hid hy2;clear hy2)|(go_at_call 127;refine (r_trim n _ h1 h2 hy1 _).mono ?_;rintro e w1 ⟨rfl,rfl⟩))
 go_ret2
 exact ⟨by rw [← HY.out];rfl,rfl⟩
theorem refApply2 (o:Int) (n:Nat) (v:Value) (l:List Int) (a b:Int) (w:World) (ho0:4≤o) (ho1:o≤20) (h1:1≤n) (h2:n≤64) (h:RdRow kNum none w v l) (hl:l=[a,b]) :
  Calls Tryz.prog 94 #[.int .u8 o,.int .i64 n,v] w fun e w'=>e=.returned (.tuple #[.int .u64 (opZ o.toNat n a b),.int .i64 0])∧w=w':=by
 obtain ⟨sa,sc,rfl⟩:=h.is
 have hlen:l.length=2:=by rw [hl];rfl
 obtain ⟨za0,za1,hp⟩:=mod_in n h2 a
 obtain ⟨zb0,zb1,_⟩:=mod_in n h2 b
 obtain ⟨b',o',rfl,_,c0,hu0⟩:=atNum h (i:=0) (x:=a) (by rw [hl];rfl)
 rw [Nat.add_zero] at c0
 obtain ⟨b2,o2,e2,_,c1,hu1⟩:=atNum h (i:=1) (x:=b) (by rw [hl];rfl)
 simp only [Option.some.injEq,Addr.mk.injEq,and_true] at e2
 obtain ⟨rfl,rfl⟩:=e2
 have HT1:=Lib.hid (r_trim n a h1 h2 hu0)
 have HT2:=Lib.hid (r_trim n b h1 h2 hu1)
 have HC:=Lib.hid (r_result o (by omega) ho1 n (a % 2 ^ n) (b % 2 ^ n) h1 h2 za0 za1 zb0 zb1)
 rw [show rawZ o.toNat n (a % 2 ^ n) (b % 2 ^ n) % 2 ^ n=opZ o.toNat n a b from rfl] at HC
 have ear:arityZ o=2:=by unfold arityZ;rw [if_neg (by omega),if_neg (by omega),if_neg (by omega),if_neg (by omega)]
 have eer:arityErr o=0:=by unfold arityErr;rw [if_neg (by omega)]
 have HAr:Hid (∀ w,Calls Tryz.prog 119 #[.int .u8 o] w fun e w'=>e=.returned (.tuple #[.int .i64 2,.int .i64 0])∧w=w'):=by
  intro w
  have:=refArity o w
  rwa [ear,eer] at this
 have qn:((l.length:Int) != 2)=false:=by rw [hlen];rfl
 have HL:=Lib.hid hlen
 have hl1:2≤l.length:=by omega
 clear ear eer h hl hlen hu0 hu1
 generalize opZ o.toNat n a b=res at *
 go_enter Tryz.func94,Tryz.ntmps94
 go_wp2_with (first|(go_at_call 126;refine (r_check _ (by omega) (by omega) _).mono ?_;rintro e w1 ⟨rfl,rfl⟩)|(go_at_call 119;refine (HAr.out _).mono ?_;rintro e w1 ⟨rfl,rfl⟩)|(go_at_call_of 127 (Value.int IntKind.u64 a);refine (HT1.out _).mono ?_;rintro e w1 ⟨rfl,rfl⟩)|(go_at_call_of 127 (Value.int IntKind.u64 b);refine (HT2.out _).mono ?_;rintro e w1 ⟨rfl,rfl⟩)|(go_at_call 128;refine (HC.out _).mono ?_;rintro e w1 ⟨y,rfl,hy1,hy2,rfl⟩;have HY:=Lib.hid hy2;clear hy2)|(go_at_call 127;refine (r_trim n _ h1 h2 hy1 _).mono ?_;rintro e w1 ⟨rfl,rfl⟩))
 go_ret2
 exact ⟨by rw [← HY.out];rfl,rfl⟩
theorem wordCheck (n:Int) (h1:1≤n) (h2:n≤64) (w:World):Calls Tryz.prog 176 #[.int .i64 n] w fun e w'=>e=.returned (.int .i64 0)∧w=w':=by
 go_enter Tryz.func176,Tryz.ntmps176
 go_wp2
 go_ret
 exact ⟨rfl,rfl⟩
theorem wordTrim (n:Nat) (v:Int) (h1:1≤n) (h2:n≤64) (hv:InU64 v) (w:World):Calls Tryz.prog 174 #[.int .i64 n,.int .u64 v] w fun e w'=>e=.returned (.tuple #[.int .u64 (v % 2 ^ n),.int .i64 0])∧w=w':=by
 have HA:=Lib.hid (and_mask n h1 h2 v hv)
 have HM:=Lib.hid (w_mask n h1 h2)
 clear hv
 go_enter Tryz.func174,Tryz.ntmps174
 go_wp2_with (first|(go_at_call 176;refine (wordCheck _ (by omega) (by omega) _).mono ?_;rintro e w1 ⟨rfl,rfl⟩)|(go_at_call 177;refine (HM.out _).mono ?_;rintro e w2 ⟨rfl,rfl⟩))
 go_ret2
 exact ⟨by rw [← HA.out];rfl,rfl⟩
def tblV:Array Value:=#[.nilFunc,.nilFunc,.nilFunc,.nilFunc,.func (.func 179) #[] #[],.func (.func 180) #[] #[],.func (.func 181) #[] #[],.func (.func 182) #[] #[],.func (.func 183) #[] #[],.func (.func 184) #[] #[],.func (.func 185) #[] #[],.func (.func 186) #[] #[],.func (.func 187) #[] #[],.func (.func 188) #[] #[],.func (.func 189) #[] #[],.func (.func 190) #[] #[],.func (.func 191) #[] #[],.func (.func 192) #[] #[],.func (.func 193) #[] #[],.func (.func 194) #[] #[],.func (.func 195) #[] #[],.nilFunc]
theorem tbl_at (k:Nat) (h0:4≤k) (h1:k≤20):tblV[k]?=some (.func (.func (fOf k)) #[] #[]):=by
 have hk:k=4 ∨ k=5 ∨ k=6 ∨ k=7 ∨ k=8 ∨ k=9 ∨ k=10 ∨ k=11 ∨ k=12 ∨ k=13 ∨ k=14 ∨ k=15 ∨ k=16 ∨ k=17 ∨ k=18 ∨ k=19 ∨ k=20:=by omega
 rcases hk with rfl|rfl|rfl|rfl|rfl|rfl|rfl|rfl|rfl|rfl|rfl|rfl|rfl|rfl|rfl|rfl|rfl <;> rfl
theorem call_of (k:Nat) (h0:4≤k) (h1:k≤20) (args:Array Value) (w:World):(callFunc (fOf k) args).run Tryz.prog w=.ok (.enter (fOf k) args) w:=by
 have hk:k=4 ∨ k=5 ∨ k=6 ∨ k=7 ∨ k=8 ∨ k=9 ∨ k=10 ∨ k=11 ∨ k=12 ∨ k=13 ∨ k=14 ∨ k=15 ∨ k=16 ∨ k=17 ∨ k=18 ∨ k=19 ∨ k=20:=by omega
 rcases hk with rfl|rfl|rfl|rfl|rfl|rfl|rfl|rfl|rfl|rfl|rfl|rfl|rfl|rfl|rfl|rfl|rfl
 ·exact Tryz.call179 args w
 ·exact Tryz.call180 args w
 ·exact Tryz.call181 args w
 ·exact Tryz.call182 args w
 ·exact Tryz.call183 args w
 ·exact Tryz.call184 args w
 ·exact Tryz.call185 args w
 ·exact Tryz.call186 args w
 ·exact Tryz.call187 args w
 ·exact Tryz.call188 args w
 ·exact Tryz.call189 args w
 ·exact Tryz.call190 args w
 ·exact Tryz.call191 args w
 ·exact Tryz.call192 args w
 ·exact Tryz.call193 args w
 ·exact Tryz.call194 args w
 ·exact Tryz.call195 args w
def nilT:Array Value:=#[.nilFunc,.nilFunc,.nilFunc,.nilFunc,.nilFunc,.nilFunc,.nilFunc,.nilFunc,.nilFunc,.nilFunc,.nilFunc,.nilFunc,.nilFunc,.nilFunc,.nilFunc,.nilFunc,.nilFunc,.nilFunc,.nilFunc,.nilFunc,.nilFunc,.nilFunc]
theorem wordTable (w:World):Calls Tryz.prog 178 #[] w fun e w'=>e=.returned (.agg tblV)∧Below w.heap.size w w':=by
 have H0:Hid ((w.alloc (.cells nilT 236)).heap[w.heap.size]?=some (.cells nilT 236 (0,0))):=heap_alloc_new _ _
 go_enter Tryz.func178,Tryz.ntmps178
 go_wp2_with (refine wpList_store_row rfl 236 (.tmp 0) (.tmp 18) rfl w.heap.size tblV rfl rfl 236 nilT ?h2 (by as_aux_lemma=>kernel_rfl) (by as_aux_lemma=>kernel_rfl) (by as_aux_lemma=>kernel_rfl) ?_;exact H0.out)
 refine bodyPost_ret (v:=.agg tblV) ?_ rfl ⟨rfl,?_⟩
 ·exact results_cell_row (P:=Tryz.prog) (fn:=Tryz.f178) rfl _ _ w.heap.size 236 tblV (0,0) _ rfl (setRow_heap _ _ _ _ _ _ H0.out) Tryz.underlying236 rfl (by as_aux_lemma=>kernel_rfl)
 ·exact below_row ((Below.refl _ _).alloc (Nat.le_refl _) _) (Nat.le_refl _) _
theorem idxRow (k:IntKind) (a:Int) (h0:0≤a) (h1:a<22) (cs:Array Value) (v:Value) (hv:cs[a.toNat]?=some v) (hsz:cs.size=22) (w:World):(Instr.index 236 (.agg cs) (.int k a)).run Tryz.prog w=.ok (.agg #[v]) w:=by
 obtain ⟨i,hi,hz,hs,hb⟩:=info_parts (P:=Tryz.prog) (e:=235) (z:=.agg #[.nilFunc]) (size:=1) (bytes:=8) (by kernel_rfl)
 have hag:(isAgg 235).run Tryz.prog w=.ok true w:=by
  unfold isAgg
  rw [Sem.run_bind,run_underlying Tryz.underlying235 w]
  simp
 have hx:cs.extract (a.toNat) (a.toNat+1)=#[v]:=by
  obtain ⟨hl,he⟩:=Array.getElem?_eq_some_iff.1 hv
  rw [← he]
  apply Array.ext
  ·simp;omega
  ·intro i h1 h2
   simp at h2
   subst h2
   simp
 simp [Instr.index,asIntOf,Sem.run_bind,run_underlying Tryz.underlying236,h0,h1,part,hag,sizeOf,typeInfo,hi,hs,hv]
 exact hx
theorem fieldRow (v:Value) (w:World):(Instr.field 235 (.agg #[v]) 0).run Tryz.prog w=.ok v w:=by
 obtain ⟨i,hi,hz,hs,hb⟩:=info_parts (P:=Tryz.prog) (e:=233) (z:=.nilFunc) (size:=1) (bytes:=8) (by kernel_rfl)
 have hag:(isAgg 233).run Tryz.prog w=.ok false w:=by
  unfold isAgg
  rw [Sem.run_bind,run_underlying Tryz.underlying233 w]
  simp
 simp [Instr.field,asAgg,Sem.run_bind,run_underlying Tryz.underlying235,part,hag,sizeOf,typeInfo,hi,hs]
def celF (n:Nat) (l:List Int) (k:Nat):Array Value:=#[.int .u64 (if 0<k then l.getD 0 0 % 2 ^ n else 0),.int .u64 (if 1<k then l.getD 1 0 % 2 ^ n else 0),.int .u64 0]
theorem celF_step (n:Nat) (l:List Int) (k:Nat) (x:Int) (hk:k<2) (hx:l[k]?=some x):(celF n l k).setIfInBounds k (.int .u64 (x % 2 ^ n))=celF n l (k+1):=by
 have:k=0 ∨ k=1:=by omega
 rcases this with rfl|rfl
 ·simp [celF,hx]
 ·simp [celF,hx]
theorem celF_two (n:Nat) (l:List Int) (a b:Int) (h:l=[a,b]):celF n l 2=#[.int .u64 (a % 2 ^ n),.int .u64 (b % 2 ^ n),.int .u64 0]:=by subst h;rfl
theorem celF_one (n:Nat) (l:List Int) (a:Int) (h:l=[a]):celF n l 1=#[.int .u64 (a % 2 ^ n),.int .u64 0,.int .u64 0]:=by subst h;rfl
theorem celF_get (n:Nat) (l:List Int) (k:Nat) (hk:k<2):∃ y,(celF n l k)[k]?=some (.int .u64 y):=by
 have:k=0 ∨ k=1:=by omega
 rcases this with rfl|rfl <;> simp [celF]
theorem wordApply2 (o:Int) (n:Nat) (v:Value) (l:List Int) (a b:Int) (w:World) (ho1:4≤o) (ho2:o≤20) (h1:1≤n) (h2:n≤64) (h:RdRow kNum none w v l) (hl:l=[a,b]) :
  Calls Tryz.prog 172 #[.int .u8 o,.int .i64 n,v] w fun e w'=>e=.returned (.tuple #[.int .u64 (opZ o.toNat n a b),.int .i64 0])∧Below w.heap.size w w':=by
 obtain ⟨sa,sc,rfl⟩:=h.is
 have hlen:l.length=2:=by rw [hl];rfl
 have HC:=Lib.hid (celF_two n l a b hl)
 have hx:Hid (∀ k,k<2→∃ x,l[k]?=some x):=fun k hk=>⟨_,List.getElem?_eq_getElem (by omega)⟩
 obtain ⟨za0,za1,hp⟩:=mod_in n h2 a
 obtain ⟨zb0,zb1,_⟩:=mod_in n h2 b
 have HT:Hid (∀ w,Calls Tryz.prog (fOf o.toNat) #[.int .i64 n,.int .u64 (a % 2 ^ n),.int .u64 (b % 2 ^ n)] w fun e w'=>e=.returned (.int .u64 (rawZ o.toNat n (a % 2 ^ n) (b % 2 ^ n)))∧w=w'):=
  fun w=>w_two o.toNat (by omega) (by omega) n _ _ h1 h2 za0 za1 zb0 zb1 w
 have hidx:∀ w,(Instr.index 236 (.agg tblV) (.int .u8 o)).run Tryz.prog w=.ok (.agg #[.func (.func (fOf o.toNat)) #[] #[]]) w:=
  fun w=>idxRow .u8 o (by omega) (by omega) tblV _ (tbl_at _ (by omega) (by omega)) rfl w
 have hcall:=fun args w=>call_of o.toNat (by omega) (by omega) args w
 have hfld:=fun w=>fieldRow (.func (.func (fOf o.toNat)) #[] #[]) w
 have HR:=Lib.hid h
 have HM:=Lib.hid (w_mask n h1 h2)
 have HAM:=Lib.hid (fun v hv=>and_mask n h1 h2 v hv)
 have HO:Hid (opZ o.toNat n a b=rawZ o.toNat n (a % 2 ^ n) (b % 2 ^ n) % 2 ^ n):=rfl
 have HW:Hid (InU64 (rawZ o.toNat n (a % 2 ^ n) (b % 2 ^ n))):=raw_in o.toNat n (by omega) (by omega) _ _ h1 h2 za0 za1 zb0 zb1
 have ear:arityZ o=2:=by unfold arityZ;rw [if_neg (by omega),if_neg (by omega),if_neg (by omega),if_neg (by omega)]
 have eer:arityErr o=0:=by unfold arityErr;rw [if_neg (by omega)]
 have HAr:Hid (∀ w,Calls Tryz.prog 100 #[.int .u8 o] w fun e w'=>e=.returned (.tuple #[.int .i64 2,.int .i64 0])∧Below w.heap.size w w'):=by
  intro w
  have:=arity_of o (by omega) w
  rwa [ear,eer] at this
 have q2:(o == 2)=false:=by rw [beq_eq_false_iff_ne];omega
 have q3:(o == 3)=false:=by rw [beq_eq_false_iff_ne];omega
 have q21:(o == 21)=false:=by rw [beq_eq_false_iff_ne];omega
 have qn:((2:Int) != (l.length:Int))=false:=by rw [hlen];rfl
 have HL:=Lib.hid hlen
 clear ear eer h hl hlen
 generalize opZ o.toNat n a b=res at *
 generalize hraw:rawZ o.toNat n (a % 2 ^ n) (b % 2 ^ n)=raw at *
 generalize fOf o.toNat=fo at *
 clear hraw
 have hl2:l.length≤2:=by have:=HL.out;omega
 go_enter Tryz.func172,Tryz.ntmps172
 go_wp2_with (first|(go_at_call 176;refine (wordCheck _ (by omega) (by omega) _).mono ?_;rintro e w1 ⟨rfl,rfl⟩)|(go_at_call 100;refine (HAr.out _).mono ?_;rintro e w1 ⟨rfl,hb1⟩))
 go_loopw [13,14,42] (fun _ _ i wr=>∃ k:Nat,k≤l.length∧i=.int .i64 k∧wr.heap[w1.heap.size]?=some (.cells (celF n l k) 231 (0,0))∧Below w.heap.size w wr) (fun _ _ i _=>l.length - (intOf i).toNat)
 case atStart=>exact ⟨0,by omega,rfl,heap_alloc_new _ _,hb1.alloc hb1.size _⟩
 case round=>
  obtain ⟨k,hk,rfl,hh,hb⟩:=hrel
  have hsz:=hb1.size
  by_cases hlt:k<l.length
  ·obtain ⟨x,hxx⟩:=hx.out k (by omega)
   obtain ⟨b',o',rfl,_,c0,hx1⟩:=atNum HR.out hxx
   have c0':=cell_keepB hb c0 (block_lt_of_cell c0)
   obtain ⟨y,hy⟩:=celF_get n l k (by omega)
   have hg:=row_of hh k _ hy
   have hf:=frozen_of_row wr _ k _ _ hh
   have HS:=Lib.hid (celF_step n l k x (by omega) hxx)
   have HV:=Lib.hid (HAM.out x hx1)
   have hk3:(k:Int)<3:=by omega
   clear c0 hxx hx1
   go_wp2_with (go_at_call 177;refine (HM.out _).mono ?_;rintro e w2 ⟨rfl,rfl⟩)
   go_roundw
   case rel=>exact ⟨k+1,by omega,by go_num,by rw [HV.out,heap_setCell_same _ _ _ _ _ _ hh,HS.out],hb.setCell (by simp;omega) _⟩
   case measure=>simp [intOf];omega
  ·obtain rfl:k=2:=by have:=HL.out;omega
   rw [HC.out] at hh
   have d0:∀ x,(ext wr x).cell? ⟨w1.heap.size,0,none⟩=some (.int .u64 (a % 2 ^ n)):=fun x=>ext_cell (row_of hh 0 _ rfl) x
   have d1:∀ x,(ext wr x).cell? ⟨w1.heap.size,1,none⟩=some (.int .u64 (b % 2 ^ n)):=fun x=>ext_cell (row_of hh 1 _ rfl) x
   go_wp2_with fail
   (refine wp_region_calm (by kernel_rfl) (by kernel_rfl) ?_;(repeat (go_big_quiet_step (first|(go_at_call 178;exact calls_calm (wordTable _))|(exact calls_calm_same (HT.out _)))));refine wpQuiet_nil ?_;intro wc hwc)
   go_wp2_with (go_at_call 177;refine (HM.out _).mono ?_;rintro e w2 ⟨rfl,rfl⟩)
   go_ret2
   exact ⟨by rw [HO.out,← HAM.out raw HW.out];rfl,bcomp hb hwc⟩
theorem wordApply12 (n:Nat) (v:Value) (l:List Int) (a b:Int) (w:World) (h1:1≤n) (h2:n≤64) (h:RdRow kNum none w v l) (hl:l=[a]) :
  Calls Tryz.prog 172 #[.int .u8 2,.int .i64 n,v] w fun e w'=>e=.returned (.tuple #[.int .u64 (opZ 2 n a b),.int .i64 0])∧Below w.heap.size w w':=by
 obtain ⟨sa,sc,rfl⟩:=h.is
 have hlen:l.length=1:=by rw [hl];rfl
 have HC:=Lib.hid (celF_one n l a hl)
 have hx:Hid (∀ k,k<1→∃ x,l[k]?=some x):=fun k hk=>⟨_,List.getElem?_eq_getElem (by omega)⟩
 obtain ⟨za0,za1,hp⟩:=mod_in n h2 a
 obtain ⟨zb0,zb1,_⟩:=mod_in n h2 b
 have HR:=Lib.hid h
 have HM:=Lib.hid (w_mask n h1 h2)
 have HAM:=Lib.hid (fun v hv=>and_mask n h1 h2 v hv)
 have HO:Hid (opZ 2 n a b=rawZ 2 n (a % 2 ^ n) (b % 2 ^ n) % 2 ^ n):=rfl
 have HW:Hid (InU64 (rawZ 2 n (a % 2 ^ n) (b % 2 ^ n))):=raw_in 2 n (by omega) (by omega) _ _ h1 h2 za0 za1 zb0 zb1
 have HX:=Lib.hid (xor_max (a % 2 ^ n) ⟨za0,by omega⟩)
 have HAr:Hid (∀ w,Calls Tryz.prog 100 #[.int .u8 2] w fun e w'=>e=.returned (.tuple #[.int .i64 1,.int .i64 0])∧Below w.heap.size w w'):=fun w=>arity_of 2 (by decide) w
 have qn:((1:Int) != (l.length:Int))=false:=by rw [hlen];rfl
 have HL:=Lib.hid hlen
 clear h hl hlen
 generalize opZ 2 n a b=res at *
 have hl2:l.length≤1:=by have:=HL.out;omega
 go_enter Tryz.func172,Tryz.ntmps172
 go_wp2_with (first|(go_at_call 176;refine (wordCheck _ (by omega) (by omega) _).mono ?_;rintro e w1 ⟨rfl,rfl⟩)|(go_at_call 100;refine (HAr.out _).mono ?_;rintro e w1 ⟨rfl,hb1⟩))
 go_loopw [13,14,42] (fun _ _ i wr=>∃ k:Nat,k≤l.length∧i=.int .i64 k∧wr.heap[w1.heap.size]?=some (.cells (celF n l k) 231 (0,0))∧Below w.heap.size w wr) (fun _ _ i _=>l.length - (intOf i).toNat)
 case atStart=>exact ⟨0,by omega,rfl,heap_alloc_new _ _,hb1.alloc hb1.size _⟩
 case round=>
  obtain ⟨k,hk,rfl,hh,hb⟩:=hrel
  have hsz:=hb1.size
  by_cases hlt:k<l.length
  ·obtain ⟨x,hxx⟩:=hx.out k (by omega)
   obtain ⟨b',o',rfl,_,c0,hx1⟩:=atNum HR.out hxx
   have c0':=cell_keepB hb c0 (block_lt_of_cell c0)
   obtain ⟨y,hy⟩:=celF_get n l k (by omega)
   have hg:=row_of hh k _ hy
   have hf:=frozen_of_row wr _ k _ _ hh
   have HS:=Lib.hid (celF_step n l k x (by omega) hxx)
   have HV:=Lib.hid (HAM.out x hx1)
   have hk3:(k:Int)<3:=by omega
   clear c0 hxx hx1
   go_wp2_with (go_at_call 177;refine (HM.out _).mono ?_;rintro e w2 ⟨rfl,rfl⟩)
   go_roundw
   case rel=>exact ⟨k+1,by omega,by go_num,by rw [HV.out,heap_setCell_same _ _ _ _ _ _ hh,HS.out],hb.setCell (by simp;omega) _⟩
   case measure=>simp [intOf];omega
  ·obtain rfl:k=1:=by have:=HL.out;omega
   rw [HC.out] at hh
   have d0:=row_of hh 0 _ rfl
   clear hh
   go_wp2_with (go_at_call 177;refine (HM.out _).mono ?_;rintro e w2 ⟨rfl,rfl⟩)
   go_ret2
   exact ⟨by rw [HO.out,← HAM.out _ HW.out];rw [show rawZ 2 n (a % 2 ^ n) (b % 2 ^ n)=18446744073709551615 - a % 2 ^ n from rfl,← HX.out];rfl,hb⟩
theorem wordApply13 (n:Nat) (v:Value) (l:List Int) (a b:Int) (w:World) (h1:1≤n) (h2:n≤64) (h:RdRow kNum none w v l) (hl:l=[a]) :
  Calls Tryz.prog 172 #[.int .u8 3,.int .i64 n,v] w fun e w'=>e=.returned (.tuple #[.int .u64 (opZ 3 n a b),.int .i64 0])∧Below w.heap.size w w':=by
 obtain ⟨sa,sc,rfl⟩:=h.is
 have hlen:l.length=1:=by rw [hl];rfl
 have HC:=Lib.hid (celF_one n l a hl)
 have hx:Hid (∀ k,k<1→∃ x,l[k]?=some x):=fun k hk=>⟨_,List.getElem?_eq_getElem (by omega)⟩
 obtain ⟨za0,za1,hp⟩:=mod_in n h2 a
 obtain ⟨zb0,zb1,_⟩:=mod_in n h2 b
 have HR:=Lib.hid h
 have HM:=Lib.hid (w_mask n h1 h2)
 have HAM:=Lib.hid (fun v hv=>and_mask n h1 h2 v hv)
 have HO:Hid (opZ 3 n a b=rawZ 3 n (a % 2 ^ n) (b % 2 ^ n) % 2 ^ n):=rfl
 have HW:Hid (InU64 (rawZ 3 n (a % 2 ^ n) (b % 2 ^ n))):=raw_in 3 n (by omega) (by omega) _ _ h1 h2 za0 za1 zb0 zb1
 have HAr:Hid (∀ w,Calls Tryz.prog 100 #[.int .u8 3] w fun e w'=>e=.returned (.tuple #[.int .i64 1,.int .i64 0])∧Below w.heap.size w w'):=fun w=>arity_of 3 (by decide) w
 have qn:((1:Int) != (l.length:Int))=false:=by rw [hlen];rfl
 have HL:=Lib.hid hlen
 clear h hl hlen
 generalize opZ 3 n a b=res at *
 have hl2:l.length≤1:=by have:=HL.out;omega
 go_enter Tryz.func172,Tryz.ntmps172
 go_wp2_with (first|(go_at_call 176;refine (wordCheck _ (by omega) (by omega) _).mono ?_;rintro e w1 ⟨rfl,rfl⟩)|(go_at_call 100;refine (HAr.out _).mono ?_;rintro e w1 ⟨rfl,hb1⟩))
 go_loopw [13,14,42] (fun _ _ i wr=>∃ k:Nat,k≤l.length∧i=.int .i64 k∧wr.heap[w1.heap.size]?=some (.cells (celF n l k) 231 (0,0))∧Below w.heap.size w wr) (fun _ _ i _=>l.length - (intOf i).toNat)
 case atStart=>exact ⟨0,by omega,rfl,heap_alloc_new _ _,hb1.alloc hb1.size _⟩
 case round=>
  obtain ⟨k,hk,rfl,hh,hb⟩:=hrel
  have hsz:=hb1.size
  by_cases hlt:k<l.length
  ·obtain ⟨x,hxx⟩:=hx.out k (by omega)
   obtain ⟨b',o',rfl,_,c0,hx1⟩:=atNum HR.out hxx
   have c0':=cell_keepB hb c0 (block_lt_of_cell c0)
   obtain ⟨y,hy⟩:=celF_get n l k (by omega)
   have hg:=row_of hh k _ hy
   have hf:=frozen_of_row wr _ k _ _ hh
   have HS:=Lib.hid (celF_step n l k x (by omega) hxx)
   have HV:=Lib.hid (HAM.out x hx1)
   have hk3:(k:Int)<3:=by omega
   clear c0 hxx hx1
   go_wp2_with (go_at_call 177;refine (HM.out _).mono ?_;rintro e w2 ⟨rfl,rfl⟩)
   go_roundw
   case rel=>exact ⟨k+1,by omega,by go_num,by rw [HV.out,heap_setCell_same _ _ _ _ _ _ hh,HS.out],hb.setCell (by simp;omega) _⟩
   case measure=>simp [intOf];omega
  ·obtain rfl:k=1:=by have:=HL.out;omega
   rw [HC.out] at hh
   have d0:=row_of hh 0 _ rfl
   clear hh
   go_wp2_with (go_at_call 177;refine (HM.out _).mono ?_;rintro e w2 ⟨rfl,rfl⟩)
   go_ret2
   exact ⟨by rw [HO.out,← HAM.out _ HW.out];rfl,hb⟩
def shapeL:List (Bool × Bool × Bool × Int):=[(true,true,false,0),(true,true,true,0),(true,true,false,1),(false,true,true,1),(true,false,false,2),(false,true,false,2),(true,true,false,3),(false,false,false,4),(false,true,false,4),(false,false,false,0)]
def kindF:Nat→FuncId
 | 0=>161
 | 1=>162
 | 2=>163
 | 3=>164
 | 4=>165
 | 5=>166
 | 6=>167
 | 7=>168
 | 8=>169
 | 9=>170
 | _=>0
structure Laid (w:World):Prop where
 shapes:∀ k x,shapeL[k]?=some x→w.cell? ⟨0,k * 4,none⟩=some (.bool x.1)∧w.cell? ⟨0,k * 4+1,none⟩=some (.bool x.2.1)∧w.cell? ⟨0,k * 4+2,none⟩=some (.bool x.2.2.1)∧w.cell? ⟨0,k * 4+3,none⟩=some (.int .i64 x.2.2.2)
 kinds:∀ k,k<10→w.cell? ⟨1,k,none⟩=some (.func (.func (kindF k)) #[] #[])
theorem Laid.keep {w w':World} (h:Laid w) (k:Below w.heap.size w w'):Laid w':=
 ⟨fun i x hx=>by obtain ⟨h1,h2,h3,h4⟩:=h.shapes i x hx;exact ⟨cell_keep k h1,cell_keep k h2,cell_keep k h3,cell_keep k h4⟩,fun i hi=>cell_keep k (h.kinds i hi)⟩
def refOk (f:FlatD) (r:RefD) (has:Bool):Bool:=
 if has then (if r.reg == -1 then decide (r.num<2 ^ f.width.toNat) else decide (0≤r.reg) && decide (r.reg<f.regs) && r.num == 0) else r.reg == 0 && r.num == 0
def dstK (k:Int):Bool:=k == 0 || k == 1 || k == 2 || k == 4 || k == 6
def aK (k:Int):Bool:=k == 0 || k == 1 || k == 2 || k == 3 || k == 5 || k == 6 || k == 8
def bK (k op:Int):Bool:=k == 3 || (k == 1 && decide (4≤op))
def mostF (f:FlatD) (k:Int):Int:=if k == 2 || k == 3 then f.arrays.length else if k == 4 || k == 5 then f.chans.length else if k == 6 then f.sites.length else if k == 7 || k == 8 then f.code.length else 1
def codeOk (f:FlatD) (c:CodeD):Bool:=
 decide (c.kind≤9) && (if c.kind == 1 then decide (2≤c.op) && decide (c.op≤20) else c.op == 0) && (decide (0≤c.n) && decide (c.n<mostF f c.kind)) &&
  (if dstK c.kind then decide (0≤c.dst) && decide (c.dst<f.regs) else c.dst == 0) && refOk f c.a (aK c.kind) && refOk f c.b (bK c.kind c.op)
def headOk (f:FlatD):Bool:=
 decide (1≤f.width) && decide (f.width≤64) && decide (0≤f.regs) && decide (f.regs≤2097152) && namesOk f.chans && namesOk f.sites && (decide (f.arrays.length≤32) && decide (1≤f.code.length) && decide (f.code.length≤4096))
def arrOk (n:Int):Bool:=decide (1≤n) && decide (n≤64)
def lastK (f:FlatD):Int:=match f.code.getLast? with|some c=>c.kind|none=>0
def flatOk (f:FlatD):Bool:=headOk f && f.arrays.all arrOk && f.code.all (codeOk f) && (lastK f == 9 || lastK f == 7)
def flatE (f:FlatD):Int:=if flatOk f then 0 else 2
abbrev refV (r:RefD):Value:=.agg #[.int .i64 r.reg,.int .u64 r.num]
abbrev codeV (c:CodeD):Value:=.agg #[.int .u8 c.kind,.int .u8 c.op,.int .i64 c.dst,.int .i64 c.n,.int .i64 c.a.reg,.int .u64 c.a.num,.int .i64 c.b.reg,.int .u64 c.b.num]
end Go.Proofs.YtkjkpddajjmloaaGreatDoor
