/- The operators on words as functions of numbers, and contracts of package word's small functions: called in whatever memory they return what these functions say, and write nothing. Conditions: the width is one from 1 to 64; the words are less than 2 to the power of the width. -/
import Derived.Test.YtgllkgedjplpdaaGreatDoorOpB
import Derived.Test.YtgllkgedjplpdaaGreatDoorRowE
import Derived.Deep.RegionWith
import Derived.Laws.Bits64
import Derived.Laws.Bits64b
set_option linter.all false
set_option maxRecDepth 1000000
set_option maxHeartbeats 12800000
namespace Go.Proofs.YtgllkgedjplpdaaGreatDoor
open Go.ChangeShapes Go.WideShapes Go.ChangeAt Go.RowKit
theorem nat_pow (n:Nat):((2 ^ n:Nat):Int)=(2:Int) ^ n:=by rw [Int.natCast_pow];rfl
theorem ipow_le {m n:Nat} (h:m<=n):(2:Int) ^ m<=2 ^ n:=by
 rw [<- nat_pow,<- nat_pow];exact Int.ofNat_le.2 (Nat.pow_le_pow_right (n:=2) (by decide) h)
theorem pow_n (n:Nat) (h1:1<=n) (h2:n<=64):∃ q:Int,(2:Int) ^ n=2 * q/\(2:Int) ^ (n - 1)=q/\1<=q/\q<=9223372036854775808:=by
 obtain ⟨k,rfl⟩:∃ k,n=k+1:=⟨n - 1,by omega⟩
 refine ⟨2 ^ k,by rw [Int.pow_succ,Int.mul_comm],rfl,?_,?_⟩
 ·exact Int.le_trans (by decide) (Int.add_one_le_of_lt (Int.pow_pos (by decide)))
 ·have:(2:Int) ^ k<=2 ^ 63:=ipow_le (by omega)
  exact this
theorem pow_lt (n:Nat) (h:n<64):(2:Int) ^ n<=9223372036854775808:=by
 have:(2:Int) ^ n<=2 ^ 63:=ipow_le (by omega)
 exact this
theorem mask_is (n:Nat) (h1:1<=n) (h2:n<=64):IntKind.u64.wrap (IntKind.u64.wrap (2 ^ n) - 1)=2 ^ n - 1:=by
 obtain ⟨q,e1,_,q1,q2⟩:=pow_n n h1 h2
 rw [IntKind.wrap_u64,IntKind.wrap_u64,e1]
 omega
theorem mask_nat (n:Nat):(2:Int) ^ n - 1=((2 ^ n - 1:Nat):Int):=by
 have:1<=2 ^ n:=Nat.one_le_two_pow
 rw [Int.ofNat_sub this,nat_pow];rfl
theorem and_mask (n:Nat) (h1:1<=n) (h2:n<=64) (v:Int) (hv:InU64 v):bits .and .u64 v (2 ^ n - 1)=v % 2 ^ n:=by
 obtain ⟨m,rfl⟩:=Int.eq_ofNat_of_zero_le hv.1
 have hm:m<18446744073709551616:=by have:=hv.2;omega
 have hp:2 ^ n<=18446744073709551616:=(Nat.pow_le_pow_right (n:=2) (by decide) h2:2 ^ n<=2 ^ 64)
 have h0:1<=2 ^ n:=Nat.one_le_two_pow
 rw [mask_nat,bits_and_u64_nat m (2 ^ n - 1) hm (by omega),Nat.and_two_pow_sub_one_eq_mod,Int.natCast_emod,nat_pow]
theorem mod_in (n:Nat) (h2:n<=64) (v:Int):0<=v % 2 ^ n/\v % 2 ^ n<2 ^ n/\(2:Int) ^ n<=18446744073709551616:=by
 have hp:(2:Int) ^ n<=2 ^ 64:=ipow_le h2
 have h0:(0:Int)<2 ^ n:=Int.pow_pos (by decide)
 exact ⟨Int.emod_nonneg _ (by omega),Int.emod_lt_of_pos _ h0,hp⟩
end Go.Proofs.YtgllkgedjplpdaaGreatDoor
