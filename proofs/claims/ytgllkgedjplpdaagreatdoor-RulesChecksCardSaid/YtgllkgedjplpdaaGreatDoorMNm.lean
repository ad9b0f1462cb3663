/- Contracts of what tells names: of flat.name and flat.names, of the references' Name, Is and names, of slices.Index and slices.Contains over strings: called in whatever memory they return what the plai Condition: lists read as lists of strings. -/
import Derived.Test.YtgllkgedjplpdaaGreatDoorSpec
import Derived.Test.YtgllkgedjplpdaaGreatDoorRowE
import Derived.Laws.IdiomStrings
import Derived.Test.YtgllkgedjplpdaaGreatDoorOpB
set_option linter.all false
set_option maxRecDepth 1000000
set_option maxHeartbeats 12800000
namespace Go.Proofs.YtgllkgedjplpdaaGreatDoor
open Go.ChangeShapes Go.WideShapes Go.ChangeAt Go.RowKit
theorem slicesIndexM (v:Value) (l:List ByteArray) (s:ByteArray) (w:World) (h:RdRow kStr none w v l) :
  Calls Tryz.prog 87 #[v,.string s] w fun e w'=>e=.returned (.int .i64 (idxS s l 0))/\w=w':=by
 obtain ⟨a,c,rfl⟩:=h.is
 have hl:l.length * 16<=140737488351232:=h.size
 have HR:=Hd h
 clear h
 go_enter Tryz.func87,Tryz.ntmps87
 go_wp2
 go_loop [5,8] (fun _ i=>∃ k:Nat,k<=l.length/\i=.int .i64 k/\Hid (idxS s l 0=idxS s (l.drop k) k)) (fun _ i=>l.length - (intOf i).toNat)
 case atStart=>exact ⟨0,Nat.zero_le _,rfl,rfl⟩
 case round=>
  obtain ⟨k,hk,rfl,hq⟩:=hrel
  by_cases hlt:k<l.length
  ·obtain ⟨x,hx⟩:∃ x,l[k]?=some x:=⟨_,lG hlt⟩
   obtain ⟨b,o,rfl,_,c0,_⟩:=atStr HR.out hx
   have hs:=idxS_step s x l k hx
   have HX:=Hd hx
   clear hx
   cases he:(s.toList == x.toList)
   ·rw [he,if_neg (by simp)] at hs
    have HS:=Hd hs
    clear hs
    go_wp2
    go_round
    case rel=>exact ⟨k+1,by omega,by go_num,hq.out.trans HS.out⟩
    case measure=>simp [intOf];omega
   ·rw [he,if_pos rfl] at hs
    have HS:=Hd hs
    clear hs
    go_wp2
    go_ret
    exact ⟨by rw [hq.out,HS.out];rfl,rfl⟩
  ·obtain rfl:k=l.length:=by omega
   go_wp2
   go_ret
   exact ⟨by rw [hq.out,List.drop_length];rfl,rfl⟩
theorem slicesContainsM (v:Value) (l:List ByteArray) (s:ByteArray) (w:World) (h:RdRow kStr none w v l) :
  Calls Tryz.prog 53 #[v,.string s] w fun e w'=>e=.returned (.bool (hasS s l))/\w=w':=by
 have hh:=Hd (idxS_has s l 0)
 have hc:=Hd (slicesIndexM v l s w h)
 clear h
 generalize idxS s l 0=z at *
 generalize hasS s l=y at *
 go_enter Tryz.func53,Tryz.ntmps53
 go_wp2_with (go_at_call 87;refine hc.out.mono ?_;rintro e w' ⟨rfl,rfl⟩)
 go_ret
 exact ⟨by rw [<- hh.out];rfl,rfl⟩
theorem refIsM (v:Value) (l:List ByteArray) (s:ByteArray) (w:World) (h:RdRow kStr none w v l) :
  Calls Tryz.prog 64 #[v,.string s] w fun e w'=>e=.returned (.bool (hasS s l))/\w=w':=by
 obtain ⟨a,c,rfl⟩:=h.is
 have hl:l.length * 16<=140737488351232:=h.size
 have HR:=Hd h
 clear h
 go_enter Tryz.func64,Tryz.ntmps64
 go_wp2
 go_loop [5] (fun i=>∃ k:Nat,k<=l.length/\i=.int .i64 k/\Hid (∀ (j:Nat) x,j<k->l[j]?=some x->(x.toList == s.toList)=false)) (fun i=>l.length - (intOf i).toNat)
 case atStart=>exact ⟨0,Nat.zero_le _,rfl,fun j x h=>by omega⟩
 case round=>
  obtain ⟨k,hk,rfl,hq⟩:=hrel
  by_cases hlt:k<l.length
  ·obtain ⟨x,hx⟩:∃ x,l[k]?=some x:=⟨_,lG hlt⟩
   obtain ⟨b,o,rfl,_,c0,_⟩:=atStr HR.out hx
   have HX:=Hd hx
   have hlt2:(k:Int)<(l.length:Int):=by omega
   clear hx
   cases he:(x.toList == s.toList)
   ·have HE:=Hd he
    go_wp2
    go_round
    case rel=>
     refine ⟨k+1,by omega,by go_num,fun j y hj hy=>?_⟩
     rcases Nat.lt_or_ge j k with h|h
     ·exact hq.out j y h hy
     ·obtain rfl:j=k:=by omega
      rw [HX.out] at hy;cases hy;exact HE.out
    case measure=>simp [intOf];omega
   ·have HV:=Hd (hasS_hit s x l k HX.out (by rw [BEq.comm];exact he))
    go_wp2
    go_ret
    exact ⟨by rw [HV.out];rfl,rfl⟩
  ·obtain rfl:k=l.length:=by omega
   have HV:=Hd (hasS_none s l (fun j x h=>by rw [BEq.comm];exact hq.out j x (lE h).1 h))
   go_wp2
   go_ret
   exact ⟨by rw [HV.out];rfl,rfl⟩
theorem quiet_same {P:Program} {f:FuncId} {args:Array Value} {w:World} {n:Nat} {v:Value}
  (h:Calls P f args (w.drewN n) fun e w'=>e=.returned v/\w.drewN n=w'):Calls P f args (w.drewN n) fun e w''=>e=.returned v/\∃ m,w''=w.drewN m:=
 h.mono fun _ _ ⟨he,hm⟩=>⟨he,n,hm.symm⟩
theorem okc_no (c:Int) (h:okc c=false):(c == 95)=false/\(c<48 \/ 57<c)/\(c<97 \/ 122<c)/\(c<65 \/ 90<c):=by
 obtain ⟨h1,h2,h3,h4⟩:=okc_false c h
 simp only [isDig,Bool.and_eq_false_iff,decide_eq_false_iff_not] at h1
 exact ⟨h2,by omega,h3,h4⟩
theorem okc_yes (c:Int) (h:okc c=true):(c == 95)=true \/ ((c == 95)=false/\48<=c/\c<=57) \/ ((c == 95)=false/\97<=c/\c<=122) \/ ((c == 95)=false/\65<=c/\c<=90):=by
 cases h2:(c == 95)
 ·rcases okc_true c h with o|⟨_,o⟩|⟨_,_,o⟩|⟨_,_,o⟩
  ·simp only [isDig,Bool.and_eq_true,decide_eq_true_eq] at o
   exact .inr (.inl ⟨rfl,o⟩)
  ·rw [h2] at o;cases o
  ·exact .inr (.inr (.inl ⟨rfl,o⟩))
  ·exact .inr (.inr (.inr ⟨rfl,o⟩))
 ·exact .inl rfl
theorem flatName (s:ByteArray) (w:World) (hs:s.size<=maxLen) :
  Calls Tryz.prog 127 #[.string s] w fun e w'=>e=.returned (.bool (tokName s))/\Below w.heap.size w w':=by
 unfold maxLen at hs
 by_cases h0:s.size=0
 ·have ht:Hid (tokName s=false):=by show _=_;simp [tokName,h0]
  have he:s.toList=[]:=by rw [ByteArray.toList_eq,show s.data=#[] from Array.eq_empty_of_size_eq_zero h0]
  go_enter Tryz.func127,Tryz.ntmps127
  go_wp2
  go_ret
  exact ⟨by rw [ht.out];rfl,bR _ _⟩
 have hpos:0<s.size:=by omega
 have he:s.toList.isEmpty=false:=by
  rw [ByteArray.toList_eq];have:0<s.data.size:=hpos
  simp;intro h;simp [h] at this
 by_cases h1:32<s.size
 ·have ht:Hid (tokName s=false):=by show _=_;simp [tokName];omega
  go_enter Tryz.func127,Tryz.ntmps127
  go_wp2
  go_ret
  exact ⟨by rw [ht.out];rfl,bR _ _⟩
 have hhead:=head_is s hpos
 have hu0:(s[0].toNat:Int)<256:=by have:=s[0].toNat_lt;omega
 by_cases h2:48<=(s[0].toNat:Int)/\(s[0].toNat:Int)<=57
 ·obtain ⟨h2a,h2b⟩:=h2
  have ht:Hid (tokName s=false):=by show _=_;unfold tokName;rw [hhead,show isDig (s[0].toNat:Int)=true from by simp [isDig];omega];simp
  clear hhead
  go_enter Tryz.func127,Tryz.ntmps127
  go_wp2
  go_ret
  exact ⟨by rw [ht.out];rfl,bR _ _⟩
 ·have hd:isDig (s[0].toNat:Int)=false:=by simp only [isDig,Bool.and_eq_false_iff,decide_eq_false_iff_not];omega
  obtain ⟨cap,W1,hcv,hcell,hbel⟩:=bytesOf w s
  have ht:Hid ((s.data.toList.all fun c=>okc (c.toNat:Int))=tokName s):=by
   show _=_
   unfold tokName;rw [hhead,hd];simp [show 1<=s.size from hpos,show s.size<=32 from by omega]
  have HC:=Hd hcell
  have HB:=Hd hbel
  clear hcell hbel hhead hd
  have h2':(s[0].toNat:Int)<48 \/ 57<(s[0].toNat:Int):=by omega
  clear h2
  rcases h2' with h2'|h2'
  all_goals
   go_enter Tryz.func127,Tryz.ntmps127
   go_wp2
   go_loop [4,25] (fun _ i=>∃ k:Nat,k<=s.size/\i=.int .i64 k/\Hid (∀ j (h:j<s.size),j<k->okc (s[j].toNat:Int)=true)) (fun _ i=>s.size - (intOf i).toNat)
   case atStart=>exact ⟨0,Nat.zero_le _,rfl,fun j _ h=>by omega⟩
   case round=>
    obtain ⟨k,hk,rfl,hq⟩:=hrel
    by_cases hlt:k<s.size
    ·have hc:=HC.out k hlt
     have hu:(s[k].toNat:Int)<256:=by have:=s[k].toNat_lt;omega
     cases ho:okc (s[k].toNat:Int)
     ·have HO:=Hd ho
      obtain ⟨o2,o1,o3,o4⟩:=okc_no _ ho
      have o5:((s[k].toNat:Int) != 95)=true:=by rw [bne,o2];rfl
      clear ho
      rcases o1 with o1|o1 <;> rcases o3 with o3|o3 <;> rcases o4 with o4|o4 <;> first|(exfalso;omega)|skip
      all_goals
       go_wp2
       go_ret
       refine ⟨?_,HB.out⟩
       rw [<- ht.out,show (s.data.toList.all fun c=>okc (c.toNat:Int))=false from ?_]
       ·rfl
       ·rw [List.all_eq_false]
        exact ⟨s[k],by show s.data[k] ∈ _;simp,by rw [HO.out];simp⟩
     ·have HO:=Hd ho
      rcases okc_yes _ ho with o1|⟨o1,o2,o3⟩|⟨o1,o2,o3⟩|⟨o1,o2,o3⟩
      ·have o5:((s[k].toNat:Int) != 95)=false:=by rw [bne,o1];rfl
       clear ho
       go_wp2
       go_round
       case rel=>
        refine ⟨k+1,by omega,by go_num,fun j hj hjk=>?_⟩
        rcases Nat.lt_or_ge j k with h|h
        ·exact hq.out j hj h
        ·obtain rfl:j=k:=by omega
         exact HO.out
       case measure=>simp [intOf];omega
      all_goals
       have o5:((s[k].toNat:Int) != 95)=true:=by rw [bne,o1];rfl
       clear ho
       go_wp2
       go_round
       case rel=>
        refine ⟨k+1,by omega,by go_num,fun j hj hjk=>?_⟩
        rcases Nat.lt_or_ge j k with h|h
        ·exact hq.out j hj h
        ·obtain rfl:j=k:=by omega
         exact HO.out
       case measure=>simp [intOf];omega
    ·obtain rfl:k=s.size:=by omega
     go_wp2
     go_ret
     refine ⟨?_,HB.out⟩
     rw [<- ht.out,tok_all s (fun j hj=>hq.out j hj hj)];rfl
def namesGo (pre:List ByteArray):List ByteArray->Bool
 | []=>true
 | s :: r=>tokName s && !hasS s pre && namesGo (pre ++ [s]) r
def namesOk (l:List ByteArray):Bool:=namesGo [] l && decide (l.length<=32)
theorem namesGo_step (l:List ByteArray) (k:Nat) (x:ByteArray) (h:l[k]?=some x):namesGo (l.take k) (l.drop k)=(tokName x && !hasS x (l.take k) && namesGo (l.take (k+1)) (l.drop (k+1))):=by
 obtain ⟨hlt,he⟩:=lE h
 rw [List.drop_eq_getElem_cons hlt,he,namesGo,List.take_add_one,h];rfl
theorem namesOk_miss (l:List ByteArray) (k:Nat) (x:ByteArray) (h:l[k]?=some x) (hq:namesGo [] l=namesGo (l.take k) (l.drop k)) (hx:(tokName x && !hasS x (l.take k))=false):namesOk l=false:=by
 rw [namesOk,hq,namesGo_step l k x h,hx];rfl
theorem flatNames (v:Value) (l:List ByteArray) (w:World) (h:RdRow kStr none w v l) :
  Calls Tryz.prog 107 #[v] w fun e w'=>e=.returned (.bool (namesOk l))/\Below w.heap.size w w':=by
 obtain ⟨a,c,rfl⟩:=h.is
 have hl:l.length * 16<=140737488351232:=h.size
 have hcap:l.length<=c:=by obtain ⟨a',c',e,h1,_⟩:=h;cases e;exact h1.2
 have HR:=Hd h
 clear h
 go_enter Tryz.func107,Tryz.ntmps107
 go_wp2
 go_loopw [3,4,7] (fun _ _ i wr=>∃ k:Nat,k<=l.length/\i=.int .i64 k/\Hid (namesGo [] l=namesGo (l.take k) (l.drop k))/\Below w.heap.size w wr) (fun _ _ i _=>l.length - (intOf i).toNat)
 case atStart=>exact ⟨0,Nat.zero_le _,rfl,rfl,bR _ _⟩
 case round=>
  obtain ⟨k,hk,rfl,hq,hb⟩:=hrel
  by_cases hlt:k<l.length
  ·obtain ⟨x,hx⟩:∃ x,l[k]?=some x:=⟨_,lG hlt⟩
   have hpre:=Hd ((HR.out.keep hb).take k hk)
   obtain ⟨b,o,rfl,_,c0,hz⟩:=atStr HR.out hx
   have c0':=cell_keepB hb c0 (block_lt_of_cell c0)
   have HN:=Hd (namesGo_step l k x hx)
   have HM:=Hd (namesOk_miss l k x hx hq.out)
   have hi1:(k:Int)<(l.length:Int):=by omega
   have HZ:=Hd hz
   clear c0 hx hz
   cases ht:tokName x
   ·have HF:=Hd (HM.out (by rw [ht];rfl))
    go_wp2_with (go_at_call 127;refine (flatName x _ HZ.out).mono ?_;rintro e w1 ⟨rfl,hb1⟩;rw [ht])
    go_ret
    exact ⟨by rw [HF.out];rfl,bcomp hb hb1⟩
   ·cases hs:hasS x (l.take k)
    ·have HG:Hid (namesGo [] l=namesGo (l.take (k+1)) (l.drop (k+1))):=by show _=_;rw [hq.out,HN.out,ht,hs];rfl
     go_wp2_with (first
      | (go_at_call 127;refine (flatName x _ HZ.out).mono ?_;rintro e w1 ⟨rfl,hb1⟩;rw [ht])
      | (go_at_call 53;refine (slicesContainsM _ (l.take k) x _ (hpre.out.keep hb1)).mono ?_;rintro e w2 ⟨rfl,rfl⟩;rw [hs]))
     go_roundw
     case rel=>exact ⟨k+1,by omega,by go_num,HG,bcomp hb hb1⟩
     case measure=>simp [intOf];omega
    ·have HF:=Hd (HM.out (by rw [hs,Bool.and_comm];rfl))
     go_wp2_with (first
      | (go_at_call 127;refine (flatName x _ HZ.out).mono ?_;rintro e w1 ⟨rfl,hb1⟩;rw [ht])
      | (go_at_call 53;refine (slicesContainsM _ (l.take k) x _ (hpre.out.keep hb1)).mono ?_;rintro e w2 ⟨rfl,rfl⟩;rw [hs]))
     go_ret
     exact ⟨by rw [HF.out];rfl,bcomp hb hb1⟩
  ·obtain rfl:k=l.length:=by omega
   have HE:Hid (namesOk l=decide (l.length<=32)):=by show _=_;rw [namesOk,hq.out,List.drop_length];rfl
   have h33:Hid (decide ((l.length:Int)<=32)=namesOk l):=by show _=_;rw [HE.out];exact decide_eq_decide.2 (by omega)
   go_wp2
   go_ret
   exact ⟨by show Ending.returned (.bool (decide ((l.length:Int)<=32)))=_;rw [h33.out],hb⟩
end Go.Proofs.YtgllkgedjplpdaaGreatDoor
