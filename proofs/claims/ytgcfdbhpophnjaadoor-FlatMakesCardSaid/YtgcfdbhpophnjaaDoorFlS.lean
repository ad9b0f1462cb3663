/- Plain facts for the reference's flat program: the registers by lists of variables, the labels by their instructions, the jumps and returns in one list, and what has become too long. No condition. -/
import Derived.Test.YtgcfdbhpophnjaaDoorFlI
import Derived.Test.YtgcfdbhpophnjaaDoorFlC
import Derived.Test.YtgcfdbhpophnjaaDoorMLd
import Derived.Test.YtgcfdbhpophnjaaDoorRefD
set_option linter.all false
set_option maxRecDepth 1000000
set_option maxHeartbeats 12800000
namespace Go.Proofs.YtgcfdbhpophnjaaDoor
open Go.ChangeShapes Go.WideShapes Go.ChangeAt Go.RowKit
open Go.Lib (hid)
theorem gsFlS {α:Type} {a:Array α} {i:Nat} {v:α} (h:a[i]?=some v):i<a.size:=(Array.getElem?_eq_some_iff.1 h).1
theorem lgFlS {α:Type} {l:List α} {i:Nat} (h:i<l.length):l[i]?=some l[i]:=List.getElem?_eq_getElem h
/-! ### registers -/
def fiR (p:ProgD) (f:Nat):Int:=if f<p.funcs.length then (f:Int) else -1
def varsR (p:ProgD) (f:Nat):List ByteArray:=(bodyF p (fiR p f)).1++localsL (bodyF p (fiR p f)).1 (bodyF p (fiR p f)).2 []
def firstR (p:ProgD) (f:Nat):Nat:=if f<p.funcs.length then (localsL [] p.main []).length+(placesF 0 (p.funcs.take f)).length else 0
theorem fiR_fn {p:ProgD} {f:Nat} {x:FuncD} (h:p.funcs[f]?=some x):fiR p f=(f:Int):=by unfold fiR;rw[if_pos (List.getElem?_eq_some_iff.1 h).1]
theorem fiR_main (p:ProgD):fiR p p.funcs.length=-1:=by unfold fiR;rw[if_neg (Nat.lt_irrefl _)]
theorem varsR_fn {p:ProgD} {f:Nat} {x:FuncD} (h:p.funcs[f]?=some x):varsR p f=x.params++localsL x.params x.code []:=by unfold varsR;rw[fiR_fn h,bodyF_at h]
theorem varsR_main (p:ProgD):varsR p p.funcs.length=localsL [] p.main []:=by unfold varsR;rw[fiR_main,bodyF_main];rfl
theorem regN_atR {R:List (Int × ByteArray)} (hd:R.Nodup) {f:Int} {s:ByteArray} {j:Nat} (h:R[j]?=some (f,s)):regN R f s=j:=by
 unfold regN
 have hj:=(List.getElem?_eq_some_iff.1 h)
 have:R.findIdx? (fun q=>decide (q=(f,s)))=some j:=by
  rw[List.findIdx?_eq_some_iff_getElem]
  refine⟨hj.1,by simpa using hj.2,fun i hi=>?_⟩
  simp only[decide_eq_true_eq,Bool.not_eq_true,decide_eq_false_iff_not]
  intro e
  have h1:R[i]'(Nat.lt_trans hi hj.1)=R[j]'hj.1:=by rw[e];exact hj.2.symm
  exact List.pairwise_iff_getElem.1 hd i j _ _ hi h1
 rw[this];rfl
theorem regN_noneR {R:List (Int × ByteArray)} {f:Int} {s:ByteArray} (h:(f,s) ∉ R):regN R f s=0:=by
 unfold regN
 have:R.findIdx? (fun q=>decide (q=(f,s)))=none:=by
  rw[List.findIdx?_eq_none_iff]
  intro q hq
  simp only[decide_eq_false_iff_not]
  exact fun e=>h (e ▸ hq)
 rw[this];rfl
theorem placesF_split:∀ (l:List FuncD) (i k:Nat) (x:FuncD),l[k]?=some x→∃ rest,placesF i l=placesF i (l.take k)++(funPlaces ((i+k:Nat):Int) x++rest)
 | [],_,_,_,h=>by simp at h
 | y :: r,i,0,x,h=>by
  simp at h;subst h
  exact⟨placesF (i+1) r,by simp[placesF]⟩
 | y :: r,i,k+1,x,h=>by
  obtain⟨rest,e⟩:=placesF_split r (i+1) k x (by simpa using h)
  refine⟨rest,?_⟩
  rw[placesF,e,List.take_succ_cons,placesF,List.append_assoc,show i+1+k=i+(k+1) from by omega]
theorem funPlaces_is (i:Int) (x:FuncD):funPlaces i x=placesOf i (x.params++localsL x.params x.code []):=by unfold funPlaces placesOf;rw[List.map_append]
theorem places_atR {p:ProgD} {f:Nat} (hf:f≤p.funcs.length) {i:Nat} {s:ByteArray} (hs:(varsR p f)[i]?=some s):(placesP p)[firstR p f+i]?=some (fiR p f,s):=by
 have hi:=(List.getElem?_eq_some_iff.1 hs).1
 unfold placesP
 rcases Nat.lt_or_ge f p.funcs.length with hlt|hge
 ·obtain⟨x,hx⟩:∃ x,p.funcs[f]?=some x:=⟨_,lgFlS hlt⟩
  obtain⟨rest,e⟩:=placesF_split p.funcs 0 f x hx
  rw[varsR_fn hx] at hs hi
  have hl:(placesOf (-1) (localsL [] p.main [])).length=(localsL [] p.main []).length:=by unfold placesOf;simp
  unfold firstR
  rw[if_pos hlt,e,fiR_fn hx,funPlaces_is,Nat.zero_add]
  rw[List.getElem?_append_right (by rw[hl];omega),hl]
  rw[List.getElem?_append_right (by omega)]
  rw[show (localsL [] p.main []).length+(placesF 0 (p.funcs.take f)).length+i-(localsL [] p.main []).length-(placesF 0 (p.funcs.take f)).length=i from by omega]
  have hpl:(placesOf (f:Int) (x.params++localsL x.params x.code [])).length=(x.params++localsL x.params x.code []).length:=by unfold placesOf;simp
  rw[List.getElem?_append_left (by rw[hpl];exact hi)]
  unfold placesOf
  rw[List.getElem?_map,hs];rfl
 ·obtain rfl:f=p.funcs.length:=by omega
  rw[varsR_main] at hs hi
  unfold firstR
  rw[if_neg (Nat.lt_irrefl _),Nat.zero_add,fiR_main]
  rw[List.getElem?_append_left (by unfold placesOf;rw[List.length_map];exact hi)]
  unfold placesOf
  rw[List.getElem?_map,hs];rfl
theorem reg_hitR {p:ProgD} (H:WfP p) {f:Nat} (hf:f≤p.funcs.length) {i:Nat} {s:ByteArray} (hs:(varsR p f)[i]?=some s):(envOf p).reg (fiR p f) s=((firstR p f+i:Nat):Int):=by
 unfold EnvF.reg
 show ((regN (placesP p) (fiR p f) s:Nat):Int)=_
 rw[regN_atR (placesP_nodup H) (places_atR hf hs)]
theorem placesF_fstR:∀ (l:List FuncD) (i:Nat) (q:Int × ByteArray),q∈placesF i l→∃ (k:Nat) (x:FuncD),l[k]?=some x∧q.1=((i+k:Nat):Int)∧(q.2∈x.params ∨ q.2∈localsL x.params x.code [])
 | [],_,_,h=>by cases h
 | x :: r,i,q,h=>by
  rw[placesF] at h
  rcases List.mem_append.1 h with h|h
  ·refine⟨0,x,rfl,?_,?_⟩
   ·rw[funPlaces_fst h];rfl
   ·unfold funPlaces placesOf at h
    rcases List.mem_append.1 h with h|h
    ·obtain⟨s,hs,rfl⟩:=List.mem_map.1 h;exact .inl hs
    ·obtain⟨s,hs,rfl⟩:=List.mem_map.1 h;exact .inr hs
  ·obtain⟨k,y,h1,h2,h3⟩:=placesF_fstR r (i+1) q h
   exact⟨k+1,y,by simpa using h1,by rw[h2];omega,h3⟩
theorem reg_missR {p:ProgD} {f:Nat} (hf:f≤p.funcs.length) {s:ByteArray} (hs:s ∉ varsR p f):(envOf p).reg (fiR p f) s=0:=by
 unfold EnvF.reg
 show ((regN (placesP p) (fiR p f) s:Nat):Int)=_
 rw[regN_noneR]
 ·rfl
 ·intro hm
  apply hs
  unfold placesP at hm
  rcases Nat.lt_or_ge f p.funcs.length with hlt|hge
  ·obtain⟨x,hx⟩:∃ x,p.funcs[f]?=some x:=⟨_,lgFlS hlt⟩
   rw[varsR_fn hx]
   rw[fiR_fn hx] at hm
   rcases List.mem_append.1 hm with hm|hm
   ·unfold placesOf at hm
    obtain⟨t,_,e⟩:=List.mem_map.1 hm
    simp only[Prod.mk.injEq] at e
    omega
   ·obtain⟨k,y,h1,h2,h3⟩:=placesF_fstR _ _ _ hm
    simp only at h2 h3
    have:k=f:=by omega
    subst this
    rw[hx] at h1;cases h1
    exact List.mem_append.2 h3
  ·obtain rfl:f=p.funcs.length:=by omega
   rw[varsR_main]
   rw[fiR_main] at hm
   rcases List.mem_append.1 hm with hm|hm
   ·unfold placesOf at hm
    obtain⟨t,ht,e⟩:=List.mem_map.1 hm
    simp only[Prod.mk.injEq,true_and] at e
    rw[← e];exact ht
   ·obtain⟨k,y,h1,h2,h3⟩:=placesF_fstR _ _ _ hm
    simp only at h2
    omega
theorem firstR_succ {p:ProgD} {f:Nat} {x:FuncD} (h:p.funcs[f]?=some x):(localsL [] p.main []).length+(placesF 0 (p.funcs.take (f+1))).length=firstR p f+(varsR p f).length:=by
 have hlt:=(List.getElem?_eq_some_iff.1 h).1
 unfold firstR
 rw[if_pos hlt,List.take_add_one,h]
 show _+(placesF 0 (p.funcs.take f++[x])).length=_
 rw[placesF_snoc,List.length_append,funPlaces_is,varsR_fn h]
 unfold placesOf
 rw[List.length_map]
 omega
/-! ### the state ahead of the k-th instruction, without early ends -/
namespace EnvF
variable (E:EnvF)
def stI (B:Int→Int→List CodeD→List CodeD) (f dst:Int) (C:List CodeD) (code:List InstrD) (k:Nat):StF:=(code.take k).foldl (E.stepI B f dst) ⟨C,[],[],[],false⟩
theorem stI_zero (B:Int→Int→List CodeD→List CodeD) (f dst:Int) (C:List CodeD) (code:List InstrD):E.stI B f dst C code 0=⟨C,[],[],[],false⟩:=by unfold stI;simp
theorem stI_succ (B:Int→Int→List CodeD→List CodeD) (f dst:Int) (C:List CodeD) (code:List InstrD) (k:Nat) (x:InstrD) (h:code[k]?=some x):E.stI B f dst C code (k+1)=E.stepI B f dst (E.stI B f dst C code k) x:=by
 unfold stI
 rw[List.take_add_one,h,List.foldl_append];rfl
theorem stI_all (B:Int→Int→List CodeD→List CodeD) (f dst:Int) (C:List CodeD) (code:List InstrD):E.stI B f dst C code code.length=E.foldI B f dst code C:=by unfold stI foldI;rw[List.take_length]
def mStep (s:StF) (M:List (Nat × ByteArray)) (x:InstrD):List (Nat × ByteArray):=
 if x.kind=8 ∨ x.kind=9 then M++[(s.C.length,x.name)] else if x.kind=12 then M++[(s.C.length+1,⟨#[]⟩)] else M
def mI (B:Int→Int→List CodeD→List CodeD) (f dst:Int) (C:List CodeD) (code:List InstrD):Nat→List (Nat × ByteArray)
 | 0=>[]
 | k+1=>match code[k]? with|some x=>mStep (E.stI B f dst C code k) (mI B f dst C code k) x|none=>mI B f dst C code k
theorem mI_succ (B:Int→Int→List CodeD→List CodeD) (f dst:Int) (C:List CodeD) (code:List InstrD) (k:Nat) (x:InstrD) (h:code[k]?=some x):E.mI B f dst C code (k+1)=mStep (E.stI B f dst C code k) (E.mI B f dst C code k) x:=by
 rw[mI,h]
theorem stepI_J (B:Int→Int→List CodeD→List CodeD) (f dst:Int) (s:StF) (x:InstrD):(E.stepI B f dst s x).J=if x.kind=8 ∨ x.kind=9 then s.J++[(s.C.length,x.name)] else s.J:=by
 unfold stepI
 by_cases h4:x.kind=4
 ·rw[if_pos h4,if_neg (by omega)]
 rw[if_neg h4]
 by_cases h10:x.kind=10
 ·rw[if_pos h10,if_neg (by omega)]
 rw[if_neg h10]
 by_cases h8:x.kind=8 ∨ x.kind=9
 ·rw[if_pos h8,if_pos h8]
 rw[if_neg h8,if_neg h8]
 split <;> rfl
theorem stepI_T (B:Int→Int→List CodeD→List CodeD) (f dst:Int) (s:StF) (x:InstrD):(E.stepI B f dst s x).T=if x.kind=12 then s.T++[s.C.length+1] else s.T:=by
 unfold stepI
 by_cases h4:x.kind=4
 ·rw[if_pos h4,if_neg (by omega)]
 rw[if_neg h4]
 by_cases h10:x.kind=10
 ·rw[if_pos h10,if_neg (by omega)]
 rw[if_neg h10]
 by_cases h8:x.kind=8 ∨ x.kind=9
 ·rw[if_pos h8,if_neg (by omega)]
 rw[if_neg h8]
 split <;> rfl
theorem stepI_L (B:Int→Int→List CodeD→List CodeD) (f dst:Int) (s:StF) (x:InstrD):(E.stepI B f dst s x).L=if x.kind=10 then (x.name,(s.C.length:Int)) :: s.L else s.L:=by
 unfold stepI
 by_cases h4:x.kind=4
 ·rw[if_pos h4,if_neg (by omega)]
 rw[if_neg h4]
 by_cases h10:x.kind=10
 ·rw[if_pos h10,if_pos h10]
 rw[if_neg h10,if_neg h10]
 split
 ·rfl
 split <;> rfl
theorem stI_tl (n:Nat) (f dst:Int) (C:List CodeD) (code:List InstrD) (k:Nat):∀ t∈(E.stI (E.bodyI n) f dst C code k).T,t<(E.stI (E.bodyI n) f dst C code k).C.length:=by
 induction k with
 | zero=>rw[stI_zero];intro t ht;cases ht
 | succ k ih=>
  cases h:code[k]? with
  | none=>
   have e:E.stI (E.bodyI n) f dst C code (k+1)=E.stI (E.bodyI n) f dst C code k:=by unfold stI;rw[List.take_add_one,h];simp
   rw[e];exact ih
  | some x=>
   rw[E.stI_succ _ f dst C code k x h]
   intro t ht
   rw[stepI_T] at ht
   have hl:=E.stepI_len (E.bodyI n) (E.bodyI_len n) f dst (E.stI (E.bodyI n) f dst C code k) x
   split at ht
   ·rename_i h12
    rcases List.mem_append.1 ht with ht|ht
    ·have:=ih t ht;omega
    ·rw[List.mem_singleton] at ht
     subst ht
     unfold stepI
     rw[if_neg (by omega),if_neg (by omega),if_neg (by omega),if_pos h12]
     simp
   ·have:=ih t ht;omega
theorem setN_comm (C:List CodeD) (i j:Nat) (u v:Int) (h:i≠j):setN (setN C i u) j v=setN (setN C j v) i u:=by
 apply List.ext_getElem?
 intro k
 unfold setN
 simp only[List.getElem?_modify]
 cases C[k]? with
 | none=>rfl
 | some d=>
  by_cases h1:i=k
  ·by_cases h2:j=k
   ·omega
   ·simp[h1,h2]
  ·by_cases h2:j=k
   ·simp[h1,h2]
   ·simp[h1,h2]
theorem patch_comm (i:Nat) (u:Int):∀ (P:List (Nat × Int)) (C:List CodeD),(∀ q∈P,q.1≠i)→patch (setN C i u) P=setN (patch C P) i u
 | [],_,_=>rfl
 | q :: r,C,h=>by
  show patch (setN (setN C i u) q.1 q.2) r=setN (patch (setN C q.1 q.2) r) i u
  rw[setN_comm _ _ _ _ _ (Ne.symm (h q (by simp))),patch_comm i u r _ (fun x hx=>h x (by simp[hx]))]
theorem patch_mI (n:Nat) (f dst:Int) (C:List CodeD) (code:List InstrD) (hn:∀ x∈code,x.kind=8 ∨ x.kind=9→x.name≠⟨#[]⟩) (tj:ByteArray→Int) (tr:Int) (D:List CodeD) (k:Nat) :
  patch D ((E.mI (E.bodyI n) f dst C code k).map fun q=>(q.1,if q.2=⟨#[]⟩ then tr else tj q.2))=patch (patch D ((E.stI (E.bodyI n) f dst C code k).J.map fun q=>(q.1,tj q.2))) ((E.stI (E.bodyI n) f dst C code k).T.map fun t=>(t,tr)):=by
 induction k with
 | zero=>rw[stI_zero];rfl
 | succ k ih=>
  cases h:code[k]? with
  | none=>
   have e:E.stI (E.bodyI n) f dst C code (k+1)=E.stI (E.bodyI n) f dst C code k:=by unfold stI;rw[List.take_add_one,h];simp
   have e2:E.mI (E.bodyI n) f dst C code (k+1)=E.mI (E.bodyI n) f dst C code k:=by rw[mI,h]
   rw[e,e2];exact ih
  | some x=>
   rw[E.stI_succ _ f dst C code k x h,E.mI_succ _ f dst C code k x h,stepI_J,stepI_T]
   unfold mStep
   have htl:=E.stI_tl n f dst C code k
   by_cases h8:x.kind=8 ∨ x.kind=9
   ·rw[if_pos h8,if_pos h8,if_neg (by omega),List.map_append,List.map_append]
    simp only[List.map_cons,List.map_nil]
    rw[patch_snoc,patch_snoc,ih,if_neg (hn x (List.mem_of_getElem? h) h8)]
    rw[patch_comm]
    intro q hq
    obtain⟨t,ht,rfl⟩:=List.mem_map.1 hq
    have:=htl t ht
    simp only
    omega
   ·rw[if_neg h8,if_neg h8]
    by_cases h12:x.kind=12
    ·rw[if_pos h12,if_pos h12,List.map_append,List.map_append]
     simp only[List.map_cons,List.map_nil]
     rw[patch_snoc,patch_snoc,ih]
     simp
    ·rw[if_neg h12,if_neg h12]
     exact ih
end EnvF
/-! ### what has become too long -/
def InvR (D C:List CodeD) (long:Bool):Prop:=(long=false∧C=D∧D.length≤4097) ∨ (long=true∧C.length=4097∧4097<D.length)
theorem InvR.len {D C:List CodeD} {long:Bool} (h:InvR D C long):C.length≤4097:=by
 rcases h with ⟨_,rfl,h⟩|⟨_,h,_⟩ <;> omega
theorem InvR.put {D C:List CodeD} {long:Bool} (h:InvR D C long) (c:CodeD):InvR (D++[c]) (if 4096<C.length then C else C++[c]) (if 4096<C.length then true else long):=by
 rcases h with ⟨rfl,rfl,h⟩|⟨rfl,h1,h2⟩
 ·by_cases hl:4096<C.length
  ·rw[if_pos hl,if_pos hl]
   exact .inr ⟨rfl,by omega,by simp;omega⟩
  ·rw[if_neg hl,if_neg hl]
   exact .inl ⟨rfl,rfl,by simp;omega⟩
 ·rw[if_pos (by omega),if_pos (by omega)]
  exact .inr ⟨rfl,h1,by simp;omega⟩
theorem InvR.grow {D D' C:List CodeD} (h:InvR D C true) (hl:D.length≤D'.length):InvR D' C true:=by
 rcases h with ⟨h,_⟩|⟨_,h1,h2⟩
 ·cases h
 ·exact .inr ⟨rfl,h1,by omega⟩
open Go.ChangeMaps Go.MapKept Go.WideMaps
def RdNames (lo:Option (Nat→Prop)) (w:World) (v:Value) (ls:List (List ByteArray)):Prop:=
 ∃ a c,v=.slice a ls.length c∧ls.length≤100∧∀ i l,ls[i]?=some l→∃ b o iv,a=some ⟨b,o,none⟩∧Free lo 22 w b∧w.cell? ⟨b,o+i,none⟩=some iv∧RdStrs lo w iv l
theorem RdNames.keep {lo:Option (Nat→Prop)} {w w':World} {v:Value} {l:List (List ByteArray)} (h:RdNames lo w v l) (k:Below w.heap.size w w'):RdNames lo w' v l:=by
 obtain⟨a,c,rfl,hl,hr⟩:=h
 refine⟨a,c,rfl,hl,fun i x hx=>?_⟩
 obtain⟨b,o,iv,rfl,hf,h0,h1⟩:=hr i x hx
 exact⟨b,o,iv,rfl,hf.keep (block_lt_of_cell h0) k,cell_keep k h0,h1.keep k⟩
theorem RdNames.at {lo:Option (Nat→Prop)} {w:World} {a:Option Addr} {n c:Nat} {ls:List (List ByteArray)} (h:RdNames lo w (.slice a n c) ls) {i:Nat} {l:List ByteArray} (hx:ls[i]?=some l) :
  ∃ b o a' c',a=some ⟨b,o,none⟩∧w.cell? ⟨b,o+i,none⟩=some (.slice a' l.length c')∧RdStrs lo w (.slice a' l.length c') l:=by
 obtain⟨a',c',e,hl,hr⟩:=h
 simp only[Value.slice.injEq] at e
 obtain⟨rfl,_,_⟩:=e
 obtain⟨b,o,iv,e,h1,h2,h3⟩:=hr i l hx
 obtain⟨a2,c2,rfl,_⟩:=id h3
 exact⟨b,o,a2,c2,e,h2,h3⟩
theorem RdNames.sameR {g:Nat→Prop} {w w':World} {v:Value} {l:List (List ByteArray)} (h:RdNames (some g) w v l) (k:∀ b,g b→w'.heap[b]?=w.heap[b]?):RdNames (some g) w' v l:=by
 obtain⟨a,c,rfl,hl,hr⟩:=h
 refine⟨a,c,rfl,hl,fun i x hx=>?_⟩
 obtain⟨b,o,iv,rfl,hf,h0,h1⟩:=hr i x hx
 obtain⟨h3,cs,h4⟩:=hf g rfl
 exact⟨b,o,iv,rfl,Free.of h3 ((k b h3).trans h4),by rw[World.cell?_of_block (w:=w) (k b h3)];exact h0,RdStrs.same h1 (fun b hb _=>k b hb) (fun _ _ q=>q)⟩
structure RMk where
 w0:World
 c1:Nat
 M:Nat
 E:EnvF
 ac:Option Addr
 kc:Nat
 aa:Option Addr
 ka:Nat
 af:Option Addr
 kf:Nat
 am:Option Addr
 km:Nat
 va:Option Addr
 vk:Nat
 fa:Option Addr
 fk:Nat
 ca:Option Addr
 ck:Nat
 sa:Option Addr
 sk:Nat
 ra:Option Addr
 rk:Nat
 rg:Int
namespace RMk
abbrev cells (m:RMk) (kv:Value) (long:Bool):Array Value:=#[.int .i64 m.E.p.width,.slice m.ac m.E.p.chans.length m.kc,.slice m.aa m.E.p.arrays.length m.ka,.slice m.af m.E.p.funcs.length m.kf,.slice m.am m.E.p.main.length m.km,.slice m.va (m.E.p.funcs.length+1) m.vk,.slice m.fa (m.E.p.funcs.length+1) m.fk,.int .i64 m.E.p.width,.int .i64 m.rg,.slice m.ca m.E.p.chans.length m.ck,.slice m.sa m.E.S.length m.sk,.slice m.ra m.E.p.arrays.length m.rk,kv,.bool long]
def lo (m:RMk):Nat→Prop:=fun k=>m.w0.heap.size≤k∧k<m.c1
def varsL (p:ProgD):List (List ByteArray):=(List.range (p.funcs.length+1)).map (varsR p)
def firstL (p:ProgD):List Int:=(List.range (p.funcs.length+1)).map fun i=>(firstR p i:Int)
structure Ok (m:RMk):Prop where
 prog:RdProg none m.w0 m.E.p (.slice m.ac m.E.p.chans.length m.kc) (.slice m.aa m.E.p.arrays.length m.ka) (.slice m.af m.E.p.funcs.length m.kf) (.slice m.am m.E.p.main.length m.km)
 chk:checkF m.E.p=none
 env:m.E=envOf m.E.p
structure At (m:RMk) (kv:Value) (long:Bool) (C:List CodeD) (w:World):Prop where
 below:Below m.w0.heap.size m.w0 w
 hm:w.heap[m.M]?=some (.cells (m.cells kv long) 85 (0,0))
 own:w.ownsRow m.w0.heap.size 48 8 kv C.length (C.flatMap cellsCode)
 ok:∀ c∈C,okC c
 vars:RdNames (some m.lo) w (.slice m.va (m.E.p.funcs.length+1) m.vk) (varsL m.E.p)
 first:RdRow kInt (some m.lo) w (.slice m.fa (m.E.p.funcs.length+1) m.fk) (firstL m.E.p)
 chs:RdStrs (some m.lo) w (.slice m.ca m.E.p.chans.length m.ck) m.E.p.chans
 sit:RdStrs (some m.lo) w (.slice m.sa m.E.S.length m.sk) m.E.S
 arr:RdRow kInt (some m.lo) w (.slice m.ra m.E.p.arrays.length m.rk) (m.E.p.arrays.map (·.size))
 lm:m.w0.heap.size≤m.M
 hc1:m.c1≤w.heap.size
def Grew (m:RMk) (kv kv':Value) (w w':World):Prop:=Turned (fun k=>k=m.M ∨ kv.ownBlock=some k) w w'∧∀ k,kv'.ownBlock=some k→kv.ownBlock=some k ∨ w.heap.size≤k
theorem Grew.trans {m:RMk} {a b c:Value} {w x y:World} (h:m.Grew a b w x) (k:m.Grew b c x y):m.Grew a c w y:=
 ⟨h.1.step k.1 fun i hi e=>by
  rcases e with e|e
  ·exact .inl e
  ·rcases h.2 i e with e|e
   ·exact .inr e
   ·omega,fun i e=>by
  rcases k.2 i e with e|e
  ·exact h.2 i e
  ·exact .inr (Nat.le_trans h.1.size e)⟩
theorem Grew.of_below {m:RMk} {a:Value} {w x:World} (h:Below w.heap.size w x):m.Grew a a w x:=⟨Turned.of_below h,fun _ e=>.inl e⟩
theorem At.keep {m:RMk} {kv:Value} {long:Bool} {C:List CodeD} {w w':World} (h:m.At kv long C w) (k:Below w.heap.size w w'):m.At kv long C w':=
 ⟨bcomp h.below k,(k.block _ (gsFlS h.hm)).trans h.hm,own_below h.own k,h.ok,h.vars.keep k,h.first.keep k,h.chs.keep k,h.sit.keep k,h.arr.keep k,h.lm,Nat.le_trans h.hc1 k.size⟩
theorem At.mlt {m:RMk} {kv:Value} {long:Bool} {C:List CodeD} {w:World} (h:m.At kv long C w):m.M<w.heap.size:=(gsFlS h.hm)
theorem At.prog {m:RMk} {kv:Value} {long:Bool} {C:List CodeD} {w:World} (h:m.At kv long C w) (H:m.Ok):RdProg none w m.E.p (.slice m.ac m.E.p.chans.length m.kc) (.slice m.aa m.E.p.arrays.length m.ka) (.slice m.af m.E.p.funcs.length m.kf) (.slice m.am m.E.p.main.length m.km):=H.prog.keep h.below
theorem At.cell {m:RMk} {kv kv':Value} {long:Bool} {C:List CodeD} {w w':World} (h:m.At kv long C w) (g:m.Grew kv kv' w w') {b:Nat} {cs:Array Value} {T:TypeId} (hb:w.heap[b]?=some (.cells cs T (0,0))) (h1:T≠85) (h2:T≠48):w'.heap[b]?=some (.cells cs T (0,0)):=by
 refine (g.1.block b (gsFlS hb) ?_).trans hb
 rintro (e|e)
 ·rw[e,h.hm] at hb;simp at hb;exact h1 hb.2.symm
 ·exact own_ne_cells h.own hb h2 e
section
variable {m:RMk} {kv kv':Value} {long:Bool} {C:List CodeD} {w w':World} {G:Nat→Prop}
theorem free_grewR (h:m.At kv long C w) (g:m.Grew kv kv' w w') {T:TypeId} (h1:T≠85) (h2:T≠48) {b:Nat} (hf:Free (some G) T w b):Free (some G) T w' b:=by
 obtain⟨h3,cs,h4⟩:=hf G rfl
 exact Free.of h3 (h.cell g h4 h1 h2)
theorem cell_grewR (h:m.At kv long C w) (g:m.Grew kv kv' w w') {T:TypeId} (h1:T≠85) (h2:T≠48) {b o:Nat} {v:Value} (hf:Free (some G) T w b) (hc:w.cell? ⟨b,o,none⟩=some v):w'.cell? ⟨b,o,none⟩=some v:=by
 obtain⟨h3,cs,h4⟩:=hf G rfl
 rw[World.cell?_of_block (w:=w) ((h.cell g h4 h1 h2).trans h4.symm)]
 exact hc
theorem strs_grewR (h:m.At kv long C w) (g:m.Grew kv kv' w w') {v:Value} {l:List ByteArray} (hr:RdStrs (some G) w v l):RdStrs (some G) w' v l:=
 RdStrs.map (S:=fun T=>T=9) (fun T b hT _ hf=>by subst hT;exact free_grewR h g (by decide) (by decide) hf) (fun T b o u hT hf hc=>by subst hT;exact cell_grewR h g (by decide) (by decide) hf hc) rfl hr
theorem ints_grewR (h:m.At kv long C w) (g:m.Grew kv kv' w w') {v:Value} {l:List Int} (hr:RdRow kInt (some G) w v l):RdRow kInt (some G) w' v l:=
 RdRow.map (fun b _ hf=>free_grewR h g (by decide) (by decide) hf) (fun b o v hf hc=>cell_grewR h g (by decide) (by decide) hf hc) hr
theorem names_grewR (h:m.At kv long C w) (g:m.Grew kv kv' w w') {v:Value} {l:List (List ByteArray)} (hr:RdNames (some G) w v l):RdNames (some G) w' v l:=by
 obtain⟨a,c,rfl,hl,hq⟩:=hr
 refine⟨a,c,rfl,hl,fun i x hx=>?_⟩
 obtain⟨b,o,iv,rfl,hf,h0,h1⟩:=hq i x hx
 exact⟨b,o,iv,rfl,free_grewR h g (by decide) (by decide) hf,cell_grewR h g (by decide) (by decide) hf h0,strs_grewR h g h1⟩
end
end RMk
theorem varsL_at {p:ProgD} {f:Nat} (hf:f≤p.funcs.length):(RMk.varsL p)[f]?=some (varsR p f):=by
 unfold RMk.varsL
 rw[List.getElem?_map,List.getElem?_range (by omega)];rfl
theorem firstL_at {p:ProgD} {f:Nat} (hf:f≤p.funcs.length):(RMk.firstL p)[f]?=some (firstR p f:Int):=by
 unfold RMk.firstL
 rw[List.getElem?_map,List.getElem?_range (by omega)];rfl
theorem trim_is (n:Nat) (h1:1≤n) (h2:n≤64) (v:Int) (hv:InU64 v):v%2 ^ n=trimW (n:Int) v:=by
 unfold trimW
 split
 ·rename_i e
  obtain rfl:n=64:=by omega
  exact Int.emod_eq_of_lt hv.1 (by have:=hv.2;show v<18446744073709551616;omega)
 ·rfl
theorem number_any (m:RMk) (H:m.Ok) (kv:Value) (long:Bool) (C:List CodeD) (v:Int) (w:World) (h:m.At kv long C w) (hv:InU64 v) :
  Calls Tryd.prog 78 #[.pointer (some ⟨m.M,0,none⟩),.int .u64 v] w fun e w'=>e=.returned (.agg #[.int .i64 (-1),.int .u64 (trimW m.E.p.width v)])∧Below w.heap.size w w':=by
 have hwd:=(wfP_of H.chk).wd
 obtain⟨n,hn⟩:∃ n:Nat,m.E.p.width=n:=⟨m.E.p.width.toNat,by omega⟩
 have hb0:=(Below.refl w.heap.size w).alloc (Nat.le_refl _) (.cells #[.int .i64 0,.int .u64 0] 45)
 have hx0:=heap_alloc_new w (.cells #[.int .i64 0,.int .u64 0] 45)
 have c0:=row_of (h.keep hb0).hm 0 (.int .i64 m.E.p.width) rfl
 have HT:=fun z=>refTrim n v (by omega) (by omega) hv z
 rw[trim_is n (by omega) (by omega) v hv] at HT
 rw[hn] at c0 ⊢
 have HTT:=hid HT
 have HB:=hid hb0
 have HX:=hid hx0
 obtain⟨t,ht⟩:∃ t,trimW (n:Int) v=t:=⟨_,rfl⟩
 rw[ht] at HTT ⊢
 clear h hn hwd hb0 hx0 HT ht hv
 go_enter Tryd.func78,Tryd.ntmps78
 go_wp2_with (first|(go_at_call 86;refine (HTT.out _).mono ?_;rintro e z ⟨rfl,rfl⟩)|(refine wpList_store_row rfl 45 (.tmp 4) (.tmp 16) rfl w.heap.size #[.int .i64 (-1),.int .u64 t] rfl rfl 45 #[.int .i64 0,.int .u64 0] ?hs1 (by as_aux_lemma=>kernel_rfl) (by as_aux_lemma=>kernel_rfl) (by as_aux_lemma=>kernel_rfl) ?_;exact HX.out))
 refine bodyPost_ret (v:=.agg #[.int .i64 (-1),.int .u64 t]) (results_cell_row (P:=Tryd.prog) (fn:=Tryd.f78) rfl _ _ w.heap.size 45 _ (0,0) _ rfl (setRow_heap _ _ _ _ _ _ HX.out) Tryd.underlying45 rfl (by kernel_rfl)) rfl ⟨rfl,below_row HB.out (Nat.le_refl _) _⟩
theorem ba_injR {s t:ByteArray} (h:s.toList=t.toList):s=t:=by
 rw[ByteArray.toList_eq,ByteArray.toList_eq] at h
 cases s;cases t;simp at h;rw[h]
theorem list_hit {l:List ByteArray} {k:Nat} {x s:ByteArray} (h:l[k]?=some x) (e:(x.toList==s.toList)=true):l[k]?=some s:=by
 rw[h,(ba_injR (by simpa using e):x=s)]
theorem rreg_any (m:RMk) (H:m.Ok) (kv:Value) (long:Bool) (C:List CodeD) (f:Nat) (s:ByteArray) (w:World) (h:m.At kv long C w) (hf:f≤m.E.p.funcs.length) :
  Calls Tryd.prog 74 #[.pointer (some ⟨m.M,0,none⟩),.int .i64 f,.string s] w fun e w'=>e=.returned (.int .i64 (m.E.reg (fiR m.E.p f) s))∧Below w.heap.size w w':=by
 have hW:=wfP_of H.chk
 have hv:=varsL_at hf
 have hfi:=firstL_at hf
 have c5:=row_of h.hm 5 (.slice m.va (m.E.p.funcs.length+1) m.vk) rfl
 have c6:=row_of h.hm 6 (.slice m.fa (m.E.p.funcs.length+1) m.fk) rfl
 obtain⟨b,o,a',c',e1,n0,hr⟩:=h.vars.at hv
 obtain⟨b2,o2,e2,_,n1,_⟩:=atInt h.first hfi
 rw[e1] at c5
 rw[e2] at c6
 have hrr:=hr
 obtain⟨a3,c3,e3,⟨hl3,_⟩,hr3⟩:=hrr
 simp only[Value.slice.injEq,true_and] at e3
 obtain⟨rfl,rfl⟩:=e3
 have hflt:(f:Int)<((m.E.p.funcs.length+1:Nat):Int):=by omega
 have HIT:Hid (∀ i,(varsR m.E.p f)[i]?=some s→m.E.reg (fiR m.E.p f) s=((firstR m.E.p f+i:Nat):Int)):=fun i hi=>by rw[H.env];exact reg_hitR hW hf hi
 have MISS:Hid (s ∉ varsR m.E.p f→m.E.reg (fiR m.E.p f) s=0):=fun hs=>by rw[H.env];exact reg_missR hf hs
 have hfr:((firstR m.E.p f:Nat):Int)+(varsR m.E.p f).length≤2000000:=by
  have h1:=placesP_len H.chk
  rcases Nat.lt_or_ge 0 (varsR m.E.p f).length with h2|h2
  ·have h3:=places_atR hf (i:=(varsR m.E.p f).length-1) (List.getElem?_eq_getElem (by omega))
   have:=(List.getElem?_eq_some_iff.1 h3).1
   omega
  ·have h3:firstR m.E.p f≤(placesP m.E.p).length:=by
    unfold firstR
    split
    ·rename_i hlt
     obtain⟨x,hx⟩:∃ x,m.E.p.funcs[f]?=some x:=⟨_,lgFlS hlt⟩
     obtain⟨rest,e⟩:=placesF_split m.E.p.funcs 0 f x hx
     unfold placesP
     rw[e]
     unfold placesOf
     simp only[List.length_append,List.length_map]
     omega
    ·omega
   omega
 obtain⟨V,hV⟩:∃ V,varsR m.E.p f=V:=⟨_,rfl⟩
 rw[hV] at hr3 n0 hl3 HIT MISS hfr
 have HR:=hid hr3
 clear hr e1 e2 hv hfi hW hr3 hV hf h
 obtain⟨rs,hrs⟩:∃ r:Int,m.E.reg (fiR m.E.p f) s=r:=⟨_,rfl⟩
 rw[hrs] at HIT MISS ⊢
 obtain⟨fr,hfr'⟩:∃ r:Nat,firstR m.E.p f=r:=⟨_,rfl⟩
 rw[hfr'] at n1 HIT hfr
 clear hrs hfr'
 go_enter Tryd.func74,Tryd.ntmps74
 go_wp2_with fail
 go_loopw [7] (fun i wr=>∃ k:Nat,k≤V.length∧i=.int .i64 k∧wr=w∧Hid (∀ j,j<k→V[j]?≠some s)) (fun i _=>V.length-(intOf i).toNat)
 case atStart=>exact⟨0,Nat.zero_le _,rfl,rfl,fun j hj=>by omega⟩
 case round=>
  obtain⟨k,hk,rfl,rfl,HN⟩:=hrel
  by_cases hlt:k<V.length
  ·obtain⟨x,hx⟩:∃ x,V[k]?=some x:=⟨_,lgFlS hlt⟩
   obtain⟨b4,o4,e4,_,n4,_⟩:=HR.out k x hx
   subst e4
   have hklt:(k:Int)<(V.length:Int):=by omega
   cases he:(x.toList==s.toList)
   ·have HN2:Hid (∀ j,j<k+1→V[j]?≠some s):=fun j hj e=>by
     rcases Nat.lt_or_ge j k with h1|h1
     ·exact HN.out j h1 e
     ·obtain rfl:j=k:=by omega
      rw[hx] at e;cases e
      simp at he
    clear hx
    go_wp2_with fail
    go_roundw
    case rel=>exact⟨k+1,by omega,by go_num,trivial,HN2⟩
    case measure=>simp[intOf];omega
   ·have HQ:=hid (HIT.out k (list_hit hx he))
    clear hx
    go_wp2_with fail
    go_ret
    exact⟨by rw[HQ.out];simp,Below.refl _ _⟩
  ·obtain rfl:k=V.length:=by omega
   have hlt1:¬ (V.length:Int)<(V.length:Int):=by omega
   have HQ:=hid (MISS.out (fun hm=>by obtain⟨j,hj⟩:=List.getElem?_of_mem hm;exact HN.out j (List.getElem?_eq_some_iff.1 hj).1 hj))
   go_wp2_with fail
   go_ret
   exact⟨by rw[HQ.out];rfl,Below.refl _ _⟩
theorem rref_any (m:RMk) (H:m.Ok) (kv:Value) (long:Bool) (C:List CodeD) (f:Nat) (a:ArgD) (w:World) (h:m.At kv long C w) (hf:f≤m.E.p.funcs.length) (ha:InU64 a.num) :
  Calls Tryd.prog 75 #[.pointer (some ⟨m.M,0,none⟩),.int .i64 f,.agg #[.string a.name,.int .u64 a.num]] w fun e w'=>e=.returned (refA (m.E.ref (fiR m.E.p f) a))∧Below w.heap.size w w':=by
 obtain⟨hx0,hx1,hb0⟩:=heap2_of (w:=w) (A:=.cells #[.string a.name,.int .u64 a.num] 65) (B:=.cells #[.int .i64 0,.int .u64 0] 45) (Below.refl _ _)
 have h0:=h.keep hb0
 have HB:=hid hb0
 have HX1:=hid hx1
 have c2:=row_of hx0 0 (.string a.name) rfl
 have c3:=row_of hx0 1 (.int .u64 a.num) rfl
 have HN:=hid (number_any m H kv long C a.num _ h0 ha)
 have HR:=hid (rreg_any m H kv long C f a.name _ h0 hf)
 clear h hx0 hx1 hb0 h0 ha
 cases hemp:a.name.toList.isEmpty
 ·have HV:Hid (m.E.ref (fiR m.E.p f) a=⟨m.E.reg (fiR m.E.p f) a.name,0⟩):=by
   show _=_
   unfold EnvF.ref refF EnvF.reg
   rw[hemp];rfl
  rw[HV.out]
  obtain⟨n,hn⟩:∃ n:Int,m.E.reg (fiR m.E.p f) a.name=n:=⟨_,rfl⟩
  rw[hn] at HR ⊢
  clear hn HV HN
  go_enter Tryd.func75,Tryd.ntmps75
  go_upto_region 1 with fail
  generalize (w.alloc (.cells #[.string a.name,.int .u64 a.num] 65)).alloc (.cells #[.int .i64 0,.int .u64 0] 45)=W at *
  go_wp2_with (first|(go_at_call 74;refine HR.out.mono ?_;rintro e z ⟨rfl,hz⟩;have BZ:=hid hz;have HXz:=hid ((hz.block _ (gsFlS HX1.out)).trans HX1.out);clear hz)|(refine wpList_store_row rfl 45 (.tmp 6) (.tmp 19) rfl (w.heap.size+1) #[.int .i64 n,.int .u64 0] rfl rfl 45 #[.int .i64 0,.int .u64 0] ?hs0 (by as_aux_lemma=>kernel_rfl) (by as_aux_lemma=>kernel_rfl) (by as_aux_lemma=>kernel_rfl) ?_;exact HXz.out))
  refine bodyPost_ret (v:=.agg #[.int .i64 n,.int .u64 0]) (results_cell_row (P:=Tryd.prog) (fn:=Tryd.f75) rfl _ _ (w.heap.size+1) 45 _ (0,0) _ rfl (setRow_heap _ _ _ _ _ _ HXz.out) Tryd.underlying45 rfl (by kernel_rfl)) rfl ⟨rfl,below_row (bcomp HB.out BZ.out) (by omega) _⟩
 ·have HV:Hid (m.E.ref (fiR m.E.p f) a=⟨-1,trimW m.E.p.width a.num⟩):=by
   show _=_
   unfold EnvF.ref refF
   rw[hemp];rfl
  rw[HV.out]
  obtain⟨n,hn⟩:∃ n:Int,trimW m.E.p.width a.num=n:=⟨_,rfl⟩
  rw[hn] at HN ⊢
  clear hn HV HR
  go_enter Tryd.func75,Tryd.ntmps75
  go_upto_region 1 with fail
  generalize (w.alloc (.cells #[.string a.name,.int .u64 a.num] 65)).alloc (.cells #[.int .i64 0,.int .u64 0] 45)=W at *
  go_wp2_with (first|(go_at_call 78;refine HN.out.mono ?_;rintro e z ⟨rfl,hz⟩;have BZ:=hid hz;have HXz:=hid ((hz.block _ (gsFlS HX1.out)).trans HX1.out);clear hz)|(refine wpList_store_row rfl 45 (.tmp 6) (.tmp 13) rfl (w.heap.size+1) #[.int .i64 (-1),.int .u64 n] rfl rfl 45 #[.int .i64 0,.int .u64 0] ?hs1 (by as_aux_lemma=>kernel_rfl) (by as_aux_lemma=>kernel_rfl) (by as_aux_lemma=>kernel_rfl) ?_;exact HXz.out))
  refine bodyPost_ret (v:=.agg #[.int .i64 (-1),.int .u64 n]) (results_cell_row (P:=Tryd.prog) (fn:=Tryd.f75) rfl _ _ (w.heap.size+1) 45 _ (0,0) _ rfl (setRow_heap _ _ _ _ _ _ HXz.out) Tryd.underlying45 rfl (by kernel_rfl)) rfl ⟨rfl,below_row (bcomp HB.out BZ.out) (by omega) _⟩
theorem rindex_any (v:Value) (l:List ByteArray) (s:ByteArray) (w:World) (h:RdStrs none w v l) (hm:s∈l) :
  Calls Tryd.prog 76 #[v,.string s] w fun e w'=>e=.returned (.int .i64 (idxS s l 0))∧w=w':=by
 obtain⟨a,c,rfl,⟨hl,_⟩,hr⟩:=id h
 have HR:=hid hr
 have HM:=hid hm
 clear h hr hm
 go_enter Tryd.func76,Tryd.ntmps76
 go_wp2_with fail
 go_loopw [5] (fun i wr=>∃ k:Nat,k≤l.length∧i=.int .i64 k∧wr=w∧Hid (idxS s l 0=idxS s (l.drop k) k)) (fun i _=>l.length-(intOf i).toNat)
 case atStart=>exact⟨0,Nat.zero_le _,rfl,rfl,rfl⟩
 case round=>
  obtain⟨k,hk,rfl,rfl,HQ⟩:=hrel
  by_cases hlt:k<l.length
  ·obtain⟨x,hx⟩:∃ x,l[k]?=some x:=⟨_,lgFlS hlt⟩
   obtain⟨b4,o4,rfl,_,n4,_⟩:=HR.out k x hx
   have hs:=idxS_step s x l k hx
   have hklt:(k:Int)<(l.length:Int):=by omega
   have hcm:(s.toList==x.toList)=(x.toList==s.toList):=by rw[Bool.eq_iff_iff];simp;exact eq_comm
   rw[hcm] at hs
   clear hcm
   cases he:(x.toList==s.toList)
   ·rw[he,if_neg (by simp)] at hs
    have HN:=hid (HQ.out.trans hs)
    clear hx hs
    go_wp2_with fail
    go_roundw
    case rel=>exact⟨k+1,by omega,by go_num,trivial,HN⟩
    case measure=>simp[intOf];omega
   ·rw[he,if_pos rfl] at hs
    have HN:=hid (HQ.out.trans hs)
    clear hx hs
    go_wp2_with fail
    go_ret
    exact⟨by rw[HN.out];rfl,rfl⟩
  ·obtain rfl:k=l.length:=by omega
   exfalso
   have h1:=HQ.out
   rw[List.drop_length] at h1
   have h2:=idxS_pos 0 HM.out
   obtain⟨g,h3,_⟩:=h2
   rw[h3] at h1
   have h4:((0+g:Nat):Int)=-1:=h1
   omega
theorem infoCodeR:(Tryd.prog.info? 48).map (fun i=>(i.zero,i.size,i.bytes))=some (some (.agg #[.int .u8 0,.int .u8 0,.int .i64 0,.int .i64 0,.int .i64 0,.int .u64 0,.int .i64 0,.int .u64 0]),8,56):=by kernel_rfl
theorem two_keepR {W w':World} {a b:Nat} (ha:w'.heap[a]?=W.heap[a]?) (hb:w'.heap[b]?=W.heap[b]?):∀ x∈[a,b],w'.heap[x]?=W.heap[x]?:=by
 intro x hx;simp only[List.mem_cons,List.not_mem_nil,or_false] at hx;rcases hx with rfl|rfl;exact ha;exact hb
theorem RMk.At.flag {m:RMk} {kv:Value} {long:Bool} {C:List CodeD} {w:World} (h:m.At kv long C w):m.At kv true C (w.setCell ⟨m.M,13,none⟩ (.bool true))∧m.Grew kv kv w (w.setCell ⟨m.M,13,none⟩ (.bool true)):=by
 have hsc:=setCell_turned w ⟨m.M,13,none⟩ (.bool true)
 have hg:m.Grew kv kv w (w.setCell ⟨m.M,13,none⟩ (.bool true)):=⟨hsc.mono fun i e=>.inl e,fun k hk=>.inl hk⟩
 refine⟨⟨below_then h.below hsc h.below.size (fun i e=>by rw[e];exact h.lm),?_,own_turn h.own hsc (fun k hk e=>own_ne_cells h.own h.hm (by decide) (by rw[hk,e])),h.ok,RMk.names_grewR h hg h.vars,RMk.ints_grewR h hg h.first,RMk.strs_grewR h hg h.chs,RMk.strs_grewR h hg h.sit,RMk.ints_grewR h hg h.arr,h.lm,Nat.le_trans h.hc1 hg.1.size⟩,hg⟩
 rw[heap_setCell_same _ _ _ _ _ _ h.hm]
 rfl
theorem RMk.At.putted {m:RMk} {k0:Option Addr} {kc0:Nat} {long:Bool} {C:List CodeD} {x y:World} {xa:Option Addr} {xc:Nat} (c:CodeD) (hc:okC c) (h:m.At (.slice k0 C.length kc0) long C x)
  (hT:Turned (fun k=>(Value.slice k0 C.length kc0).ownBlock=some k) x y) (hown:y.ownsRow m.w0.heap.size 48 8 (.slice xa (C.length+1) xc) (C.length+1) (C.flatMap cellsCode++cellsCode c))
  (hblk:∀ k,(Value.slice xa (C.length+1) xc).ownBlock=some k→(Value.slice k0 C.length kc0).ownBlock=some k ∨ x.heap.size≤k) :
  m.At (.slice xa (C.length+1) xc) long (C++[c]) (y.setCell ⟨m.M,12,none⟩ (.slice xa (C.length+1) xc))∧m.Grew (.slice k0 C.length kc0) (.slice xa (C.length+1) xc) x (y.setCell ⟨m.M,12,none⟩ (.slice xa (C.length+1) xc)):=by
 have hsc:=setCell_turned y ⟨m.M,12,none⟩ (.slice xa (C.length+1) xc)
 have hnM:(Value.slice k0 C.length kc0).ownBlock≠some m.M:=own_ne_cells h.own h.hm (by decide)
 have hm1:y.heap[m.M]?=some (.cells (m.cells (.slice k0 C.length kc0) long) 85 (0,0)):=(hT.block _ h.mlt hnM).trans h.hm
 have hnM':(Value.slice xa (C.length+1) xc).ownBlock≠some m.M:=own_ne_cells hown hm1 (by decide)
 have hg:m.Grew (.slice k0 C.length kc0) (.slice xa (C.length+1) xc) x (y.setCell ⟨m.M,12,none⟩ (.slice xa (C.length+1) xc)):=
  ⟨(hT.mono fun i e=>.inr e).trans (hsc.mono fun i e=>.inl e),hblk⟩
 have hb1:=below_then h.below hT h.below.size (fun i e=>(own_is h.own e).1)
 refine⟨⟨below_then hb1 hsc hb1.size (fun i e=>by rw[e];exact h.lm),?_,?_,?_,RMk.names_grewR h hg h.vars,RMk.ints_grewR h hg h.first,RMk.strs_grewR h hg h.chs,RMk.strs_grewR h hg h.sit,RMk.ints_grewR h hg h.arr,h.lm,Nat.le_trans h.hc1 hg.1.size⟩,hg⟩
 ·rw[heap_setCell_same _ _ _ _ _ _ hm1]
  rfl
 ·have h1:=own_turn hown hsc (fun k hk e=>hnM' (by rw[hk,e]))
  rw[List.flatMap_append,List.length_append,List.length_singleton]
  simpa using h1
 ·intro d hd
  rcases List.mem_append.1 hd with hd|hd
  ·exact h.ok d hd
  ·rw[List.mem_singleton] at hd;subst hd;exact hc
theorem rput_any (m:RMk) (c:CodeD) (kv:Value) (long:Bool) (C:List CodeD) (w:World) (h:m.At kv long C w) (hc:okC c) (hl:C.length≤4097) :
  Calls Tryd.prog 40 #[.pointer (some ⟨m.M,0,none⟩),codeA c] w fun e w'=>e=.returned (.tuple #[])∧∃ kv',m.At kv' (if 4096<C.length then true else long) (if 4096<C.length then C else C++[c]) w'∧m.Grew kv kv' w w':=by
 obtain⟨i0,hi,hz0,hz1,hz2⟩:=info_parts infoCodeR
 have hb0:=(Below.refl w.heap.size w).alloc (Nat.le_refl _) (.cells #[.int .u8 c.kind,.int .u8 c.op,.int .i64 c.dst,.int .i64 c.n,.int .i64 c.a.reg,.int .u64 c.a.num,.int .i64 c.b.reg,.int .u64 c.b.num] 48)
 have hg0:=heap_alloc_new w (.cells #[.int .u8 c.kind,.int .u8 c.op,.int .i64 c.dst,.int .i64 c.n,.int .i64 c.a.reg,.int .u64 c.a.num,.int .i64 c.b.reg,.int .u64 c.b.num] 48)
 obtain⟨k0,kc0,rfl,_⟩:=own_read h.own
 have HLT:Hid (∀ k,(Value.slice k0 C.length kc0).ownBlock=some k→k<w.heap.size):=fun k hk=>by
  obtain⟨_,cur,hb⟩:=own_is h.own hk
  exact (gsFlS hb)
 have HA0:=hid (h.keep hb0)
 have HB0:=hid hb0
 have HX0:=hid hg0
 have HC:=hid hc
 clear h hb0 hg0 hc
 by_cases hbig:4096<C.length
 ·have hbi:(4096:Int)<(C.length:Int):=by omega
  rw[if_pos hbig,if_pos hbig]
  clear hbig
  go_enter Tryd.func40,Tryd.ntmps40
  go_upto_region 1 with fail
  generalize w.alloc (.cells #[.int .u8 c.kind,.int .u8 c.op,.int .i64 c.dst,.int .i64 c.n,.int .i64 c.a.reg,.int .u64 c.a.num,.int .i64 c.b.reg,.int .u64 c.b.num] 48)=W at *
  obtain⟨x,hx⟩:∃ x,w.heap.size=x:=⟨_,rfl⟩
  rw[hx] at HX0 HLT
  rw[hx]
  have HWX:=hid hx
  clear hx
  have c12:=row_of HA0.out.hm 12 (.slice k0 C.length kc0) rfl
  have c13:=row_of HA0.out.hm 13 (.bool long) rfl
  have f13:=frozen_of_row W m.M 13 _ _ HA0.out.hm
  go_wp2_with fail
  refine bodyPost_ret (v:=.tuple #[]) (results_none rfl _ _ _) rfl ⟨rfl,_,HA0.out.flag.1,(RMk.Grew.of_below HB0.out).trans HA0.out.flag.2⟩
 have hbi:¬ (4096:Int)<(C.length:Int):=by omega
 rw[if_neg hbig,if_neg hbig]
 go_enter Tryd.func40,Tryd.ntmps40
 go_upto_region 1 with fail
 generalize w.alloc (.cells #[.int .u8 c.kind,.int .u8 c.op,.int .i64 c.dst,.int .i64 c.n,.int .i64 c.a.reg,.int .u64 c.a.num,.int .i64 c.b.reg,.int .u64 c.b.num] 48)=W at *
 obtain⟨x,hx⟩:∃ x,w.heap.size=x:=⟨_,rfl⟩
 rw[hx] at HX0 HLT
 rw[hx]
 have HWX:=hid hx
 clear hx
 have c12:=row_of HA0.out.hm 12 (.slice k0 C.length kc0) rfl
 go_upto_region 3 with fail
 clear c12
 have l1:=keepS_cell (S:=[m.M,x]) (by simp) (row_of HA0.out.hm 12 (.slice k0 C.length kc0) rfl)
 have e0:=keepS_cell (S:=[m.M,x]) (by simp) (row_of HX0.out 0 _ rfl)
 have e1:=keepS_cell (S:=[m.M,x]) (by simp) (row_of HX0.out 1 _ rfl)
 have e2:=keepS_cell (S:=[m.M,x]) (by simp) (row_of HX0.out 2 _ rfl)
 have e3:=keepS_cell (S:=[m.M,x]) (by simp) (row_of HX0.out 3 _ rfl)
 have e4:=keepS_cell (S:=[m.M,x]) (by simp) (row_of HX0.out 4 _ rfl)
 have e5:=keepS_cell (S:=[m.M,x]) (by simp) (row_of HX0.out 5 _ rfl)
 have e6:=keepS_cell (S:=[m.M,x]) (by simp) (row_of HX0.out 6 _ rfl)
 have e7:=keepS_cell (S:=[m.M,x]) (by simp) (row_of HX0.out 7 _ rfl)
 have hmw:m.M<W.heap.size:=HA0.out.mlt
 have hxw:x<W.heap.size:=(gsFlS HX0.out)
 refine wp_region_mixS [m.M,x] (.one [0,1,2,3,4,5,6] 7 (.one [] 8 (tailOf [9,10,11,12]))) (fun j=>decide (9≤j)) (by kernel_rfl) (by kernel_rfl) rfl (by kernel_rfl) (fun _ d _ _ _ h=>by cases d <;> exact h) ?_
 have HBd:Hid (Below W.heap.size W W.drew):=(Below.refl _ _).drew
 generalize W.drew=wn at *
 have HKn:=hid (two_keepR (HBd.out.block m.M hmw) (HBd.out.block x hxw))
 refine mix_one (by simp only[opsOf,List.filterMap_cons,List.filterMap_nil,List.getElem?_toArray,List.getElem?_cons_succ,List.getElem?_cons_zero];rfl) ⟨_,keepS_of HKn.out⟩ ?_
 change wpQuiet _ _ _ _ [_,_,_,_,_,_,_] _
 (repeat (go_big_quiet_step (fail)))
 clear l1 e0 e1 e2 e3 e4 e5 e6 e7
 refine wpQuiet_nil ?_
 refine mix_step rfl ?_
 go_wp2_with fail
 have HN:=hid (heap_alloc_new wn (.cells #[.int .u8 c.kind,.int .u8 c.op,.int .i64 c.dst,.int .i64 c.n,.int .i64 c.a.reg,.int .u64 c.a.num,.int .i64 c.b.reg,.int .u64 c.b.num] 48))
 have hal2:Below wn.heap.size wn (wn.alloc (.cells #[.int .u8 c.kind,.int .u8 c.op,.int .i64 c.dst,.int .i64 c.n,.int .i64 c.a.reg,.int .u64 c.a.num,.int .i64 c.b.reg,.int .u64 c.b.num] 48)):=(Below.refl _ _).alloc (Nat.le_refl _) _
 have HBn:=hid (bcomp HBd.out hal2)
 have hs1:=HBd.out.size
 have HKa:=hid (two_keepR (hal2.block m.M (by omega)) (hal2.block x (by omega)))
 clear hal2
 obtain⟨gb,hgb⟩:∃ gb,wn.heap.size=gb:=⟨_,rfl⟩
 rw[hgb] at HN
 try rw[hgb]
 generalize wn.alloc (.cells #[.int .u8 c.kind,.int .u8 c.op,.int .i64 c.dst,.int .i64 c.n,.int .i64 c.a.reg,.int .u64 c.a.num,.int .i64 c.b.reg,.int .u64 c.b.num] 48)=wa at *
 have HKw:=hid (fun b hb=>(HKa.out b hb).trans (HKn.out b hb):∀ b∈[m.M,x],wa.heap[b]?=W.heap[b]?)
 have HAa:=hid (HA0.out.keep HBn.out)
 have HGB:Hid (wn.heap.size=gb):=hgb
 clear hgb
 (first|refine⟨fun _=>⟨_,keepS_of HKw.out⟩,?_⟩|refine⟨⟨_,keepS_of HKw.out⟩,?_⟩)
 refine mix_now ?_
 refine mix_step rfl ?_
 try (simp only[Act.put,List.setIfInBounds_toArray,List.set_cons_succ,List.set_cons_zero,List.getElem_toArray,List.getElem_cons_succ,List.getElem_cons_zero])
 refine wpList_append_own_at _ rfl (.tmp 19) (.tmp 21) 30 rfl m.w0.heap.size 48 i0 (.agg #[.int .u8 0,.int .u8 0,.int .i64 0,.int .i64 0,.int .i64 0,.int .u64 0,.int .i64 0,.int .u64 0]) 8 56 Tryd.underlying30 hi hz0 hz1 hz2 rfl (by decide) _ _ _ rfl HAa.out.own ⟨gb,0,none⟩ 1 1 (cellsCode c) rfl rfl ?hnw ?hone ?h63 ?hby HAa.out.below.size ?_
 case hnw=>
  intro j u hu
  have e:(⟨gb,0,none⟩:Addr).add j=⟨gb,j,none⟩:=by simp[Addr.add];omega
  rw[e]
  exact row_of HN.out j u (by rw[← List.getElem?_toArray] at hu;exact hu)
 case hone=>intro u hu;simp only[cellsCode,List.mem_cons,List.not_mem_nil,or_false] at hu;rcases hu with rfl|rfl|rfl|rfl|rfl|rfl|rfl|rfl <;> rfl
 case h63=>unfold maxLen;omega
 case hby=>omega
 intro v' w4 hown' hgrow _ hblk
 have hT4:Turned (fun k=>(Value.slice k0 C.length kc0).ownBlock=some k) wa w4:=Turned.of_grown hgrow (fun b e=>e)
 have hkM:(Value.slice k0 C.length kc0).ownBlock≠some m.M:=own_ne_cells HAa.out.own HAa.out.hm (by decide)
 have hkx:(Value.slice k0 C.length kc0).ownBlock≠some x:=fun e=>by have:=HLT.out x e;omega
 have hm4:=(hT4.block m.M HAa.out.mlt hkM).trans HAa.out.hm
 have hsz:=HBn.out.size
 have HKf:=hid (two_keepR ((hT4.block m.M HAa.out.mlt hkM).trans (HKw.out m.M (by simp))) ((hT4.block x (by omega) hkx).trans (HKw.out x (by simp))))
 obtain⟨xa,xc,rfl,_⟩:=own_read hown'
 have HT4:=hid hT4
 have HO4:=hid hown'
 have HM4:=hid hm4
 have HBK:=hid hblk
 clear hown' hgrow hblk hT4 hkM hkx
 try (simp only[Act.put,List.setIfInBounds_toArray,List.set_cons_succ,List.set_cons_zero,List.getElem_toArray,List.getElem_cons_succ,List.getElem_cons_zero])
 (first|refine⟨fun _=>⟨_,keepS_of HKf.out⟩,?_⟩|refine⟨⟨_,keepS_of HKf.out⟩,?_⟩)
 have c12:=row_of hm4 12 (.slice k0 C.length kc0) rfl
 have f12:=frozen_of_row w4 m.M 12 _ _ hm4
 clear hm4
 refine mix_tail [9,10,11,12] [_,_,_,_] _ _ rfl rfl ?_
 simp only[Act.put,List.setIfInBounds_toArray,List.set_cons_succ,List.set_cons_zero,List.getElem_toArray,List.getElem_cons_succ,List.getElem_cons_zero]
 go_wp2_with fail
 go_end0
 have hpt:=HAa.out.putted c HC.out HT4.out HO4.out (fun k hk=>by
  rcases HBK.out with e|e
  ·exact .inl (e.symm.trans hk)
  ·have h1:some k=some wa.heap.size:=hk.symm.trans e
   have h2:k=wa.heap.size:=Option.some.inj h1
   exact .inr (by omega))
 exact⟨rfl,_,hpt.1,(RMk.Grew.of_below (bcomp HB0.out HBn.out)).trans hpt.2⟩
end Go.Proofs.YtgcfdbhpophnjaaDoor
