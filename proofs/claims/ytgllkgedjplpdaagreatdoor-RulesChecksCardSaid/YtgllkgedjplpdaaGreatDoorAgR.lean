/- Lattices as plain data: the order of levels, what makes it a lattice. -/
import Derived.Test.YtgllkgedjplpdaaGreatDoorBas
import Derived.Test.YtgllkgedjplpdaaGreatDoorRowE
import Derived.Test.YtgllkgedjplpdaaGreatDoorMNm
import Derived.Test.YtgllkgedjplpdaaGreatDoorProg
set_option linter.all false
set_option maxRecDepth 1000000
set_option maxHeartbeats 12800000
namespace Go.Proofs.YtgllkgedjplpdaaGreatDoor
def wordN:Nat->(Nat->Bool)->Nat
 | 0,_=>0
 | n+1,f=>wordN n f+if f n then 2 ^ n else 0
theorem wordN_lt:∀ (n:Nat) (f:Nat->Bool),wordN n f<2 ^ n
 | 0,_=>Nat.one_pos
 | n+1,f=>by
  have:=wordN_lt n f
  rw [wordN,Nat.pow_succ]
  split <;> omega
theorem wordN_bit:∀ (n:Nat) (f:Nat->Bool) (j:Nat),(wordN n f).testBit j=(decide (j<n) && f j)
 | 0,f,j=>by simp [wordN]
 | n+1,f,j=>by
  have hl:=wordN_lt n f
  have ih:=wordN_bit n f
  rw [wordN]
  rcases Nat.lt_trichotomy j n with h|h|h
  ·have e:(wordN n f+if f n then 2 ^ n else 0).testBit j=(wordN n f).testBit j:=by
    split
    ·rw [Nat.add_comm];exact Nat.testBit_two_pow_add_gt h _
    ·rfl
   rw [e,ih];simp [h,Nat.lt_succ_of_lt h]
  ·subst h
   have z:(wordN j f).testBit j=false:=Nat.testBit_lt_two_pow hl
   by_cases hf:f j=true
   ·rw [if_pos hf,Nat.add_comm,Nat.testBit_two_pow_add_eq,z];simp [hf]
   ·rw [if_neg hf,Nat.add_zero,z];simp [hf]
  ·have e:wordN n f+(if f n then 2 ^ n else 0)<2 ^ j:=by
    have:=wordN_lt (n+1) f
    rw [wordN] at this
    exact Nat.lt_of_lt_of_le this (Nat.pow_le_pow_right (by omega) h)
   rw [Nat.testBit_lt_two_pow e];simp;omega
theorem wordN_lt32 {n:Nat} (h:n<=32) (f:Nat->Bool):wordN n f<4294967296:=
 Nat.lt_of_lt_of_le (wordN_lt n f) (Nat.pow_le_pow_right (n:=2) (by omega) h)
theorem wordN_congr {n:Nat} {f g:Nat->Bool} (h:∀ j,j<n->f j=g j):wordN n f=wordN n g:=by
 refine Nat.eq_of_testBit_eq fun j=>?_
 rw [wordN_bit,wordN_bit]
 by_cases hj:j<n
 ·rw [h j hj]
 ·simp [hj]
theorem wordN_inj {n:Nat} {f g:Nat->Bool} (h:wordN n f=wordN n g) (j:Nat) (hj:j<n):f j=g j:=by
 have:=congrArg (fun x=>x.testBit j) h
 simpa [wordN_bit,hj] using this
theorem wordN_or (n:Nat) (f g:Nat->Bool):wordN n f ||| wordN n g=wordN n (fun j=>f j || g j):=by
 refine Nat.eq_of_testBit_eq fun j=>?_
 rw [Nat.testBit_or,wordN_bit,wordN_bit,wordN_bit]
 cases decide (j<n) <;> simp
theorem wordN_and (n:Nat) (f g:Nat->Bool):wordN n f &&& wordN n g=wordN n (fun j=>f j && g j):=by
 refine Nat.eq_of_testBit_eq fun j=>?_
 rw [Nat.testBit_and,wordN_bit,wordN_bit,wordN_bit]
 cases decide (j<n) <;> simp
theorem wordN_one {n i:Nat} (h:i<n):wordN n (fun j=>decide (j=i))=2 ^ i:=by
 refine Nat.eq_of_testBit_eq fun j=>?_
 rw [wordN_bit,Nat.testBit_two_pow]
 by_cases e:j=i
 ·subst e;simp [h]
 ·simp [e,Ne.symm e]
theorem wordN_zero (n:Nat):wordN n (fun _=>false)=0:=by
 refine Nat.eq_of_testBit_eq fun j=>?_
 rw [wordN_bit];simp
theorem wordN_andNot (n:Nat) (hn:n<=32) (f g:Nat->Bool):wordN n f &&& (4294967295 - wordN n g)=wordN n (fun j=>f j && !g j):=by
 refine Nat.eq_of_testBit_eq fun j=>?_
 have hg:=wordN_lt32 hn g
 rw [Nat.testBit_and,wordN_bit,wordN_bit,show 4294967295 - wordN n g=2 ^ 32 - (wordN n g+1) by omega,Nat.testBit_two_pow_sub_succ (by omega),wordN_bit]
 by_cases hj:j<n
 ·simp [hj,show j<32 by omega]
 ·simp [hj]
theorem wordN_at {n j:Nat} (f:Nat->Bool) (hj:j<n):wordN n f / 2 ^ j % 2=if f j then 1 else 0:=by
 have h:=wordN_bit n f j
 rw [Nat.testBit_eq_decide_div_mod_eq] at h
 simp only [hj,decide_true,Bool.true_and] at h
 by_cases hf:f j=true
 ·rw [hf] at h;simp at h;simp [hf,h]
 ·simp only [Bool.not_eq_true] at hf;rw [hf] at h;simp at h;simp [hf];omega
abbrev Mat:=Nat->Nat->Bool
def eyeM:Mat:=fun i j=>decide (j=i)
def ordM (M:Mat) (p:Int × Int):Mat:=fun i j=>M i j || (decide ((i:Int)=p.1) && decide ((j:Int)=p.2))
def ordsM (l:List (Int × Int)):Mat:=l.foldl ordM eyeM
def joinM (k i:Nat) (M:Mat):Mat:=fun x j=>if x=i then M i j || (M i k && M k j) else M x j
def rowsM (k:Nat) (M:Mat):Nat->Mat
 | 0=>M
 | i+1=>joinM k i (rowsM k M i)
def closeM (n:Nat) (M:Mat):Nat->Mat
 | 0=>M
 | k+1=>rowsM k (closeM n M k) n
def latM (n:Nat) (l:List (Int × Int)):Mat:=closeM n (ordsM l) n
def flipM (M:Mat):Mat:=fun i j=>M j i
def allN (n:Nat) (f:Nat->Bool):Bool:=(List.range n).all f
def anyN (n:Nat) (f:Nat->Bool):Bool:=(List.range n).any f
def badP (n:Int) (p:Int × Int):Bool:=decide (p.1<0) || decide (n<=p.1) || decide (p.2<0) || decide (n<=p.2)
def loopsM (n:Nat) (M:Mat):Bool:=anyN n fun i=>anyN n fun j=>!decide (j=i) && M i j && M j i
def boundM (n:Nat) (M:Mat) (i k c:Nat):Bool:=M i c && M k c && allN n fun d=>M c d || !(M i d) || !(M k d)
def wholeM (n:Nat) (M:Mat):Bool:=allN n fun i=>allN n fun k=>anyN n fun c=>boundM n M i k c
def latErr (n:Int) (l:List (Int × Int)):Int:=
 if n<1 \/ 32<n then 3 else if 1024<l.length then 5 else if l.any (badP n) then 3
 else if loopsM n.toNat (latM n.toNat l) then 9 else if wholeM n.toNat (latM n.toNat l) && wholeM n.toNat (flipM (latM n.toNat l)) then 0 else 4
theorem allN_iff {n:Nat} {f:Nat->Bool}:allN n f=true ↔ ∀ i,i<n->f i=true:=by simp [allN]
theorem anyN_iff {n:Nat} {f:Nat->Bool}:anyN n f=true ↔ ∃ i,i<n/\f i=true:=by simp [anyN]
theorem anyN_false {n:Nat} {f:Nat->Bool}:anyN n f=false ↔ ∀ i,i<n->f i=false:=by simp [anyN]
theorem allN_false {n:Nat} {f:Nat->Bool}:allN n f=false ↔ ∃ i,i<n/\f i=false:=by simp [allN]
theorem ordsM_eye (l:List (Int × Int)) (i j:Nat) (M:Mat) (h:M i j=true):l.foldl ordM M i j=true:=by
 induction l generalizing M with
 | nil=>exact h
 | cons p l ih=>exact ih _ (by simp [ordM,h])
theorem rowsM_keep (k:Nat) (M:Mat) (i j:Nat) (h:M i j=true):∀ n,rowsM k M n i j=true
 | 0=>h
 | n+1=>by
  have:=rowsM_keep k M i j h n
  rw [rowsM,joinM]
  split
  ·next e=>subst e;simp [this]
  ·exact this
theorem closeM_keep (n:Nat) (M:Mat) (i j:Nat) (h:M i j=true):∀ k,closeM n M k i j=true
 | 0=>h
 | k+1=>rowsM_keep k _ i j (closeM_keep n M i j h k) n
theorem latM_refl (n:Nat) (l:List (Int × Int)) (i:Nat):latM n l i i=true:=
 closeM_keep n _ i i (ordsM_eye l i i _ (by simp [eyeM])) n
open Go.ChangeShapes Go.WideShapes Go.ChangeAt Go.RowKit
structure BindD where
 name:ByteArray
 level:Int
structure PolD where
 levels:List ByteArray
 order:List (Int × Int)
 chans:List BindD
 sites:List BindD
 sens:Bool
 steps:Int
 paths:Int
 nodes:Int
 confs:Int
def wordsErr:List ByteArray->List ByteArray->Int
 | _,[]=>0
 | had,s :: l=>if tokName s=false then 4 else if hasS s had then 8 else wordsErr (had ++ [s]) l
def bindsAt (n:Int):List ByteArray->List BindD->Int
 | _,[]=>0
 | had,b :: l=>if tokName b.name=false then 4 else if hasS b.name had then 8 else if b.level<0 \/ n<=b.level then 3 else bindsAt n (had ++ [b.name]) l
def bindsErr (n:Int) (l:List BindD):Int:=if 32<l.length then 5 else bindsAt n [] l
def limErr (q:PolD):Int:=if q.steps<1 \/ 65536<q.steps \/ q.paths<1 \/ 4096<q.paths \/ q.nodes<0 \/ 1048576<q.nodes \/ q.confs<0 \/ 1099511627776<q.confs then 3 else 0
def polErr (q:PolD):Int:=
 if q.levels.length=0 then 4 else if 32<q.levels.length then 5 else if wordsErr [] q.levels ≠ 0 then wordsErr [] q.levels
 else if latErr q.levels.length q.order ≠ 0 then latErr q.levels.length q.order
 else if bindsErr q.levels.length q.chans ≠ 0 then bindsErr q.levels.length q.chans
 else if bindsErr q.levels.length q.sites ≠ 0 then bindsErr q.levels.length q.sites else limErr q
def isB (s:ByteArray) (b:BindD):Bool:=b.name.toList == s.toList
def levelOf:List BindD->ByteArray->Option Int
 | [],_=>none
 | b :: l,s=>if isB s b then some b.level else levelOf l s
def levelsOf (l:List BindD):List ByteArray->Option (List Int)
 | []=>some []
 | s :: r=>match levelOf l s with
  | none=>none
  | some x=>(levelsOf l r).map (x :: ·)
structure LatD where
 n:Nat
 M:Mat
def latOf (n:Int) (l:List (Int × Int)):LatD:=⟨n.toNat,latM n.toNat l⟩
open Go.ChangeShapes Go.WideShapes Go.ChangeAt Go.RowKit
def cellsPair (x:(Int × Int)):List Value:=[.int .i64 x.1,.int .i64 x.2]
abbrev kPair:Kind (Int × Int):=⟨93,2,16,cellsPair,fun x=>InI64 x.1/\InI64 x.2,fun _=>rfl,by decide⟩
theorem atPair {lo:Option (Nat->Prop)} {w:World} {a:Option Addr} {n c:Nat} {l:List (Int × Int)} (h:RdRow kPair lo w (.slice a n c) l) {i:Nat} {x:(Int × Int)} (hx:l[i]?=some x) :
  ∃ b o,a=some ⟨b,o,none⟩/\Free lo 93 w b/\w.cell? ⟨b,o+i * 2,none⟩=some (.int .i64 x.1)/\w.cell? ⟨b,o+i * 2+1,none⟩=some (.int .i64 x.2)/\(InI64 x.1/\InI64 x.2):=by
 obtain ⟨b,o,rfl,hf,hc,ho⟩:=RdRow.at h hx
 refine ⟨b,o,rfl,hf,?_,?_,ho⟩
 ·have:=hc 0 _ rfl;exact this
 ·have:=hc 1 _ rfl;exact this
def cellsBind (x:BindD):List Value:=[.string x.name,.int .i64 x.level]
abbrev kBind:Kind BindD:=⟨54,2,24,cellsBind,fun x=>x.name.size<=maxLen/\InI64 x.level,fun _=>rfl,by decide⟩
theorem atBind {lo:Option (Nat->Prop)} {w:World} {a:Option Addr} {n c:Nat} {l:List BindD} (h:RdRow kBind lo w (.slice a n c) l) {i:Nat} {x:BindD} (hx:l[i]?=some x) :
  ∃ b o,a=some ⟨b,o,none⟩/\Free lo 54 w b/\w.cell? ⟨b,o+i * 2,none⟩=some (.string x.name)/\w.cell? ⟨b,o+i * 2+1,none⟩=some (.int .i64 x.level)/\(x.name.size<=maxLen/\InI64 x.level):=by
 obtain ⟨b,o,rfl,hf,hc,ho⟩:=RdRow.at h hx
 refine ⟨b,o,rfl,hf,?_,?_,ho⟩
 ·have:=hc 0 _ rfl;exact this
 ·have:=hc 1 _ rfl;exact this
def RdPol (lo:Option (Nat->Prop)) (w:World) (q:PolD) (lv ov cv sv:Value):Prop:=
 RdRow kStr lo w lv q.levels/\RdRow kPair lo w ov q.order/\RdRow kBind lo w cv q.chans/\RdRow kBind lo w sv q.sites/\InI64 q.steps/\InI64 q.paths/\InI64 q.nodes/\InI64 q.confs
theorem RdPol.keep {lo:Option (Nat->Prop)} {w w':World} {q:PolD} {lv ov cv sv:Value} (h:RdPol lo w q lv ov cv sv) (k:Below w.heap.size w w'):RdPol lo w' q lv ov cv sv:=
 ⟨h.1.keep k,h.2.1.keep k,h.2.2.1.keep k,h.2.2.2.1.keep k,h.2.2.2.2⟩
theorem RdPol.forget {lo:Option (Nat->Prop)} {w:World} {q:PolD} {lv ov cv sv:Value} (h:RdPol lo w q lv ov cv sv):RdPol none w q lv ov cv sv:=
 ⟨h.1.forget,h.2.1.forget,h.2.2.1.forget,h.2.2.2.1.forget,h.2.2.2.2⟩
abbrev polV (q:PolD) (lv ov cv sv:Value):Value:=.agg #[lv,ov,cv,sv,.bool q.sens,.int .i64 q.steps,.int .i64 q.paths,.int .i64 q.nodes,.int .i64 q.confs]
def latCells (n:Int) (U D:Nat->Nat):Array Value:=((Value.int .i64 n) :: ((List.range 32).map (fun i=>Value.int .u32 (U i)) ++ (List.range 32).map (fun i=>Value.int .u32 (D i)))).toArray
theorem latCells_up (n:Int) (U D:Nat->Nat) {i:Nat} (h:i<32):(latCells n U D)[1+i]?=some (.int .u32 (U i)):=by
 unfold latCells
 rw [List.getElem?_toArray,Nat.add_comm,List.getElem?_cons_succ,List.getElem?_append_left (by simp;exact h)]
 simp [h]
theorem latCells_dn (n:Int) (U D:Nat->Nat) {i:Nat} (h:i<32):(latCells n U D)[33+i]?=some (.int .u32 (D i)):=by
 unfold latCells
 rw [List.getElem?_toArray,show 33+i=(32+i)+1 by omega,List.getElem?_cons_succ,List.getElem?_append_right (by simp)]
 simp [h]
def updF (U:Nat->Nat) (i v:Nat):Nat->Nat:=fun j=>if j=i then v else U j
theorem range_set (U:Nat->Nat) (i v:Nat):((List.range 32).map (fun i=>Value.int .u32 (U i))).set i (.int .u32 v)=(List.range 32).map (fun j=>Value.int .u32 (updF U i v j)):=by
 apply List.ext_getElem?
 intro j
 rw [List.getElem?_set]
 simp only [List.getElem?_map,List.length_map,List.length_range]
 by_cases h:i=j
 ·subst h
  by_cases h2:i<32
  ·simp [updF,h2]
  ·simp [h2,List.getElem?_eq_none]
 ·rw [if_neg h]
  by_cases h2:j<32
  ·simp [updF,h2,Ne.symm h]
  ·simp [h2,List.getElem?_eq_none]
theorem latCells_setUp (n:Int) (U D:Nat->Nat) {i:Nat} (h:i<32) (v:Nat):(latCells n U D).setIfInBounds (1+i) (.int .u32 v)=latCells n (updF U i v) D:=by
 unfold latCells
 rw [List.setIfInBounds_toArray,Nat.add_comm,List.set_cons_succ,List.set_append_left _ _ (by simp;exact h),range_set]
theorem latCells_setDn (n:Int) (U D:Nat->Nat) {i:Nat} (h:i<32) (v:Nat):(latCells n U D).setIfInBounds (33+i) (.int .u32 v)=latCells n U (updF D i v):=by
 unfold latCells
 rw [List.setIfInBounds_toArray,show 33+i=(32+i)+1 by omega,List.set_cons_succ,List.set_append_right _ _ (by simp),show 32+i - ((List.range 32).map (fun i=>Value.int .u32 (U i))).length=i by simp,range_set]
def rowW (n:Nat) (M:Mat):Nat->Nat:=fun i=>if i<n then wordN n (M i) else 0
def LatAt (w:World) (v:Value) (L:LatD):Prop:=
 ∃ b,v=.pointer (some ⟨b,0,none⟩)/\w.heap[b]?=some (.cells (latCells L.n (rowW L.n L.M) (rowW L.n (flipM L.M))) 150 (0,0))/\1<=L.n/\L.n<=32
end Go.Proofs.YtgllkgedjplpdaaGreatDoor
