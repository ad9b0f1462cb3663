/- What programs without functions, traces and runs are as data, and how lists of their parts lie in memory. Plain definitions and lemmas; no condition. Contracts of the kit's copies of lists: what comes back reads as what came in, in new memory that the caller may write, and nothing that was there is written. Condition: what comes in reads as the list. Contracts of the kit's comparisons of lists: called in whatever memory they return whether the two values read as equal lists, and write nothing that was there. Condition: both read as lists. -/
import Derived.Test.YtkjkpddajjmloaaGreatDoorBas
import Derived.Test.YtkjkpddajjmloaaGreatDoorProg
import Derived.Deep.QuietTactic
import Derived.BigQuiet
set_option linter.all false
set_option maxRecDepth 1000000
set_option maxHeartbeats 6400000
namespace Go.Proofs.YtkjkpddajjmloaaGreatDoor
open Go.ChangeShapes Go.WideShapes Go.ChangeAt Go.RowKit
structure RefD where
 reg:Int
 num:Int
structure CodeD where
 kind:Int
 op:Int
 dst:Int
 n:Int
 a:RefD
 b:RefD
structure FlatD where
 width:Int
 regs:Int
 chans:List ByteArray
 sites:List ByteArray
 arrays:List Int
 code:List CodeD
structure EvD where
 n:Int
 val:Int
structure TraceD where
 status:Int
 steps:Int
 outs:List EvD
 rels:List EvD
 brs:List Bool
 reads:List Int
def cellsStr (x:ByteArray):List Value:=[.string x]
abbrev kStr:Kind ByteArray:=⟨9,1,16,cellsStr,fun x=>x.size≤maxLen,fun _=>rfl,by decide⟩
theorem atStr {lo:Option (Nat→Prop)} {w:World} {a:Option Addr} {n c:Nat} {l:List ByteArray} (h:RdRow kStr lo w (.slice a n c) l) {i:Nat} {x:ByteArray} (hx:l[i]?=some x) :
  ∃ b o,a=some ⟨b,o,none⟩∧Free lo 9 w b∧w.cell? ⟨b,o+i,none⟩=some (.string x)∧(x.size≤maxLen):=by
 obtain ⟨b,o,rfl,hf,hc,ho⟩:=RdRow.at h hx
 refine ⟨b,o,rfl,hf,?_,ho⟩
 ·have:=hc 0 _ rfl;rwa [Nat.mul_one,Nat.add_zero] at this
def cellsInt (x:Int):List Value:=[.int .i64 x]
abbrev kInt:Kind Int:=⟨3,1,8,cellsInt,fun x=>InI64 x,fun _=>rfl,by decide⟩
theorem atInt {lo:Option (Nat→Prop)} {w:World} {a:Option Addr} {n c:Nat} {l:List Int} (h:RdRow kInt lo w (.slice a n c) l) {i:Nat} {x:Int} (hx:l[i]?=some x) :
  ∃ b o,a=some ⟨b,o,none⟩∧Free lo 3 w b∧w.cell? ⟨b,o+i,none⟩=some (.int .i64 x)∧(InI64 x):=by
 obtain ⟨b,o,rfl,hf,hc,ho⟩:=RdRow.at h hx
 refine ⟨b,o,rfl,hf,?_,ho⟩
 ·have:=hc 0 _ rfl;rwa [Nat.mul_one,Nat.add_zero] at this
def cellsNum (x:Int):List Value:=[.int .u64 x]
abbrev kNum:Kind Int:=⟨58,1,8,cellsNum,fun x=>InU64 x,fun _=>rfl,by decide⟩
theorem atNum {lo:Option (Nat→Prop)} {w:World} {a:Option Addr} {n c:Nat} {l:List Int} (h:RdRow kNum lo w (.slice a n c) l) {i:Nat} {x:Int} (hx:l[i]?=some x) :
  ∃ b o,a=some ⟨b,o,none⟩∧Free lo 58 w b∧w.cell? ⟨b,o+i,none⟩=some (.int .u64 x)∧(InU64 x):=by
 obtain ⟨b,o,rfl,hf,hc,ho⟩:=RdRow.at h hx
 refine ⟨b,o,rfl,hf,?_,ho⟩
 ·have:=hc 0 _ rfl;rwa [Nat.mul_one,Nat.add_zero] at this
def cellsBool (x:Bool):List Value:=[.bool x]
abbrev kBool:Kind Bool:=⟨4,1,1,cellsBool,fun x=>True,fun _=>rfl,by decide⟩
theorem atBool {lo:Option (Nat→Prop)} {w:World} {a:Option Addr} {n c:Nat} {l:List Bool} (h:RdRow kBool lo w (.slice a n c) l) {i:Nat} {x:Bool} (hx:l[i]?=some x) :
  ∃ b o,a=some ⟨b,o,none⟩∧Free lo 4 w b∧w.cell? ⟨b,o+i,none⟩=some (.bool x)∧(True):=by
 obtain ⟨b,o,rfl,hf,hc,ho⟩:=RdRow.at h hx
 refine ⟨b,o,rfl,hf,?_,ho⟩
 ·have:=hc 0 _ rfl;rwa [Nat.mul_one,Nat.add_zero] at this
def cellsCode (x:CodeD):List Value:=[.int .u8 x.kind,.int .u8 x.op,.int .i64 x.dst,.int .i64 x.n,.int .i64 x.a.reg,.int .u64 x.a.num,.int .i64 x.b.reg,.int .u64 x.b.num]
abbrev kCode:Kind CodeD:=⟨91,8,56,cellsCode,fun x=>InU8 x.kind∧InU8 x.op∧InI64 x.dst∧InI64 x.n∧InI64 x.a.reg∧InU64 x.a.num∧InI64 x.b.reg∧InU64 x.b.num,fun _=>rfl,by decide⟩
theorem atCode {lo:Option (Nat→Prop)} {w:World} {a:Option Addr} {n c:Nat} {l:List CodeD} (h:RdRow kCode lo w (.slice a n c) l) {i:Nat} {x:CodeD} (hx:l[i]?=some x) :
  ∃ b o,a=some ⟨b,o,none⟩∧Free lo 91 w b∧w.cell? ⟨b,o+i * 8,none⟩=some (.int .u8 x.kind)∧w.cell? ⟨b,o+i * 8+1,none⟩=some (.int .u8 x.op)∧w.cell? ⟨b,o+i * 8+2,none⟩=some (.int .i64 x.dst)∧w.cell? ⟨b,o+i * 8+3,none⟩=some (.int .i64 x.n)∧w.cell? ⟨b,o+i * 8+4,none⟩=some (.int .i64 x.a.reg)∧w.cell? ⟨b,o+i * 8+5,none⟩=some (.int .u64 x.a.num)∧w.cell? ⟨b,o+i * 8+6,none⟩=some (.int .i64 x.b.reg)∧w.cell? ⟨b,o+i * 8+7,none⟩=some (.int .u64 x.b.num)∧(InU8 x.kind∧InU8 x.op∧InI64 x.dst∧InI64 x.n∧InI64 x.a.reg∧InU64 x.a.num∧InI64 x.b.reg∧InU64 x.b.num):=by
 obtain ⟨b,o,rfl,hf,hc,ho⟩:=RdRow.at h hx
 refine ⟨b,o,rfl,hf,?_,?_,?_,?_,?_,?_,?_,?_,ho⟩
 ·have:=hc 0 _ rfl;exact this
 ·have:=hc 1 _ rfl;exact this
 ·have:=hc 2 _ rfl;exact this
 ·have:=hc 3 _ rfl;exact this
 ·have:=hc 4 _ rfl;exact this
 ·have:=hc 5 _ rfl;exact this
 ·have:=hc 6 _ rfl;exact this
 ·have:=hc 7 _ rfl;exact this
def cellsEv (x:EvD):List Value:=[.int .i64 x.n,.int .u64 x.val]
abbrev kEv:Kind EvD:=⟨163,2,16,cellsEv,fun x=>InI64 x.n∧InU64 x.val,fun _=>rfl,by decide⟩
theorem atEv {lo:Option (Nat→Prop)} {w:World} {a:Option Addr} {n c:Nat} {l:List EvD} (h:RdRow kEv lo w (.slice a n c) l) {i:Nat} {x:EvD} (hx:l[i]?=some x) :
  ∃ b o,a=some ⟨b,o,none⟩∧Free lo 163 w b∧w.cell? ⟨b,o+i * 2,none⟩=some (.int .i64 x.n)∧w.cell? ⟨b,o+i * 2+1,none⟩=some (.int .u64 x.val)∧(InI64 x.n∧InU64 x.val):=by
 obtain ⟨b,o,rfl,hf,hc,ho⟩:=RdRow.at h hx
 refine ⟨b,o,rfl,hf,?_,?_,ho⟩
 ·have:=hc 0 _ rfl;exact this
 ·have:=hc 1 _ rfl;exact this
def RdLists (lo:Option (Nat→Prop)) (w:World) (v:Value) (ls:List (List Int)):Prop:=
 ∃ a c,v=.slice a ls.length c∧(ls.length * 24≤140737488351232∧ls.length≤c)∧∀ i l,ls[i]?=some l→∃ b o iv,a=some ⟨b,o,none⟩∧Free lo 61 w b∧w.cell? ⟨b,o+i,none⟩=some iv∧RdRow kNum lo w iv l
theorem RdLists.keep {lo:Option (Nat→Prop)} {w w':World} {v:Value} {l:List (List Int)} (h:RdLists lo w v l) (k:Below w.heap.size w w'):RdLists lo w' v l:=by
 obtain ⟨a,c,rfl,hl,hr⟩:=h
 refine ⟨a,c,rfl,hl,fun i x hx=>?_⟩
 obtain ⟨b,o,iv,rfl,hf,h0,h1⟩:=hr i x hx
 exact ⟨b,o,iv,rfl,hf.keep (block_lt_of_cell h0) k,cell_keep k h0,h1.keep k⟩
theorem RdLists.forget {lo:Option (Nat→Prop)} {w:World} {v:Value} {l:List (List Int)} (h:RdLists lo w v l):RdLists none w v l:=by
 obtain ⟨a,c,rfl,hl,hr⟩:=h
 refine ⟨a,c,rfl,hl,fun i x hx=>?_⟩
 obtain ⟨b,o,iv,rfl,hf,h0,h1⟩:=hr i x hx
 exact ⟨b,o,iv,rfl,Free.none _ _ _,h0,h1.forget⟩
theorem RdLists.same {g g':Nat→Prop} {w w':World} {v:Value} {l:List (List Int)} (h:RdLists (some g) w v l) (k:∀ b,g b→b<w.heap.size→w'.heap[b]?=w.heap[b]?) (hg:∀ b,b<w.heap.size→g b→g' b):RdLists (some g') w' v l:=by
 obtain ⟨a,c,rfl,hl,hr⟩:=h
 refine ⟨a,c,rfl,hl,fun i x hx=>?_⟩
 obtain ⟨b,o,iv,rfl,hf,h0,h1⟩:=hr i x hx
 obtain ⟨g1,cs,g2⟩:=hf g rfl
 have hlt:=block_lt_of_cell h0
 exact ⟨b,o,iv,rfl,Free.of (hg b hlt g1) ((k b g1 hlt).trans g2),by rw [World.cell?_of_block (w:=w) (k b g1 hlt)];exact h0,h1.same k hg⟩
theorem RdLists.up {n m:Nat} {w:World} {v:Value} {l:List (List Int)} (h:RdLists (some (upFrom n)) w v l) (hm:m≤n):RdLists (some (upFrom m)) w v l:=RdLists.same h (fun _ _ _=>rfl) (fun _ _ k=>Nat.le_trans hm k)
theorem RdLists.is {lo:Option (Nat→Prop)} {w:World} {v:Value} {l:List (List Int)} (h:RdLists lo w v l):∃ a c,v=.slice a l.length c:=by
 obtain ⟨a,c,rfl,_⟩:=h;exact ⟨a,c,rfl⟩
theorem RdLists.at {lo:Option (Nat→Prop)} {w:World} {a:Option Addr} {n c:Nat} {ls:List (List Int)} (h:RdLists lo w (.slice a n c) ls) {i:Nat} {l:List Int} (hx:ls[i]?=some l) :
  ∃ b o a' c',a=some ⟨b,o,none⟩∧Free lo 61 w b∧w.cell? ⟨b,o+i,none⟩=some (.slice a' l.length c')∧RdRow kNum lo w (.slice a' l.length c') l:=by
 obtain ⟨a',c',e,hl,hr⟩:=h
 simp only [Value.slice.injEq] at e
 obtain ⟨rfl,_,_⟩:=e
 obtain ⟨b,o,iv,e,h1,h2,h3⟩:=hr i l hx
 obtain ⟨a2,c2,rfl⟩:=h3.is
 exact ⟨b,o,a2,c2,e,h1,h2,h3⟩
theorem RdLists.size {lo:Option (Nat→Prop)} {w:World} {v:Value} {l:List (List Int)} (h:RdLists lo w v l):l.length * 24≤140737488351232:=by
 obtain ⟨_,_,_,hl,_⟩:=h;exact hl.1
def RdFlat (lo:Option (Nat→Prop)) (w:World) (f:FlatD) (cv sv av kv:Value):Prop:=
 RdRow kStr lo w cv f.chans∧RdRow kStr lo w sv f.sites∧RdRow kInt lo w av f.arrays∧RdRow kCode lo w kv f.code∧InI64 f.width∧InI64 f.regs
theorem RdFlat.keep {lo:Option (Nat→Prop)} {w w':World} {f:FlatD} {cv sv av kv:Value} (h:RdFlat lo w f cv sv av kv) (k:Below w.heap.size w w'):RdFlat lo w' f cv sv av kv:=
 ⟨h.1.keep k,h.2.1.keep k,h.2.2.1.keep k,h.2.2.2.1.keep k,h.2.2.2.2⟩
abbrev flatV (f:FlatD) (cv sv av kv:Value):Value:=.agg #[.int .i64 f.width,.int .i64 f.regs,cv,sv,av,kv]
abbrev traceV (t:TraceD) (ov rv bv dv:Value):Value:=.agg #[.int .u8 t.status,.int .i64 t.steps,ov,rv,bv,dv]
def RdTrace (lo:Option (Nat→Prop)) (w:World) (t:TraceD) (ov rv bv dv:Value):Prop:=
 RdRow kEv lo w ov t.outs∧RdRow kEv lo w rv t.rels∧RdRow kBool lo w bv t.brs∧RdRow kInt lo w dv t.reads∧InU8 t.status∧InI64 t.steps
theorem RdTrace.keep {lo:Option (Nat→Prop)} {w w':World} {t:TraceD} {a b c d:Value} (h:RdTrace lo w t a b c d) (k:Below w.heap.size w w'):RdTrace lo w' t a b c d:=
 ⟨h.1.keep k,h.2.1.keep k,h.2.2.1.keep k,h.2.2.2.1.keep k,h.2.2.2.2⟩
theorem RdTrace.forget {lo:Option (Nat→Prop)} {w:World} {t:TraceD} {a b c d:Value} (h:RdTrace lo w t a b c d):RdTrace none w t a b c d:=
 ⟨h.1.forget,h.2.1.forget,h.2.2.1.forget,h.2.2.2.1.forget,h.2.2.2.2⟩
theorem infoStr:(Tryz.prog.info? 9).map (fun i=>(i.zero,i.size,i.bytes))=some (some (.string ⟨#[]⟩),1,16):=by kernel_rfl
theorem copyStr (av:Value) (l:List ByteArray) (w:World) (h:RdRow kStr none w av l) :
  Calls Tryz.prog 123 #[av] w fun e w'=>∃ v,e=.returned v∧w'.ownsRow w.heap.size 9 1 v l.length (l.flatMap cellsStr)∧RdRow kStr (some (upFrom w.heap.size)) w' v l∧Below w.heap.size w w':=by
 obtain ⟨a,c,rfl⟩:=h.is
 obtain ⟨i0,hi,hz0,hz1,hz2⟩:=info_parts infoStr
 have hok:Hid (∀ s ∈ l,kStr.ok s):=h.ok
 have hl:l.length * 16≤140737488351232:=h.size
 have HR:=Lib.hid h
 clear h
 go_enter Tryz.func123,Tryz.ntmps123
 go_wp2
 go_loopw [3,4] (fun v i wr=>∃ k:Nat,k≤l.length∧i=.int .i64 k∧wr.ownsRow w.heap.size 9 1 v k ((l.take k).flatMap cellsStr)∧Below w.heap.size w wr) (fun _ i _=>l.length - (intOf i).toNat)
 case atStart=>exact ⟨0,Nat.zero_le _,rfl,World.ownsRow_nil _ _ _ _,Below.refl _ _⟩
 case round=>
  obtain ⟨k,hk,rfl,hown,hb⟩:=hrel
  by_cases hlt:k<l.length
  ·obtain ⟨x,hx⟩:∃ x,l[k]?=some x:=⟨_,List.getElem?_eq_getElem hlt⟩
   obtain ⟨b,o,rfl,_,c0,_⟩:=atStr HR.out hx
   have c0':=cell_keepB hb c0 (block_lt_of_cell c0)
   have HX:=Lib.hid (flat_take cellsStr l k x hx)
   clear c0
   have hsz:=hb.size
   clear hx
   go_wp2_with (at_builtin;refine wpList_append_own _ rfl (.tmp 11) (.tmp 16) 22 rfl w.heap.size 9 i0 (.string ⟨#[]⟩) 1 16 Tryz.underlying22 hi hz0 hz1 hz2 rfl (by decide) _ _ _ rfl (hown.alloc _) ⟨wr.heap.size,0,none⟩ 1 1 (cellsStr x) rfl rfl (many_new _ _ _) ?c2 ?c3 ?c4 ?c5 ?_)
   case c2=>intro u hu;simp [cellsStr] at hu;first|(rcases hu with rfl|rfl|rfl|rfl|rfl|rfl|rfl|rfl <;> rfl)|(rcases hu with rfl|rfl <;> rfl)|(subst hu;rfl)
   case c3=>unfold maxLen;omega
   case c4=>omega
   case c5=>simp;omega
   ·intro v' w1 hown' hgrow _
    rw [← HX.out] at hown'
    have hb1:=(hb.alloc hb.size (.cells (cellsStr x).toArray 9)).grown hgrow (by simp;omega) (own_row_le hown)
    clear hown
    go_wp2
    go_roundw
    case rel=>exact ⟨k+1,by omega,by go_num,hown',hb1⟩
    case measure=>simp [intOf];omega
  ·obtain rfl:k=l.length:=by omega
   rw [List.take_length] at hown
   go_wp2
   go_ret
   exact ⟨_,rfl,hown,own_rows (K:=kStr) hown hl hok.out,hb⟩
theorem infoInt:(Tryz.prog.info? 3).map (fun i=>(i.zero,i.size,i.bytes))=some (some (.int .i64 0),1,8):=by kernel_rfl
theorem copyInt (av:Value) (l:List Int) (w:World) (h:RdRow kInt none w av l) :
  Calls Tryz.prog 124 #[av] w fun e w'=>∃ v,e=.returned v∧w'.ownsRow w.heap.size 3 1 v l.length (l.flatMap cellsInt)∧RdRow kInt (some (upFrom w.heap.size)) w' v l∧Below w.heap.size w w':=by
 obtain ⟨a,c,rfl⟩:=h.is
 obtain ⟨i0,hi,hz0,hz1,hz2⟩:=info_parts infoInt
 have hok:Hid (∀ s ∈ l,kInt.ok s):=h.ok
 have hl:l.length * 8≤140737488351232:=h.size
 have HR:=Lib.hid h
 clear h
 go_enter Tryz.func124,Tryz.ntmps124
 go_wp2
 go_loopw [3,4] (fun v i wr=>∃ k:Nat,k≤l.length∧i=.int .i64 k∧wr.ownsRow w.heap.size 3 1 v k ((l.take k).flatMap cellsInt)∧Below w.heap.size w wr) (fun _ i _=>l.length - (intOf i).toNat)
 case atStart=>exact ⟨0,Nat.zero_le _,rfl,World.ownsRow_nil _ _ _ _,Below.refl _ _⟩
 case round=>
  obtain ⟨k,hk,rfl,hown,hb⟩:=hrel
  by_cases hlt:k<l.length
  ·obtain ⟨x,hx⟩:∃ x,l[k]?=some x:=⟨_,List.getElem?_eq_getElem hlt⟩
   obtain ⟨b,o,rfl,_,c0,_⟩:=atInt HR.out hx
   have c0':=cell_keepB hb c0 (block_lt_of_cell c0)
   have HX:=Lib.hid (flat_take cellsInt l k x hx)
   clear c0
   have hsz:=hb.size
   clear hx
   go_wp2_with (at_builtin;refine wpList_append_own _ rfl (.tmp 11) (.tmp 16) 23 rfl w.heap.size 3 i0 (.int .i64 0) 1 8 Tryz.underlying23 hi hz0 hz1 hz2 rfl (by decide) _ _ _ rfl (hown.alloc _) ⟨wr.heap.size,0,none⟩ 1 1 (cellsInt x) rfl rfl (many_new _ _ _) ?c2 ?c3 ?c4 ?c5 ?_)
   case c2=>intro u hu;simp [cellsInt] at hu;first|(rcases hu with rfl|rfl|rfl|rfl|rfl|rfl|rfl|rfl <;> rfl)|(rcases hu with rfl|rfl <;> rfl)|(subst hu;rfl)
   case c3=>unfold maxLen;omega
   case c4=>omega
   case c5=>simp;omega
   ·intro v' w1 hown' hgrow _
    rw [← HX.out] at hown'
    have hb1:=(hb.alloc hb.size (.cells (cellsInt x).toArray 3)).grown hgrow (by simp;omega) (own_row_le hown)
    clear hown
    go_wp2
    go_roundw
    case rel=>exact ⟨k+1,by omega,by go_num,hown',hb1⟩
    case measure=>simp [intOf];omega
  ·obtain rfl:k=l.length:=by omega
   rw [List.take_length] at hown
   go_wp2
   go_ret
   exact ⟨_,rfl,hown,own_rows (K:=kInt) hown hl hok.out,hb⟩
theorem infoNum:(Tryz.prog.info? 58).map (fun i=>(i.zero,i.size,i.bytes))=some (some (.int .u64 0),1,8):=by kernel_rfl
theorem copyNum (av:Value) (l:List Int) (w:World) (h:RdRow kNum none w av l) :
  Calls Tryz.prog 65 #[av] w fun e w'=>∃ v,e=.returned v∧w'.ownsRow w.heap.size 58 1 v l.length (l.flatMap cellsNum)∧RdRow kNum (some (upFrom w.heap.size)) w' v l∧Below w.heap.size w w':=by
 obtain ⟨a,c,rfl⟩:=h.is
 obtain ⟨i0,hi,hz0,hz1,hz2⟩:=info_parts infoNum
 have hok:Hid (∀ s ∈ l,kNum.ok s):=h.ok
 have hl:l.length * 8≤140737488351232:=h.size
 have HR:=Lib.hid h
 clear h
 go_enter Tryz.func65,Tryz.ntmps65
 go_wp2
 go_loopw [3,4] (fun v i wr=>∃ k:Nat,k≤l.length∧i=.int .i64 k∧wr.ownsRow w.heap.size 58 1 v k ((l.take k).flatMap cellsNum)∧Below w.heap.size w wr) (fun _ i _=>l.length - (intOf i).toNat)
 case atStart=>exact ⟨0,Nat.zero_le _,rfl,World.ownsRow_nil _ _ _ _,Below.refl _ _⟩
 case round=>
  obtain ⟨k,hk,rfl,hown,hb⟩:=hrel
  by_cases hlt:k<l.length
  ·obtain ⟨x,hx⟩:∃ x,l[k]?=some x:=⟨_,List.getElem?_eq_getElem hlt⟩
   obtain ⟨b,o,rfl,_,c0,_⟩:=atNum HR.out hx
   have c0':=cell_keepB hb c0 (block_lt_of_cell c0)
   have HX:=Lib.hid (flat_take cellsNum l k x hx)
   clear c0
   have hsz:=hb.size
   clear hx
   go_wp2_with (at_builtin;refine wpList_append_own _ rfl (.tmp 11) (.tmp 16) 61 rfl w.heap.size 58 i0 (.int .u64 0) 1 8 Tryz.underlying61 hi hz0 hz1 hz2 rfl (by decide) _ _ _ rfl (hown.alloc _) ⟨wr.heap.size,0,none⟩ 1 1 (cellsNum x) rfl rfl (many_new _ _ _) ?c2 ?c3 ?c4 ?c5 ?_)
   case c2=>intro u hu;simp [cellsNum] at hu;first|(rcases hu with rfl|rfl|rfl|rfl|rfl|rfl|rfl|rfl <;> rfl)|(rcases hu with rfl|rfl <;> rfl)|(subst hu;rfl)
   case c3=>unfold maxLen;omega
   case c4=>omega
   case c5=>simp;omega
   ·intro v' w1 hown' hgrow _
    rw [← HX.out] at hown'
    have hb1:=(hb.alloc hb.size (.cells (cellsNum x).toArray 58)).grown hgrow (by simp;omega) (own_row_le hown)
    clear hown
    go_wp2
    go_roundw
    case rel=>exact ⟨k+1,by omega,by go_num,hown',hb1⟩
    case measure=>simp [intOf];omega
  ·obtain rfl:k=l.length:=by omega
   rw [List.take_length] at hown
   go_wp2
   go_ret
   exact ⟨_,rfl,hown,own_rows (K:=kNum) hown hl hok.out,hb⟩
theorem infoBool:(Tryz.prog.info? 4).map (fun i=>(i.zero,i.size,i.bytes))=some (some (.bool false),1,1):=by kernel_rfl
theorem infoCode:(Tryz.prog.info? 91).map (fun i=>(i.zero,i.size,i.bytes))=some (some (.agg #[.int .u8 0,.int .u8 0,.int .i64 0,.int .i64 0,.int .i64 0,.int .u64 0,.int .i64 0,.int .u64 0]),8,56):=by kernel_rfl
theorem copyCode (av:Value) (l:List CodeD) (w:World) (h:RdRow kCode none w av l) :
  Calls Tryz.prog 125 #[av] w fun e w'=>∃ v,e=.returned v∧w'.ownsRow w.heap.size 91 8 v l.length (l.flatMap cellsCode)∧RdRow kCode (some (upFrom w.heap.size)) w' v l∧Below w.heap.size w w':=by
 obtain ⟨a,c,rfl⟩:=h.is
 obtain ⟨i0,hi,hz0,hz1,hz2⟩:=info_parts infoCode
 have hok:Hid (∀ s ∈ l,kCode.ok s):=h.ok
 have hl:l.length * 56≤140737488351232:=h.size
 have HR:=Lib.hid h
 clear h
 go_enter Tryz.func125,Tryz.ntmps125
 go_wp2
 go_loopw [3,4] (fun v i wr=>∃ k:Nat,k≤l.length∧i=.int .i64 k∧wr.ownsRow w.heap.size 91 8 v k ((l.take k).flatMap cellsCode)∧Below w.heap.size w wr) (fun _ i _=>l.length - (intOf i).toNat)
 case atStart=>exact ⟨0,Nat.zero_le _,rfl,World.ownsRow_nil _ _ _ _,Below.refl _ _⟩
 case round=>
  obtain ⟨k,hk,rfl,hown,hb⟩:=hrel
  by_cases hlt:k<l.length
  ·obtain ⟨x,hx⟩:∃ x,l[k]?=some x:=⟨_,List.getElem?_eq_getElem hlt⟩
   obtain ⟨b,o,rfl,_,c0,c1,c2,c3,c4,c5,c6,c7,_⟩:=atCode HR.out hx
   have c0':=cell_keepB hb c0 (block_lt_of_cell c0)
   have c1':=cell_keepB hb c1 (block_lt_of_cell c1)
   have c2':=cell_keepB hb c2 (block_lt_of_cell c2)
   have c3':=cell_keepB hb c3 (block_lt_of_cell c3)
   have c4':=cell_keepB hb c4 (block_lt_of_cell c4)
   have c5':=cell_keepB hb c5 (block_lt_of_cell c5)
   have c6':=cell_keepB hb c6 (block_lt_of_cell c6)
   have c7':=cell_keepB hb c7 (block_lt_of_cell c7)
   have HX:=Lib.hid (flat_take cellsCode l k x hx)
   clear c0 c1 c2 c3 c4 c5 c6 c7
   have hsz:=hb.size
   clear hx
   go_wp2_with (at_builtin;refine wpList_append_own _ rfl (.tmp 11) (.tmp 16) 24 rfl w.heap.size 91 i0 (.agg #[.int .u8 0,.int .u8 0,.int .i64 0,.int .i64 0,.int .i64 0,.int .u64 0,.int .i64 0,.int .u64 0]) 8 56 Tryz.underlying24 hi hz0 hz1 hz2 rfl (by decide) _ _ _ rfl (hown.alloc _) ⟨wr.heap.size,0,none⟩ 1 1 (cellsCode x) rfl rfl (many_new _ _ _) ?c2 ?c3 ?c4 ?c5 ?_)
   case c2=>intro u hu;simp [cellsCode] at hu;first|(rcases hu with rfl|rfl|rfl|rfl|rfl|rfl|rfl|rfl <;> rfl)|(rcases hu with rfl|rfl <;> rfl)|(subst hu;rfl)
   case c3=>unfold maxLen;omega
   case c4=>omega
   case c5=>simp;omega
   ·intro v' w1 hown' hgrow _
    rw [← HX.out] at hown'
    have hb1:=(hb.alloc hb.size (.cells (cellsCode x).toArray 91)).grown hgrow (by simp;omega) (own_row_le hown)
    clear hown
    go_wp2
    go_roundw
    case rel=>exact ⟨k+1,by omega,by go_num,hown',hb1⟩
    case measure=>simp [intOf];omega
  ·obtain rfl:k=l.length:=by omega
   rw [List.take_length] at hown
   go_wp2
   go_ret
   exact ⟨_,rfl,hown,own_rows (K:=kCode) hown hl hok.out,hb⟩
theorem infoEv:(Tryz.prog.info? 163).map (fun i=>(i.zero,i.size,i.bytes))=some (some (.agg #[.int .i64 0,.int .u64 0]),2,16):=by kernel_rfl
def eqL {α:Type} (f:α→α→Bool):List α→List α→Bool
 | [],[]=>true
 | x :: r,y :: s=>f x y && eqL f r s
 | _,_=>false
theorem eqL_len {α:Type} (f:α→α→Bool):∀ (l m:List α),l.length ≠ m.length→eqL f l m=false
 | [],[],h=>absurd rfl h
 | [],_ :: _,_=>rfl
 | _ :: _,[],_=>rfl
 | x :: r,y :: s,h=>by rw [eqL,eqL_len f r s (by simpa using h),Bool.and_false]
theorem eqL_miss {α:Type} (f:α→α→Bool):∀ (l m:List α) (k:Nat) (x y:α),l[k]?=some x→m[k]?=some y→f x y=false→eqL f l m=false
 | [],_,k,x,y,h,_,_=>by simp at h
 | _ :: _,[],k,x,y,_,h,_=>by simp at h
 | a :: r,b :: s,0,x,y,h1,h2,h3=>by
  simp at h1 h2;subst h1;subst h2;rw [eqL,h3,Bool.false_and]
 | a :: r,b :: s,k+1,x,y,h1,h2,h3=>by rw [eqL,eqL_miss f r s k x y (by simpa using h1) (by simpa using h2) h3,Bool.and_false]
theorem eqL_all {α:Type} (f:α→α→Bool):∀ (l m:List α),l.length=m.length→(∀ (k:Nat) (x y:α),l[k]?=some x→m[k]?=some y→f x y=true)→eqL f l m=true
 | [],[],_,_=>rfl
 | [],_ :: _,h,_=>by simp at h
 | _ :: _,[],h,_=>by simp at h
 | a :: r,b :: s,h,g=>by
  rw [eqL,g 0 a b (by simp) (by simp),eqL_all f r s (by simpa using h) (fun (k:Nat) x y h1 h2=>g (k+1) x y (by simpa using h1) (by simpa using h2)),Bool.and_true]
theorem eqL_refl {α:Type} {f:α→α→Bool} (hf:∀ x,f x x=true):∀ l:List α,eqL f l l=true
 | []=>rfl
 | x :: r=>by rw [eqL,hf,eqL_refl hf r];rfl
def eqNum (x y:Int):Bool:=x == y
theorem eqNum_cases (x y:Int):(eqNum x y=true∧x=y∧True) ∨ (eqNum x y=false∧¬ x=y∧True):=by
 unfold eqNum
 by_cases h0:x=y
 rotate_left
 ·simp [h0]
 simp [h0]
theorem equalNum (av bv:Value) (l m:List Int) (w:World) (h:RdRow kNum none w av l) (g:RdRow kNum none w bv m) :
  Calls Tryz.prog 66 #[av,bv] w fun e w'=>e=.returned (.bool (eqL eqNum l m))∧Below w.heap.size w w':=by
 obtain ⟨a,c,rfl⟩:=h.is
 obtain ⟨a2,c2,rfl⟩:=g.is
 have hl:l.length * 8≤140737488351232:=h.size
 have HR:=Lib.hid h
 have GR:=Lib.hid g
 clear h g
 by_cases hlen:l.length=m.length
 ·have he:((l.length:Int) != (m.length:Int))=false:=by rw [hlen];simp
  have HL:=Lib.hid hlen
  clear hlen
  go_enter Tryz.func66,Tryz.ntmps66
  go_wp2
  go_loopw [5] (fun i wr=>∃ k:Nat,k≤l.length∧i=.int .i64 k∧Hid (∀ (j:Nat) x y,j<k→l[j]?=some x→m[j]?=some y→eqNum x y=true)∧Below w.heap.size w wr) (fun i _=>l.length - (intOf i).toNat)
  case atStart=>exact ⟨0,Nat.zero_le _,rfl,(fun j x y h=>by omega),Below.refl _ _⟩
  case round=>
   obtain ⟨k,hk,rfl,hq,hb⟩:=hrel
   by_cases hlt:k<l.length
   ·have hlt2:k<m.length:=by rw [← HL.out];exact hlt
    obtain ⟨x,hx⟩:∃ x,l[k]?=some x:=⟨_,List.getElem?_eq_getElem hlt⟩
    obtain ⟨y,hy⟩:∃ y,m[k]?=some y:=⟨_,List.getElem?_eq_getElem hlt2⟩
    obtain ⟨b,o,rfl,_,c0,_⟩:=atNum HR.out hx
    obtain ⟨b2,o2,rfl,_,d0,_⟩:=atNum GR.out hy
    have c0':=cell_keepB hb c0 (block_lt_of_cell c0)
    have d0':=cell_keepB hb d0 (block_lt_of_cell d0)
    have HX:=Lib.hid (And.intro hx hy)
    have hi1:(k:Int)<(l.length:Int):=by omega
    have hi2:(k:Int)<(m.length:Int):=by omega
    clear c0 d0 hx hy
    rcases eqNum_cases x y with ⟨hv,h0,h1⟩|⟨hv,h0,h1⟩
    ·have HV:=Lib.hid hv
     clear hv
     go_wp2_with fail
     go_quiet (fail)
     go_wp2
     go_roundw
     case rel=>
      refine ⟨k+1,by omega,by go_num,?_,below_drewN hb _⟩
      intro j x' y' hj g1 g2
      rcases Nat.lt_or_ge j k with h|h
      ·exact hq.out j x' y' h g1 g2
      ·obtain rfl:j=k:=by omega
       rw [HX.out.1] at g1;rw [HX.out.2] at g2
       cases g1;cases g2;exact HV.out
     case measure=>simp [intOf];omega
    all_goals
     have HV:=Lib.hid hv
     clear hv
     go_wp2_with fail
     go_quiet (fail)
     go_wp2
     go_ret
     exact ⟨by rw [eqL_miss eqNum l m k x y HX.out.1 HX.out.2 HV.out];rfl,below_drewN hb _⟩
   ·obtain rfl:k=l.length:=by omega
    go_wp2
    go_ret
    refine ⟨?_,hb⟩
    rw [eqL_all eqNum l m HL.out (fun j x y g1 g2=>hq.out j x y (List.getElem?_eq_some_iff.1 g1).1 g1 g2)];rfl
 ·have he:((l.length:Int) != (m.length:Int))=true:=by rw [bne_iff_ne];omega
  have HL:=Lib.hid (eqL_len eqNum l m hlen)
  clear hlen
  go_enter Tryz.func66,Tryz.ntmps66
  go_wp2
  go_ret
  exact ⟨by rw [HL.out];rfl,Below.refl _ _⟩
def eqBool (x y:Bool):Bool:=x == y
theorem eqBool_cases (x y:Bool):(eqBool x y=true∧(x == y)=true∧True) ∨ (eqBool x y=false∧(x == y)=false∧True):=by
 unfold eqBool
 cases (x == y) <;> simp
theorem equalBool (av bv:Value) (l m:List Bool) (w:World) (h:RdRow kBool none w av l) (g:RdRow kBool none w bv m) :
  Calls Tryz.prog 43 #[av,bv] w fun e w'=>e=.returned (.bool (eqL eqBool l m))∧Below w.heap.size w w':=by
 obtain ⟨a,c,rfl⟩:=h.is
 obtain ⟨a2,c2,rfl⟩:=g.is
 have hl:l.length * 1≤140737488351232:=h.size
 have HR:=Lib.hid h
 have GR:=Lib.hid g
 clear h g
 by_cases hlen:l.length=m.length
 ·have he:((l.length:Int) != (m.length:Int))=false:=by rw [hlen];simp
  have HL:=Lib.hid hlen
  clear hlen
  go_enter Tryz.func43,Tryz.ntmps43
  go_wp2
  go_loopw [5] (fun i wr=>∃ k:Nat,k≤l.length∧i=.int .i64 k∧Hid (∀ (j:Nat) x y,j<k→l[j]?=some x→m[j]?=some y→eqBool x y=true)∧Below w.heap.size w wr) (fun i _=>l.length - (intOf i).toNat)
  case atStart=>exact ⟨0,Nat.zero_le _,rfl,(fun j x y h=>by omega),Below.refl _ _⟩
  case round=>
   obtain ⟨k,hk,rfl,hq,hb⟩:=hrel
   by_cases hlt:k<l.length
   ·have hlt2:k<m.length:=by rw [← HL.out];exact hlt
    obtain ⟨x,hx⟩:∃ x,l[k]?=some x:=⟨_,List.getElem?_eq_getElem hlt⟩
    obtain ⟨y,hy⟩:∃ y,m[k]?=some y:=⟨_,List.getElem?_eq_getElem hlt2⟩
    obtain ⟨b,o,rfl,_,c0,_⟩:=atBool HR.out hx
    obtain ⟨b2,o2,rfl,_,d0,_⟩:=atBool GR.out hy
    have c0':=cell_keepB hb c0 (block_lt_of_cell c0)
    have d0':=cell_keepB hb d0 (block_lt_of_cell d0)
    have HX:=Lib.hid (And.intro hx hy)
    have hi1:(k:Int)<(l.length:Int):=by omega
    have hi2:(k:Int)<(m.length:Int):=by omega
    clear c0 d0 hx hy
    rcases eqBool_cases x y with ⟨hv,h0,h1⟩|⟨hv,h0,h1⟩
    ·have HV:=Lib.hid hv
     clear hv
     go_wp2_with fail
     go_quiet (fail)
     go_wp2
     go_roundw
     case rel=>
      refine ⟨k+1,by omega,by go_num,?_,below_drewN hb _⟩
      intro j x' y' hj g1 g2
      rcases Nat.lt_or_ge j k with h|h
      ·exact hq.out j x' y' h g1 g2
      ·obtain rfl:j=k:=by omega
       rw [HX.out.1] at g1;rw [HX.out.2] at g2
       cases g1;cases g2;exact HV.out
     case measure=>simp [intOf];omega
    all_goals
     have HV:=Lib.hid hv
     clear hv
     go_wp2_with fail
     go_quiet (fail)
     go_wp2
     go_ret
     exact ⟨by rw [eqL_miss eqBool l m k x y HX.out.1 HX.out.2 HV.out];rfl,below_drewN hb _⟩
   ·obtain rfl:k=l.length:=by omega
    go_wp2
    go_ret
    refine ⟨?_,hb⟩
    rw [eqL_all eqBool l m HL.out (fun j x y g1 g2=>hq.out j x y (List.getElem?_eq_some_iff.1 g1).1 g1 g2)];rfl
 ·have he:((l.length:Int) != (m.length:Int))=true:=by rw [bne_iff_ne];omega
  have HL:=Lib.hid (eqL_len eqBool l m hlen)
  clear hlen
  go_enter Tryz.func43,Tryz.ntmps43
  go_wp2
  go_ret
  exact ⟨by rw [HL.out];rfl,Below.refl _ _⟩
def eqEv (x y:EvD):Bool:=x.n == y.n && x.val == y.val
theorem eqEv_cases (x y:EvD):(eqEv x y=true∧x.n=y.n∧x.val=y.val) ∨ (eqEv x y=false∧¬ x.n=y.n∧True) ∨ (eqEv x y=false∧x.n=y.n∧¬ x.val=y.val):=by
 unfold eqEv
 by_cases h0:x.n=y.n
 rotate_left
 ·simp [h0]
 by_cases h1:x.val=y.val
 rotate_left
 ·simp [h0,h1]
 simp [h0,h1]
theorem equalEv (av bv:Value) (l m:List EvD) (w:World) (h:RdRow kEv none w av l) (g:RdRow kEv none w bv m) :
  Calls Tryz.prog 131 #[av,bv] w fun e w'=>e=.returned (.bool (eqL eqEv l m))∧Below w.heap.size w w':=by
 obtain ⟨a,c,rfl⟩:=h.is
 obtain ⟨a2,c2,rfl⟩:=g.is
 have hl:l.length * 16≤140737488351232:=h.size
 have HR:=Lib.hid h
 have GR:=Lib.hid g
 clear h g
 by_cases hlen:l.length=m.length
 ·have he:((l.length:Int) != (m.length:Int))=false:=by rw [hlen];simp
  have HL:=Lib.hid hlen
  clear hlen
  go_enter Tryz.func131,Tryz.ntmps131
  go_wp2
  go_loopw [5] (fun i wr=>∃ k:Nat,k≤l.length∧i=.int .i64 k∧Hid (∀ (j:Nat) x y,j<k→l[j]?=some x→m[j]?=some y→eqEv x y=true)∧Below w.heap.size w wr) (fun i _=>l.length - (intOf i).toNat)
  case atStart=>exact ⟨0,Nat.zero_le _,rfl,(fun j x y h=>by omega),Below.refl _ _⟩
  case round=>
   obtain ⟨k,hk,rfl,hq,hb⟩:=hrel
   by_cases hlt:k<l.length
   ·have hlt2:k<m.length:=by rw [← HL.out];exact hlt
    obtain ⟨x,hx⟩:∃ x,l[k]?=some x:=⟨_,List.getElem?_eq_getElem hlt⟩
    obtain ⟨y,hy⟩:∃ y,m[k]?=some y:=⟨_,List.getElem?_eq_getElem hlt2⟩
    obtain ⟨b,o,rfl,_,c0,c1,_⟩:=atEv HR.out hx
    obtain ⟨b2,o2,rfl,_,d0,d1,_⟩:=atEv GR.out hy
    have c0':=cell_keepB hb c0 (block_lt_of_cell c0)
    have d0':=cell_keepB hb d0 (block_lt_of_cell d0)
    have c1':=cell_keepB hb c1 (block_lt_of_cell c1)
    have d1':=cell_keepB hb d1 (block_lt_of_cell d1)
    have HX:=Lib.hid (And.intro hx hy)
    have hi1:(k:Int)<(l.length:Int):=by omega
    have hi2:(k:Int)<(m.length:Int):=by omega
    clear c0 d0 c1 d1 hx hy
    rcases eqEv_cases x y with ⟨hv,h0,h1⟩|⟨hv,h0,h1⟩|⟨hv,h0,h1⟩
    ·have HV:=Lib.hid hv
     clear hv
     go_wp2_with fail
     go_quiet (fail)
     go_wp2
     go_roundw
     case rel=>
      refine ⟨k+1,by omega,by go_num,?_,below_drewN hb _⟩
      intro j x' y' hj g1 g2
      rcases Nat.lt_or_ge j k with h|h
      ·exact hq.out j x' y' h g1 g2
      ·obtain rfl:j=k:=by omega
       rw [HX.out.1] at g1;rw [HX.out.2] at g2
       cases g1;cases g2;exact HV.out
     case measure=>simp [intOf];omega
    all_goals
     have HV:=Lib.hid hv
     clear hv
     go_wp2_with fail
     go_quiet (fail)
     go_wp2
     go_ret
     exact ⟨by rw [eqL_miss eqEv l m k x y HX.out.1 HX.out.2 HV.out];rfl,below_drewN hb _⟩
   ·obtain rfl:k=l.length:=by omega
    go_wp2
    go_ret
    refine ⟨?_,hb⟩
    rw [eqL_all eqEv l m HL.out (fun j x y g1 g2=>hq.out j x y (List.getElem?_eq_some_iff.1 g1).1 g1 g2)];rfl
 ·have he:((l.length:Int) != (m.length:Int))=true:=by rw [bne_iff_ne];omega
  have HL:=Lib.hid (eqL_len eqEv l m hlen)
  clear hlen
  go_enter Tryz.func131,Tryz.ntmps131
  go_wp2
  go_ret
  exact ⟨by rw [HL.out];rfl,Below.refl _ _⟩
end Go.Proofs.YtkjkpddajjmloaaGreatDoor
