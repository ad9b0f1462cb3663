/- Contracts of the copies of the kit's lists: what comes back reads as what came in, in new memory, and nothing that was there is written. Condition: what comes in reads as the list. -/
import Derived.Test.YtgllkgedjplpdaaGreatDoorProg
import Derived.Test.YtgllkgedjplpdaaGreatDoorLib
import Derived.Test.YtgllkgedjplpdaaGreatDoorMix
import Derived.Deep.QuietTactic
import Derived.BigQuiet
set_option linter.all false
set_option maxRecDepth 1000000
set_option maxHeartbeats 12800000
namespace Go.Proofs.YtgllkgedjplpdaaGreatDoor
open Go.ChangeShapes Go.WideShapes Go.ChangeAt Go.RowKit
theorem infoStr:(Tryz.prog.info? 9).map (fun i=>(i.zero,i.size,i.bytes))=some (some (.string ⟨#[]⟩),1,16):=by kernel_rfl
theorem copyStrs (av:Value) (l:List ByteArray) (w:World) (h:RdStrs none w av l) :
  Calls Tryz.prog 17 #[av] w fun e w'=>∃ v,e=.returned v/\RdStrs (some (upFrom w.heap.size)) w' v l/\Below w.heap.size w w':=by
 obtain ⟨a,c,rfl,hl,hr⟩:=h
 obtain ⟨i0,hi,hz0,hz1,hz2⟩:=info_parts infoStr
 have hok:Hid (∀ s ∈ l,s.size<=maxLen):=by
  intro s hs
  obtain ⟨i,hi⟩:=List.getElem?_of_mem hs
  obtain ⟨b,o,_,_,_,h1⟩:=hr i s hi
  exact h1
 have HR:=Hd hr
 clear hr
 go_enter Tryz.func17,Tryz.ntmps17
 go_wp2
 go_loopw [3,4] (fun v i wr=>∃ k:Nat,k<=l.length/\i=.int .i64 k/\wr.ownsRow w.heap.size 9 1 v k ((l.take k).flatMap strCells)/\Below w.heap.size w wr) (fun _ i _=>l.length - (intOf i).toNat)
 case atStart=>exact ⟨0,Nat.zero_le _,rfl,World.ownsRow_nil _ _ _ _,bR _ _⟩
 case round=>
  obtain ⟨k,hk,rfl,hown,hb⟩:=hrel
  by_cases hlt:k<l.length
  ·obtain ⟨x,hx⟩:∃ x,l[k]?=some x:=⟨_,lG hlt⟩
   obtain ⟨b,o,rfl,_,c0,_⟩:=HR.out k x hx
   have c0':=cell_keepB hb c0 (block_lt_of_cell c0)
   have HX:=Hd (flat_take strCells l k x hx)
   clear c0
   have hsz:=hb.size
   clear hx
   go_wp2_with (at_builtin;refine wpList_append_own _ rfl (.tmp 11) (.tmp 16) 22 rfl w.heap.size 9 i0 (.string ⟨#[]⟩) 1 16 Tryz.underlying22 hi hz0 hz1 hz2 rfl (by decide) _ _ _ rfl (hown.alloc _) ⟨wr.heap.size,0,none⟩ 1 1 (strCells x) rfl rfl (many_new _ _ _) ?c2 ?c3 ?c4 ?c5 ?_)
   case c2=>intro u hu;simp [strCells,arrCells,argCells] at hu;first|(rcases hu with rfl|rfl <;> rfl)|(subst hu;rfl)
   case c3=>unfold maxLen;omega
   case c4=>omega
   case c5=>simp;omega
   ·intro v' w1 hown' hgrow _
    rw [<- HX.out] at hown'
    have hb1:=(hb.alloc hb.size (.cells (strCells x).toArray 9)).grown hgrow (by simp;omega) (own_row_le hown)
    clear hown
    go_wp2
    go_roundw
    case rel=>exact ⟨k+1,by omega,by go_num,hown',hb1⟩
    case measure=>simp [intOf];omega
  ·obtain rfl:k=l.length:=by omega
   rw [List.take_length] at hown
   go_wp2
   go_ret
   exact ⟨_,rfl,own_strs hown hl.1 hok.out,hb⟩
theorem infoArr:(Tryz.prog.info? 96).map (fun i=>(i.zero,i.size,i.bytes))=some (some (.agg #[.string ⟨#[]⟩,.int .i64 0]),2,24):=by kernel_rfl
theorem copyArrs (av:Value) (l:List ArrD) (w:World) (h:RdArrs none w av l) :
  Calls Tryz.prog 18 #[av] w fun e w'=>∃ v,e=.returned v/\RdArrs (some (upFrom w.heap.size)) w' v l/\Below w.heap.size w w':=by
 obtain ⟨a,c,rfl,hl,hr⟩:=h
 obtain ⟨i0,hi,hz0,hz1,hz2⟩:=info_parts infoArr
 have hok:Hid (∀ s ∈ l,InI64 s.size/\s.name.size<=maxLen):=by
  intro s hs
  obtain ⟨i,hi⟩:=List.getElem?_of_mem hs
  obtain ⟨b,o,_,_,_,_,h1⟩:=hr i s hi
  exact h1
 have HR:=Hd hr
 clear hr
 go_enter Tryz.func18,Tryz.ntmps18
 go_wp2
 go_loopw [3,4] (fun v i wr=>∃ k:Nat,k<=l.length/\i=.int .i64 k/\wr.ownsRow w.heap.size 96 2 v k ((l.take k).flatMap arrCells)/\Below w.heap.size w wr) (fun _ i _=>l.length - (intOf i).toNat)
 case atStart=>exact ⟨0,Nat.zero_le _,rfl,World.ownsRow_nil _ _ _ _,bR _ _⟩
 case round=>
  obtain ⟨k,hk,rfl,hown,hb⟩:=hrel
  by_cases hlt:k<l.length
  ·obtain ⟨x,hx⟩:∃ x,l[k]?=some x:=⟨_,lG hlt⟩
   obtain ⟨b,o,rfl,_,c0,c1,_⟩:=HR.out k x hx
   have c0':=cell_keepB hb c0 (block_lt_of_cell c0)
   have c1':=cell_keepB hb c1 (block_lt_of_cell c1)
   have HX:=Hd (flat_take arrCells l k x hx)
   clear c0 c1
   have hsz:=hb.size
   clear hx
   go_wp2_with (at_builtin;refine wpList_append_own _ rfl (.tmp 11) (.tmp 16) 23 rfl w.heap.size 96 i0 (.agg #[.string ⟨#[]⟩,.int .i64 0]) 2 24 Tryz.underlying23 hi hz0 hz1 hz2 rfl (by decide) _ _ _ rfl (hown.alloc _) ⟨wr.heap.size,0,none⟩ 1 1 (arrCells x) rfl rfl (many_new _ _ _) ?c2 ?c3 ?c4 ?c5 ?_)
   case c2=>intro u hu;simp [strCells,arrCells,argCells] at hu;first|(rcases hu with rfl|rfl <;> rfl)|(subst hu;rfl)
   case c3=>unfold maxLen;omega
   case c4=>omega
   case c5=>simp;omega
   ·intro v' w1 hown' hgrow _
    rw [<- HX.out] at hown'
    have hb1:=(hb.alloc hb.size (.cells (arrCells x).toArray 96)).grown hgrow (by simp;omega) (own_row_le hown)
    clear hown
    go_wp2
    go_roundw
    case rel=>exact ⟨k+1,by omega,by go_num,hown',hb1⟩
    case measure=>simp [intOf];omega
  ·obtain rfl:k=l.length:=by omega
   rw [List.take_length] at hown
   go_wp2
   go_ret
   exact ⟨_,rfl,own_arrs hown hl.1 hok.out,hb⟩
theorem infoArg:(Tryz.prog.info? 47).map (fun i=>(i.zero,i.size,i.bytes))=some (some (.agg #[.string ⟨#[]⟩,.int .u64 0]),2,24):=by kernel_rfl
theorem copyArgs (av:Value) (l:List ArgD) (w:World) (h:RdArgs none w av l) :
  Calls Tryz.prog 80 #[av] w fun e w'=>∃ v,e=.returned v/\RdArgs (some (upFrom w.heap.size)) w' v l/\Below w.heap.size w w':=by
 obtain ⟨a,c,rfl,hl,hr⟩:=h
 obtain ⟨i0,hi,hz0,hz1,hz2⟩:=info_parts infoArg
 have hok:Hid (∀ s ∈ l,InU64 s.num/\s.name.size<=maxLen):=by
  intro s hs
  obtain ⟨i,hi⟩:=List.getElem?_of_mem hs
  obtain ⟨b,o,_,_,_,_,h1⟩:=hr i s hi
  exact h1
 have HR:=Hd hr
 clear hr
 go_enter Tryz.func80,Tryz.ntmps80
 go_wp2
 go_loopw [3,4] (fun v i wr=>∃ k:Nat,k<=l.length/\i=.int .i64 k/\wr.ownsRow w.heap.size 47 2 v k ((l.take k).flatMap argCells)/\Below w.heap.size w wr) (fun _ i _=>l.length - (intOf i).toNat)
 case atStart=>exact ⟨0,Nat.zero_le _,rfl,World.ownsRow_nil _ _ _ _,bR _ _⟩
 case round=>
  obtain ⟨k,hk,rfl,hown,hb⟩:=hrel
  by_cases hlt:k<l.length
  ·obtain ⟨x,hx⟩:∃ x,l[k]?=some x:=⟨_,lG hlt⟩
   obtain ⟨b,o,rfl,_,c0,c1,_⟩:=HR.out k x hx
   have c0':=cell_keepB hb c0 (block_lt_of_cell c0)
   have c1':=cell_keepB hb c1 (block_lt_of_cell c1)
   have HX:=Hd (flat_take argCells l k x hx)
   clear c0 c1
   have hsz:=hb.size
   clear hx
   go_wp2_with (at_builtin;refine wpList_append_own _ rfl (.tmp 11) (.tmp 16) 48 rfl w.heap.size 47 i0 (.agg #[.string ⟨#[]⟩,.int .u64 0]) 2 24 Tryz.underlying48 hi hz0 hz1 hz2 rfl (by decide) _ _ _ rfl (hown.alloc _) ⟨wr.heap.size,0,none⟩ 1 1 (argCells x) rfl rfl (many_new _ _ _) ?c2 ?c3 ?c4 ?c5 ?_)
   case c2=>intro u hu;simp [strCells,arrCells,argCells] at hu;first|(rcases hu with rfl|rfl <;> rfl)|(subst hu;rfl)
   case c3=>unfold maxLen;omega
   case c4=>omega
   case c5=>simp;omega
   ·intro v' w1 hown' hgrow _
    rw [<- HX.out] at hown'
    have hb1:=(hb.alloc hb.size (.cells (argCells x).toArray 47)).grown hgrow (by simp;omega) (own_row_le hown)
    clear hown
    go_wp2
    go_roundw
    case rel=>exact ⟨k+1,by omega,by go_num,hown',hb1⟩
    case measure=>simp [intOf];omega
  ·obtain rfl:k=l.length:=by omega
   rw [List.take_length] at hown
   go_wp2
   go_ret
   exact ⟨_,rfl,own_args hown hl.1 hok.out,hb⟩
abbrev instrV (x:InstrD) (av:Value):Value:=.agg #[.int .u8 x.kind,.int .u8 x.op,.string x.dst,.string x.name,av,.int .i64 x.line,.int .i64 x.col]
abbrev funcV (x:FuncD) (pv cv:Value):Value:=.agg #[.string x.name,pv,cv,.int .i64 x.line,.int .i64 x.col]
abbrev progV (p:ProgD) (cv av fv mv:Value):Value:=.agg #[.int .i64 p.width,cv,av,fv,mv]
theorem copyInstr (x:InstrD) (av:Value) (w:World) (h:RdInstr none w x av) :
  Calls Tryz.prog 49 #[instrV x av] w fun e w'=>∃ av',e=.returned (instrV x av')/\RdInstr (some (upFrom w.heap.size)) w' x av'/\Below w.heap.size w w':=by
 obtain ⟨h,hrest⟩:=h
 obtain ⟨a,c,rfl,_⟩:=id h
 have H:=Hd h
 clear h
 go_enter Tryz.func49,Tryz.ntmps49
 go_wp2_with (first
  | (go_at_call 80;refine (copyArgs _ x.args _ (H.out.keep (((bR _ _).alloc (nR _) _).alloc (by simp) _))).mono ?_;rintro e w1 ⟨v,rfl,hr,hb⟩;obtain ⟨h0,h1,hb'⟩:=heap2_of hb;obtain ⟨a',c',rfl,_⟩:=id hr;have c4:=row_of h0 4 (.slice a x.args.length c) rfl;have f4:=frozen_of_row w1 _ 4 _ _ h0;have H0:=Hd (heap_setCell_same _ _ 4 _ _ (.slice a' x.args.length c') h0);have H1:=Hd ((heap_setCell_other w1 ⟨w.heap.size,4,none⟩ (w.heap.size+1) (.slice a' x.args.length c') (by simp)).trans h1);have HB:=Hd hb;have HR:=Hd hr;clear h0 h1 hb hr)
  | (refine wpList_load_row rfl 50 (.tmp 1) rfl w.heap.size rfl 50 #[.int .u8 x.kind,.int .u8 x.op,.string x.dst,.string x.name,.slice a' x.args.length c',.int .i64 x.line,.int .i64 x.col] (0,0) _ ?h Tryz.underlying50 rfl ?s ?_;exact H0.out;kernel_rfl)
  | (refine wpList_store_row rfl 50 (.tmp 2) (.tmp 7) rfl (w.heap.size+1) #[.int .u8 x.kind,.int .u8 x.op,.string x.dst,.string x.name,.slice a' x.args.length c',.int .i64 x.line,.int .i64 x.col] rfl rfl 50 #[.int .u8 0,.int .u8 0,.string ⟨#[]⟩,.string ⟨#[]⟩,.slice none 0 0,.int .i64 0,.int .i64 0] ?h2 ?s2 ?s3 ?s4 ?_;exact H1.out;kernel_rfl;kernel_rfl;kernel_rfl))
 refine bodyPost_ret (v:=instrV x (.slice a' x.args.length c')) ?_ rfl ⟨_,rfl,⟨?_,hrest⟩,below_row (hb'.setCell (by simp) _) (by simp) _⟩
 ·exact results_cell_row (P:=Tryz.prog) (fn:=Tryz.f49) rfl _ _ (w.heap.size+1) 50 _ (0,0) _ rfl (setRow_heap _ _ _ _ _ _ H1.out) Tryz.underlying50 rfl (by kernel_rfl)
 ·have e:((w.alloc (.cells #[.int .u8 x.kind,.int .u8 x.op,.string x.dst,.string x.name,.slice a x.args.length c,.int .i64 x.line,.int .i64 x.col] 50)).alloc (.cells #[.int .u8 0,.int .u8 0,.string ⟨#[]⟩,.string ⟨#[]⟩,.slice none 0 0,.int .i64 0,.int .i64 0] 50)).heap.size=w.heap.size+1+1:=by
   show ((w.heap.push _).push _).size=_
   simp
  have hr:=HR.out
  rw [e] at hr
  have hfr:From (w.heap.size+1+1) w1 ((w1.setCell ⟨w.heap.size,4,none⟩ (.slice a' x.args.length c')).setRow (w.heap.size+1) #[.int .u8 x.kind,.int .u8 x.op,.string x.dst,.string x.name,.slice a' x.args.length c',.int .i64 x.line,.int .i64 x.col]):=
   ((From.refl _ _).setCell (by simp;omega) _).setRow (by omega) _
  exact RdArgs.same hr hfr (fun b _ h=>by unfold upFrom at *;omega)
theorem infoInstr:(Tryz.prog.info? 50).map (fun i=>(i.zero,i.size,i.bytes))=some (some (.agg #[.int .u8 0,.int .u8 0,.string ⟨#[]⟩,.string ⟨#[]⟩,.slice none 0 0,.int .i64 0,.int .i64 0]),7,80):=by kernel_rfl
theorem copyInstrs (av:Value) (l:List InstrD) (w:World) (h:RdInstrs none w av l) :
  Calls Tryz.prog 21 #[av] w fun e w'=>∃ v,e=.returned v/\RdInstrs (some (upFrom w.heap.size)) w' v l/\Below w.heap.size w w':=by
 obtain ⟨a,c,rfl,hl,hr⟩:=h
 obtain ⟨i0,hi,hz0,hz1,hz2⟩:=info_parts infoInstr
 have HR:=Hd hr
 clear hr
 go_enter Tryz.func21,Tryz.ntmps21
 go_wp2
 go_loopw [3,4] (fun v i wr=>∃ (k:Nat) (P:List (InstrD × Value)),k<=l.length/\i=.int .i64 k/\P.map Prod.fst=l.take k/\wr.ownsRow w.heap.size 50 7 v k (P.flatMap insCells)/\(∀ p ∈ P,RdInstr (some (upFrom w.heap.size)) wr p.1 p.2)/\Below w.heap.size w wr) (fun _ i _=>l.length - (intOf i).toNat)
 case atStart=>exact ⟨0,[],Nat.zero_le _,rfl,rfl,World.ownsRow_nil _ _ _ _,(fun p hp=>nomatch hp),bR _ _⟩
 case round=>
  obtain ⟨k,P,hk,rfl,hP,hown,hp,hb⟩:=hrel
  have HP:=Hd hP
  have HQ:=Hd hp
  clear hP hp
  by_cases hlt:k<l.length
  ·obtain ⟨x,hx⟩:∃ x,l[k]?=some x:=⟨_,lG hlt⟩
   obtain ⟨b,o,av,rfl,_,c0,c1,c2,c3,c4,c5,c6,hri⟩:=HR.out k x hx
   have d0:=cell_keepB hb c0 (block_lt_of_cell c0)
   have d1:=cell_keepB hb c1 (block_lt_of_cell c1)
   have d2:=cell_keepB hb c2 (block_lt_of_cell c2)
   have d3:=cell_keepB hb c3 (block_lt_of_cell c3)
   have d4:=cell_keepB hb c4 (block_lt_of_cell c4)
   have d5:=cell_keepB hb c5 (block_lt_of_cell c5)
   have d6:=cell_keepB hb c6 (block_lt_of_cell c6)
   have HRI:=Hd (hri.keep hb)
   have HX:=Hd hx
   have hsz:=hb.size
   clear c0 c1 c2 c3 c4 c5 c6 hx hri
   go_wp2_with (first
    | (go_at_call 49;refine (copyInstr x av _ HRI.out).mono ?_;rintro e w1 ⟨av',rfl,hr1,hb1⟩;have hs1:=hb1.size;have hown1:=own_below hown hb1)
    | (at_builtin;refine wpList_append_own _ rfl (.tmp 11) (.tmp 17) 25 rfl w.heap.size 50 i0 (.agg #[.int .u8 0,.int .u8 0,.string ⟨#[]⟩,.string ⟨#[]⟩,.slice none 0 0,.int .i64 0,.int .i64 0]) 7 80 Tryz.underlying25 hi hz0 hz1 hz2 rfl (by decide) _ _ _ rfl (hown1.alloc _) ⟨w1.heap.size,0,none⟩ 1 1 (insCells (x,av')) rfl rfl (many_new _ _ _) ?c2 ?c3 ?c4 ?c5 ?_))
   case c2=>intro u hu;simp [insCells] at hu;have h1:=rdArgs_one hr1.1;rcases hu with rfl|rfl|rfl|rfl|rfl|rfl|rfl <;> first|rfl|exact h1
   case c3=>unfold maxLen;omega
   case c4=>omega
   case c5=>simp;omega
   ·intro v' w2 hown' hgrow _
    have hal:Below w1.heap.size w1 (w1.alloc (.cells (insCells (x,av')).toArray 50)):=(bR _ _).alloc (nR _) _
    have hown2:=hown1.alloc (.cells (insCells (x,av')).toArray 50)
    have hnew:Hid (∀ p ∈ P ++ [(x,av')],RdInstr (some (upFrom w.heap.size)) w2 p.1 p.2):=by
     intro p hp
     rcases List.mem_append.1 hp with h|h
     ·exact instr_grown hown2 hgrow (((HQ.out p h).keep hb1).keep hal)
     ·rw [List.mem_singleton] at h;subst h
      exact instr_grown hown2 hgrow ((hr1.keep hal).up hsz)
    have hb2:Below w.heap.size w w2:=(((hb.trans (hb1.mono hsz)).alloc (by omega) _).grown hgrow (by simp;omega) (own_row_le hown))
    rw [show P.flatMap insCells ++ insCells (x,av')=(P ++ [(x,av')]).flatMap insCells from by simp] at hown'
    clear hown hown1 hown2 hgrow hr1 hb1 hal hs1
    go_wp2
    go_roundw
    case rel=>exact ⟨k+1,P ++ [(x,av')],by omega,by go_num,map_take_snoc av' HP.out HX.out,hown',hnew.out,hb2⟩
    case measure=>simp [intOf];omega
  ·obtain rfl:k=l.length:=by omega
   have hP:=HP.out
   rw [List.take_length] at hP
   go_wp2
   go_ret
   exact ⟨_,rfl,own_instrs hP hown hl.1 HQ.out,hb⟩
open Go.ChangeShapes Go.WideShapes Go.ChangeAt Go.RowKit
theorem copyFunc (x:FuncD) (pv cv:Value) (w:World) (h:RdFunc none w x pv cv) :
  Calls Tryz.prog 48 #[funcV x pv cv] w fun e w'=>∃ pv' cv',e=.returned (funcV x pv' cv')/\RdFunc (some (upFrom w.heap.size)) w' x pv' cv'/\Below w.heap.size w w':=by
 obtain ⟨h1,h2,hrest⟩:=h
 have H1:=Hd h1
 have H2:=Hd h2
 clear h1 h2
 go_enter Tryz.func48,Tryz.ntmps48
 go_wp2_with fail
 have hb0:Below w.heap.size w ((w.alloc (.cells #[.string x.name,pv,cv,.int .i64 x.line,.int .i64 x.col] 52)).alloc (.cells #[.string ⟨#[]⟩,.slice none 0 0,.slice none 0 0,.int .i64 0,.int .i64 0] 52)):=(((bR _ _).alloc (nR _) _).alloc (by simp) _)
 have g0:=heap_alloc2_old w (.cells #[.string x.name,pv,cv,.int .i64 x.line,.int .i64 x.col] 52) (.cells #[.string ⟨#[]⟩,.slice none 0 0,.slice none 0 0,.int .i64 0,.int .i64 0] 52)
 have g1:=heap_alloc2_new w (.cells #[.string x.name,pv,cv,.int .i64 x.line,.int .i64 x.col] 52) (.cells #[.string ⟨#[]⟩,.slice none 0 0,.slice none 0 0,.int .i64 0,.int .i64 0] 52)
 generalize ((w.alloc (.cells #[.string x.name,pv,cv,.int .i64 x.line,.int .i64 x.col] 52)).alloc (.cells #[.string ⟨#[]⟩,.slice none 0 0,.slice none 0 0,.int .i64 0,.int .i64 0] 52))=W0 at *
 have c1:=row_of g0 1 pv rfl
 have c2:=row_of g0 2 cv rfl
 have f1:=frozen_of_row W0 _ 1 _ _ g0
 have f2:=frozen_of_row W0 _ 2 _ _ g0
 have G0:=Hd g0
 have G1:=Hd g1
 clear g0 g1
 refine wp_region_plan (fun w'=>w'.cell? ⟨w.heap.size,1,none⟩=some pv/\w'.cell? ⟨w.heap.size,2,none⟩=some cv/\Below W0.heap.size W0 w') (fun j=>decide (7<=j)) [(0,true),(1,true),(3,true),(4,true),(2,false),(6,true),(5,false),(7,false),(8,false),(9,false)] (by kernel_rfl) (by kernel_rfl) rfl (by kernel_rfl) (fun _ d _ _ _ h=>by cases d <;> exact h) ?_
 have hS:W0.drew.cell? ⟨w.heap.size,1,none⟩=some pv/\W0.drew.cell? ⟨w.heap.size,2,none⟩=some cv/\Below W0.heap.size W0 W0.drew:=⟨c1,c2,(bR _ _).drew⟩
 refine ⟨.pointer (some ⟨w.heap.size,1,none⟩),_,rfl,.inl ⟨rfl,fun w' hw=>by go_simp⟩,hS,?_⟩
 refine ⟨pv,_,rfl,.inl ⟨rfl,fun w' hw=>by obtain ⟨e1,e2,_⟩:=hw;go_simp⟩,hS,?_⟩
 refine ⟨.pointer (some ⟨w.heap.size,2,none⟩),_,rfl,.inl ⟨rfl,fun w' hw=>by go_simp⟩,hS,?_⟩
 refine ⟨cv,_,rfl,.inl ⟨rfl,fun w' hw=>by obtain ⟨e1,e2,_⟩:=hw;go_simp⟩,hS,?_⟩
 refine plan_step rfl ?_
 go_wp2_with (go_at_call 17;refine (copyStrs _ x.params _ (H1.out.keep hb0.drew)).mono ?_;rintro e w1 ⟨v1,rfl,hr1,hb1⟩;obtain ⟨a1,k1,rfl,_⟩:=id hr1)
 have hb1':Below W0.heap.size W0 w1:=(bR _ _).drew.trans hb1
 have hS1:w1.cell? ⟨w.heap.size,1,none⟩=some pv/\w1.cell? ⟨w.heap.size,2,none⟩=some cv/\Below W0.heap.size W0 w1:=⟨cell_keep hb1' c1,cell_keep hb1' c2,hb1'⟩
 refine ⟨fun _=>hS1,?_⟩
 refine ⟨.pointer (some ⟨w.heap.size,1,none⟩),_,rfl,.inl ⟨rfl,fun w' hw=>by go_simp⟩,hS1,?_⟩
 refine plan_step rfl ?_
 go_wp2_with (go_at_call 21;refine (copyInstrs _ x.code _ (H2.out.keep (bcomp hb0 hb1'))).mono ?_;rintro e w2 ⟨v2,rfl,hr2,hb2⟩;obtain ⟨a2,k2,rfl,_⟩:=id hr2)
 have hb2':Below W0.heap.size W0 w2:=bcomp hb1' hb2
 have d1:=cell_keep hb2' c1
 have d2:=cell_keep hb2' c2
 have e1:=free_keep hb2' c1 f1
 have e2:=free_keep hb2' c2 f2
 have hS2:w2.cell? ⟨w.heap.size,1,none⟩=some pv/\w2.cell? ⟨w.heap.size,2,none⟩=some cv/\Below W0.heap.size W0 w2:=⟨d1,d2,hb2'⟩
 refine ⟨fun _=>hS2,?_⟩
 clear hS hS1 hS2
 have hlt:w.heap.size+1<W0.heap.size:=(aE G1.out).1
 have g0:=(hb2'.block _ (by omega)).trans G0.out
 have g1:=(hb2'.block _ hlt).trans G1.out
 have I0:=Hd (heap_setCell_same _ _ 2 _ _ (.slice a2 x.code.length k2) (heap_setCell_same _ _ 1 _ _ (.slice a1 x.params.length k1) g0))
 have I1:=Hd ((heap_setCell_other _ ⟨w.heap.size,2,none⟩ (w.heap.size+1) (.slice a2 x.code.length k2) (by simp)).trans ((heap_setCell_other w2 ⟨w.heap.size,1,none⟩ (w.heap.size+1) (.slice a1 x.params.length k1) (by simp)).trans g1))
 have J:=Hd (And.intro hr1 (And.intro hr2 (And.intro hb1 (And.intro hb2 (And.intro hb2' hlt)))))
 clear g0 g1 c1 c2 f1 f2 hr1 hr2 hb1 hb2 hb1' hb2' hlt
 refine plan_tail [7,8,9] [_,_,_] _ _ rfl rfl ?_
 go_wp2_with (first
  | (refine wpList_load_row rfl 52 (.tmp 1) rfl w.heap.size rfl 52 #[.string x.name,.slice a1 x.params.length k1,.slice a2 x.code.length k2,.int .i64 x.line,.int .i64 x.col] (0,0) _ ?h Tryz.underlying52 rfl ?s ?_;exact I0.out;kernel_rfl)
  | (refine wpList_store_row rfl 52 (.tmp 2) (.tmp 11) rfl (w.heap.size+1) #[.string x.name,.slice a1 x.params.length k1,.slice a2 x.code.length k2,.int .i64 x.line,.int .i64 x.col] rfl rfl 52 #[.string ⟨#[]⟩,.slice none 0 0,.slice none 0 0,.int .i64 0,.int .i64 0] ?h2 ?s2 ?s3 ?s4 ?_;exact I1.out;kernel_rfl;kernel_rfl;kernel_rfl))
 obtain ⟨hr1,hr2,hb1,hb2,hb2',hlt⟩:=J.out
 have hn:w.heap.size<=W0.heap.size:=hb0.size
 have hb1':Below W0.heap.size W0 w1:=(bR _ _).drew.trans hb1
 have hfr:∀ b,W0.heap.size<=b->(((w2.setCell ⟨w.heap.size,1,none⟩ (.slice a1 x.params.length k1)).setCell ⟨w.heap.size,2,none⟩ (.slice a2 x.code.length k2)).setRow (w.heap.size+1) #[.string x.name,.slice a1 x.params.length k1,.slice a2 x.code.length k2,.int .i64 x.line,.int .i64 x.col]).heap[b]?=w2.heap[b]?:=fun b hb=>by
  rw [setRow_other _ _ _ _ (by omega),heap_setCell_other _ _ _ _ (by simp;omega),heap_setCell_other _ _ _ _ (by simp;omega)]
 refine bodyPost_ret (v:=funcV x (.slice a1 x.params.length k1) (.slice a2 x.code.length k2)) ?_ rfl ⟨_,_,rfl,⟨?_,?_,hrest⟩,below_row ((((hb0.trans (hb2'.mono hn)).setCell (by simp) _).setCell (by simp) _)) (by simp) _⟩
 ·exact results_cell_row (P:=Tryz.prog) (fn:=Tryz.f48) rfl _ _ (w.heap.size+1) 52 _ (0,0) _ rfl (setRow_heap _ _ _ _ _ _ I1.out) Tryz.underlying52 rfl (by kernel_rfl)
 ·exact RdStrs.same (hr1.keep hb2) (fun b hb _=>hfr b hb) (fun b _ hb=>Nat.le_trans hn hb)
 ·exact RdInstrs.same hr2 (fun b hb _=>hfr b (Nat.le_trans hb1'.size hb)) (fun b _ hb=>Nat.le_trans hn (Nat.le_trans hb1'.size hb))
theorem infoFunc:(Tryz.prog.info? 52).map (fun i=>(i.zero,i.size,i.bytes))=some (some (.agg #[.string ⟨#[]⟩,.slice none 0 0,.slice none 0 0,.int .i64 0,.int .i64 0]),5,80):=by kernel_rfl
theorem copyFuncs (av:Value) (l:List FuncD) (w:World) (h:RdFuncs none w av l) :
  Calls Tryz.prog 20 #[av] w fun e w'=>∃ v,e=.returned v/\RdFuncs (some (upFrom w.heap.size)) w' v l/\Below w.heap.size w w':=by
 obtain ⟨a,c,rfl,hl,hr⟩:=h
 obtain ⟨i0,hi,hz0,hz1,hz2⟩:=info_parts infoFunc
 have HR:=Hd hr
 clear hr
 go_enter Tryz.func20,Tryz.ntmps20
 go_wp2
 go_loopw [3,4] (fun v i wr=>∃ (k:Nat) (P:List (FuncD × Value × Value)),k<=l.length/\i=.int .i64 k/\P.map Prod.fst=l.take k/\wr.ownsRow w.heap.size 52 5 v k (P.flatMap funCells)/\(∀ p ∈ P,RdFunc (some (upFrom w.heap.size)) wr p.1 p.2.1 p.2.2)/\Below w.heap.size w wr) (fun _ i _=>l.length - (intOf i).toNat)
 case atStart=>exact ⟨0,[],Nat.zero_le _,rfl,rfl,World.ownsRow_nil _ _ _ _,(fun p hp=>nomatch hp),bR _ _⟩
 case round=>
  obtain ⟨k,P,hk,rfl,hP,hown,hp,hb⟩:=hrel
  have HP:=Hd hP
  have HQ:=Hd hp
  clear hP hp
  by_cases hlt:k<l.length
  ·obtain ⟨x,hx⟩:∃ x,l[k]?=some x:=⟨_,lG hlt⟩
   obtain ⟨b,o,pv,cv,rfl,_,c0,c1,c2,c3,c4,hri⟩:=HR.out k x hx
   have d0:=cell_keepB hb c0 (block_lt_of_cell c0)
   have d1:=cell_keepB hb c1 (block_lt_of_cell c1)
   have d2:=cell_keepB hb c2 (block_lt_of_cell c2)
   have d3:=cell_keepB hb c3 (block_lt_of_cell c3)
   have d4:=cell_keepB hb c4 (block_lt_of_cell c4)
   have HRI:=Hd (hri.keep hb)
   have HX:=Hd hx
   have hsz:=hb.size
   clear c0 c1 c2 c3 c4 hx hri
   go_wp2_with (first
    | (go_at_call 48;refine (copyFunc x pv cv _ HRI.out).mono ?_;rintro e w1 ⟨pv',cv',rfl,hr1,hb1⟩;have hs1:=hb1.size;have hown1:=own_below hown hb1)
    | (at_builtin;refine wpList_append_own _ rfl (.tmp 11) (.tmp 17) 24 rfl w.heap.size 52 i0 (.agg #[.string ⟨#[]⟩,.slice none 0 0,.slice none 0 0,.int .i64 0,.int .i64 0]) 5 80 Tryz.underlying24 hi hz0 hz1 hz2 rfl (by decide) _ _ _ rfl (hown1.alloc _) ⟨w1.heap.size,0,none⟩ 1 1 (funCells (x,pv',cv')) rfl rfl (many_new _ _ _) ?c2 ?c3 ?c4 ?c5 ?_))
   case c2=>intro u hu;simp [funCells] at hu;have h1:=rdStrs_one hr1.1;have h2:=rdInstrs_one hr1.2.1;rcases hu with rfl|rfl|rfl|rfl|rfl <;> first|rfl|exact h1|exact h2
   case c3=>unfold maxLen;omega
   case c4=>omega
   case c5=>simp;omega
   ·intro v' w2 hown' hgrow _
    have hal:Below w1.heap.size w1 (w1.alloc (.cells (funCells (x,pv',cv')).toArray 52)):=(bR _ _).alloc (nR _) _
    have hown2:=hown1.alloc (.cells (funCells (x,pv',cv')).toArray 52)
    have hnew:Hid (∀ p ∈ P ++ [(x,pv',cv')],RdFunc (some (upFrom w.heap.size)) w2 p.1 p.2.1 p.2.2):=by
     intro p hp
     rcases List.mem_append.1 hp with h|h
     ·exact func_grown hown2 hgrow (((HQ.out p h).keep hb1).keep hal)
     ·rw [List.mem_singleton] at h;subst h
      exact func_grown hown2 hgrow ((hr1.keep hal).up hsz)
    have hb2:Below w.heap.size w w2:=(((hb.trans (hb1.mono hsz)).alloc (by omega) _).grown hgrow (by simp;omega) (own_row_le hown))
    rw [show P.flatMap funCells ++ funCells (x,pv',cv')=(P ++ [(x,pv',cv')]).flatMap funCells from by simp] at hown'
    clear hown hown1 hown2 hgrow hr1 hb1 hal hs1
    go_wp2
    go_roundw
    case rel=>exact ⟨k+1,P ++ [(x,pv',cv')],by omega,by go_num,map_take_snoc (pv',cv') HP.out HX.out,hown',hnew.out,hb2⟩
    case measure=>simp [intOf];omega
  ·obtain rfl:k=l.length:=by omega
   have hP:=HP.out
   rw [List.take_length] at hP
   go_wp2
   go_ret
   exact ⟨_,rfl,own_funcs hP hown hl.1 HQ.out,hb⟩
open Go.ChangeShapes Go.WideShapes Go.ChangeAt Go.RowKit
theorem copyProg (p:ProgD) (cv av fv mv:Value) (w:World) (h:RdProg none w p cv av fv mv) :
  Calls Tryz.prog 7 #[progV p cv av fv mv] w fun e w'=>∃ cv' av' fv' mv' m,e=.returned (progV p cv' av' fv' mv') /\
   RdStrs (some (within w.heap.size m)) w' cv' p.chans/\RdArrs (some (within w.heap.size m)) w' av' p.arrays/\RdFuncs (some (within w.heap.size m)) w' fv' p.funcs/\RdInstrs (some (upFrom m)) w' mv' p.main/\w.heap.size<=m/\Below w.heap.size w w':=by
 obtain ⟨h1,h2,h3,h4,hrest⟩:=h
 have H1:=Hd h1
 have H2:=Hd h2
 have H3:=Hd h3
 have H4:=Hd h4
 clear h1 h2 h3 h4 hrest
 go_enter Tryz.func7,Tryz.ntmps7
 go_wp2_with fail
 have hb0:Below w.heap.size w ((w.alloc (.cells #[.int .i64 p.width,cv,av,fv,mv] 27)).alloc (.cells #[.int .i64 0,.slice none 0 0,.slice none 0 0,.slice none 0 0,.slice none 0 0] 27)):=(((bR _ _).alloc (nR _) _).alloc (by simp) _)
 have g0:=heap_alloc2_old w (.cells #[.int .i64 p.width,cv,av,fv,mv] 27) (.cells #[.int .i64 0,.slice none 0 0,.slice none 0 0,.slice none 0 0,.slice none 0 0] 27)
 have g1:=heap_alloc2_new w (.cells #[.int .i64 p.width,cv,av,fv,mv] 27) (.cells #[.int .i64 0,.slice none 0 0,.slice none 0 0,.slice none 0 0,.slice none 0 0] 27)
 generalize ((w.alloc (.cells #[.int .i64 p.width,cv,av,fv,mv] 27)).alloc (.cells #[.int .i64 0,.slice none 0 0,.slice none 0 0,.slice none 0 0,.slice none 0 0] 27))=W0 at *
 have c1:=row_of g0 1 cv rfl
 have c2:=row_of g0 2 av rfl
 have c3:=row_of g0 3 fv rfl
 have c4:=row_of g0 4 mv rfl
 have f1:=frozen_of_row W0 _ 1 _ _ g0
 have f2:=frozen_of_row W0 _ 2 _ _ g0
 have f3:=frozen_of_row W0 _ 3 _ _ g0
 have f4:=frozen_of_row W0 _ 4 _ _ g0
 have G0:=Hd g0
 have G1:=Hd g1
 clear g0 g1
 refine wp_region_plan (fun w'=>w'.cell? ⟨w.heap.size,1,none⟩=some cv/\w'.cell? ⟨w.heap.size,2,none⟩=some av/\w'.cell? ⟨w.heap.size,3,none⟩=some fv/\w'.cell? ⟨w.heap.size,4,none⟩=some mv/\Below W0.heap.size W0 w') (fun j=>decide (13<=j)) [(0,true),(1,true),(3,true),(4,true),(6,true),(7,true),(9,true),(10,true),(2,false),(12,true),(5,false),(8,false),(11,false),(13,false),(14,false),(15,false),(16,false),(17,false),(18,false),(19,false)] (by kernel_rfl) (by kernel_rfl) rfl (by kernel_rfl) (fun _ d _ _ _ h=>by cases d <;> exact h) ?_
 have hS:W0.drew.cell? ⟨w.heap.size,1,none⟩=some cv/\W0.drew.cell? ⟨w.heap.size,2,none⟩=some av/\W0.drew.cell? ⟨w.heap.size,3,none⟩=some fv/\W0.drew.cell? ⟨w.heap.size,4,none⟩=some mv/\Below W0.heap.size W0 W0.drew:=⟨c1,c2,c3,c4,(bR _ _).drew⟩
 refine ⟨.pointer (some ⟨w.heap.size,1,none⟩),_,rfl,.inl ⟨rfl,fun w' hw=>by go_simp⟩,hS,?_⟩
 refine ⟨cv,_,rfl,.inl ⟨rfl,fun w' hw=>by obtain ⟨e1,e2,e3,e4,_⟩:=hw;go_simp⟩,hS,?_⟩
 refine ⟨.pointer (some ⟨w.heap.size,2,none⟩),_,rfl,.inl ⟨rfl,fun w' hw=>by go_simp⟩,hS,?_⟩
 refine ⟨av,_,rfl,.inl ⟨rfl,fun w' hw=>by obtain ⟨e1,e2,e3,e4,_⟩:=hw;go_simp⟩,hS,?_⟩
 refine ⟨.pointer (some ⟨w.heap.size,3,none⟩),_,rfl,.inl ⟨rfl,fun w' hw=>by go_simp⟩,hS,?_⟩
 refine ⟨fv,_,rfl,.inl ⟨rfl,fun w' hw=>by obtain ⟨e1,e2,e3,e4,_⟩:=hw;go_simp⟩,hS,?_⟩
 refine ⟨.pointer (some ⟨w.heap.size,4,none⟩),_,rfl,.inl ⟨rfl,fun w' hw=>by go_simp⟩,hS,?_⟩
 refine ⟨mv,_,rfl,.inl ⟨rfl,fun w' hw=>by obtain ⟨e1,e2,e3,e4,_⟩:=hw;go_simp⟩,hS,?_⟩
 refine plan_step rfl ?_
 go_wp2_with (go_at_call 17;refine (copyStrs _ p.chans _ (H1.out.keep hb0.drew)).mono ?_;rintro e w1 ⟨v1,rfl,hr1,hb1⟩;obtain ⟨a1,k1,rfl,_⟩:=id hr1)
 have hb1':Below W0.heap.size W0 w1:=(bR _ _).drew.trans hb1
 have hS1:w1.cell? ⟨w.heap.size,1,none⟩=some cv/\w1.cell? ⟨w.heap.size,2,none⟩=some av/\w1.cell? ⟨w.heap.size,3,none⟩=some fv/\w1.cell? ⟨w.heap.size,4,none⟩=some mv/\Below W0.heap.size W0 w1:=⟨cell_keep hb1' c1,cell_keep hb1' c2,cell_keep hb1' c3,cell_keep hb1' c4,hb1'⟩
 refine ⟨fun _=>hS1,?_⟩
 refine ⟨.pointer (some ⟨w.heap.size,1,none⟩),_,rfl,.inl ⟨rfl,fun w' hw=>by go_simp⟩,hS1,?_⟩
 refine plan_step rfl ?_
 go_wp2_with (go_at_call 18;refine (copyArrs _ p.arrays _ (H2.out.keep (bcomp hb0 hb1'))).mono ?_;rintro e w2 ⟨v2,rfl,hr2,hb2⟩;obtain ⟨a2,k2,rfl,_⟩:=id hr2)
 have hb2':Below W0.heap.size W0 w2:=bcomp hb1' hb2
 have hS2:w2.cell? ⟨w.heap.size,1,none⟩=some cv/\w2.cell? ⟨w.heap.size,2,none⟩=some av/\w2.cell? ⟨w.heap.size,3,none⟩=some fv/\w2.cell? ⟨w.heap.size,4,none⟩=some mv/\Below W0.heap.size W0 w2:=⟨cell_keep hb2' c1,cell_keep hb2' c2,cell_keep hb2' c3,cell_keep hb2' c4,hb2'⟩
 refine ⟨fun _=>hS2,?_⟩
 refine plan_step rfl ?_
 go_wp2_with (go_at_call 20;refine (copyFuncs _ p.funcs _ (H3.out.keep (bcomp hb0 hb2'))).mono ?_;rintro e w3 ⟨v3,rfl,hr3,hb3⟩;obtain ⟨a3,k3,rfl,_⟩:=id hr3)
 have hb3':Below W0.heap.size W0 w3:=bcomp hb2' hb3
 have hS3:w3.cell? ⟨w.heap.size,1,none⟩=some cv/\w3.cell? ⟨w.heap.size,2,none⟩=some av/\w3.cell? ⟨w.heap.size,3,none⟩=some fv/\w3.cell? ⟨w.heap.size,4,none⟩=some mv/\Below W0.heap.size W0 w3:=⟨cell_keep hb3' c1,cell_keep hb3' c2,cell_keep hb3' c3,cell_keep hb3' c4,hb3'⟩
 refine ⟨fun _=>hS3,?_⟩
 refine plan_step rfl ?_
 go_wp2_with (go_at_call 21;refine (copyInstrs _ p.main _ (H4.out.keep (bcomp hb0 hb3'))).mono ?_;rintro e w4 ⟨v4,rfl,hr4,hb4⟩;obtain ⟨a4,k4,rfl,_⟩:=id hr4)
 have hb4':Below W0.heap.size W0 w4:=bcomp hb3' hb4
 have hS4:w4.cell? ⟨w.heap.size,1,none⟩=some cv/\w4.cell? ⟨w.heap.size,2,none⟩=some av/\w4.cell? ⟨w.heap.size,3,none⟩=some fv/\w4.cell? ⟨w.heap.size,4,none⟩=some mv/\Below W0.heap.size W0 w4:=⟨cell_keep hb4' c1,cell_keep hb4' c2,cell_keep hb4' c3,cell_keep hb4' c4,hb4'⟩
 refine ⟨fun _=>hS4,?_⟩
 have hlt:w.heap.size+1<W0.heap.size:=(aE G1.out).1
 have d1:=cell_keep hb4' c1
 have d2:=cell_keep hb4' c2
 have d3:=cell_keep hb4' c3
 have d4:=cell_keep hb4' c4
 have e1:=free_keep hb4' c1 f1
 have e2:=free_keep hb4' c2 f2
 have e3:=free_keep hb4' c3 f3
 have e4:=free_keep hb4' c4 f4
 clear hS hS1 hS2 hS3 hS4
 have g0:=(hb4'.block _ (by omega)).trans G0.out
 have g1:=(hb4'.block _ hlt).trans G1.out
 have I0:=Hd (heap_setCell_same _ _ 4 _ _ (.slice a4 p.main.length k4) (heap_setCell_same _ _ 3 _ _ (.slice a3 p.funcs.length k3) (heap_setCell_same _ _ 2 _ _ (.slice a2 p.arrays.length k2) (heap_setCell_same _ _ 1 _ _ (.slice a1 p.chans.length k1) g0))))
 have I1:Hid (((((w4.setCell ⟨w.heap.size,1,none⟩ (.slice a1 p.chans.length k1)).setCell ⟨w.heap.size,2,none⟩ (.slice a2 p.arrays.length k2)).setCell ⟨w.heap.size,3,none⟩ (.slice a3 p.funcs.length k3)).setCell ⟨w.heap.size,4,none⟩ (.slice a4 p.main.length k4)).heap[w.heap.size+1]?=some (.cells #[.int .i64 0,.slice none 0 0,.slice none 0 0,.slice none 0 0,.slice none 0 0] 27 (0,0))):=by
  show _=_
  rw [heap_setCell_other _ _ _ _ (by simp),heap_setCell_other _ _ _ _ (by simp),heap_setCell_other _ _ _ _ (by simp),heap_setCell_other _ _ _ _ (by simp)]
  exact g1
 have J:=Hd (And.intro hr1 (And.intro hr2 (And.intro hr3 (And.intro hr4 (And.intro hb1 (And.intro hb2 (And.intro hb3 (And.intro hb4 (And.intro hb4' hlt)))))))))
 clear g0 g1 c1 c2 c3 c4 f1 f2 f3 f4 hr1 hr2 hr3 hr4 hb1 hb2 hb3 hb4 hb1' hb2' hb3' hb4' hlt
 refine plan_tail [13,14,15,16,17,18,19] [_,_,_,_,_,_,_] _ _ rfl rfl ?_
 go_wp2_with (first
  | (refine wpList_load_row rfl 27 (.tmp 1) rfl w.heap.size rfl 27 #[.int .i64 p.width,.slice a1 p.chans.length k1,.slice a2 p.arrays.length k2,.slice a3 p.funcs.length k3,.slice a4 p.main.length k4] (0,0) _ ?h Tryz.underlying27 rfl ?s ?_;exact I0.out;kernel_rfl)
  | (refine wpList_store_row rfl 27 (.tmp 2) (.tmp 19) rfl (w.heap.size+1) #[.int .i64 p.width,.slice a1 p.chans.length k1,.slice a2 p.arrays.length k2,.slice a3 p.funcs.length k3,.slice a4 p.main.length k4] rfl rfl 27 #[.int .i64 0,.slice none 0 0,.slice none 0 0,.slice none 0 0,.slice none 0 0] ?h2 ?s2 ?s3 ?s4 ?_;exact I1.out;kernel_rfl;kernel_rfl;kernel_rfl))
 obtain ⟨hr1,hr2,hr3,hr4,hb1,hb2,hb3,hb4,hb4',hlt⟩:=J.out
 have hn:w.heap.size<=W0.heap.size:=hb0.size
 have n1:W0.heap.size<=w1.heap.size:=hb1.size
 have n2:=hb2.size
 have n3:=hb3.size
 have n4:=hb4.size
 have hfr:∀ b,W0.heap.size<=b->(((((w4.setCell ⟨w.heap.size,1,none⟩ (.slice a1 p.chans.length k1)).setCell ⟨w.heap.size,2,none⟩ (.slice a2 p.arrays.length k2)).setCell ⟨w.heap.size,3,none⟩ (.slice a3 p.funcs.length k3)).setCell ⟨w.heap.size,4,none⟩ (.slice a4 p.main.length k4)).setRow (w.heap.size+1) #[.int .i64 p.width,.slice a1 p.chans.length k1,.slice a2 p.arrays.length k2,.slice a3 p.funcs.length k3,.slice a4 p.main.length k4]).heap[b]?=w4.heap[b]?:=fun b hb=>by
  rw [setRow_other _ _ _ _ (by omega),heap_setCell_other _ _ _ _ (by simp;omega),heap_setCell_other _ _ _ _ (by simp;omega),heap_setCell_other _ _ _ _ (by simp;omega),heap_setCell_other _ _ _ _ (by simp;omega)]
 refine bodyPost_ret (v:=progV p (.slice a1 p.chans.length k1) (.slice a2 p.arrays.length k2) (.slice a3 p.funcs.length k3) (.slice a4 p.main.length k4)) ?_ rfl ⟨_,_,_,_,w3.heap.size,rfl,?_,?_,?_,?_,by omega,below_row ((((((hb0.trans (hb4'.mono hn)).setCell (by simp) _).setCell (by simp) _).setCell (by simp) _).setCell (by simp) _)) (by simp) _⟩
 ·exact results_cell_row (P:=Tryz.prog) (fn:=Tryz.f7) rfl _ _ (w.heap.size+1) 27 _ (0,0) _ rfl (setRow_heap _ _ _ _ _ _ I1.out) Tryz.underlying27 rfl (by kernel_rfl)
 ·exact RdStrs.same (g:=within W0.heap.size w3.heap.size) ((RdStrs.same (g':=within W0.heap.size w3.heap.size) ((hr1.keep hb2).keep hb3) (fun _ _ _=>rfl) (fun b h1 h2=>⟨h2,h1⟩)).keep hb4) (fun b hb _=>hfr b hb.1) (fun b _ hb=>⟨Nat.le_trans hn hb.1,hb.2⟩)
 ·exact RdArrs.same (g:=within W0.heap.size w3.heap.size) ((RdArrs.same (g':=within W0.heap.size w3.heap.size) (hr2.keep hb3) (fun _ _ _=>rfl) (fun b h1 h2=>⟨Nat.le_trans n1 h2,h1⟩)).keep hb4) (fun b hb _=>hfr b hb.1) (fun b _ hb=>⟨Nat.le_trans hn hb.1,hb.2⟩)
 ·exact RdFuncs.same (g:=within W0.heap.size w3.heap.size) ((RdFuncs.same (g':=within W0.heap.size w3.heap.size) hr3 (fun _ _ _=>rfl) (fun b h1 h2=>⟨Nat.le_trans n1 (Nat.le_trans n2 h2),h1⟩)).keep hb4) (fun b hb _=>hfr b hb.1) (fun b _ hb=>⟨Nat.le_trans hn hb.1,hb.2⟩)
 ·exact RdInstrs.same hr4 (fun b hb _=>hfr b (by unfold upFrom at hb;omega)) (fun b _ hb=>hb)
open Go.ChangeShapes Go.WideShapes Go.ChangeAt Go.RowKit
def eqL {α:Type} (f:α->α->Bool):List α->List α->Bool
 | [],[]=>true
 | x :: r,y :: s=>f x y && eqL f r s
 | _,_=>false
theorem eqL_len {α:Type} (f:α->α->Bool):∀ (l m:List α),l.length ≠ m.length->eqL f l m=false
 | [],[],h=>absurd rfl h
 | [],_ :: _,_=>rfl
 | _ :: _,[],_=>rfl
 | x :: r,y :: s,h=>by rw [eqL,eqL_len f r s (by simpa using h),Bool.and_false]
theorem eqL_miss {α:Type} (f:α->α->Bool):∀ (l m:List α) (k:Nat) (x y:α),l[k]?=some x->m[k]?=some y->f x y=false->eqL f l m=false
 | [],_,k,x,y,h,_,_=>by simp at h
 | _ :: _,[],k,x,y,_,h,_=>by simp at h
 | a :: r,b :: s,0,x,y,h1,h2,h3=>by
  simp at h1 h2;subst h1;subst h2;rw [eqL,h3,Bool.false_and]
 | a :: r,b :: s,k+1,x,y,h1,h2,h3=>by rw [eqL,eqL_miss f r s k x y (by simpa using h1) (by simpa using h2) h3,Bool.and_false]
theorem eqL_all {α:Type} (f:α->α->Bool):∀ (l m:List α),l.length=m.length->(∀ (k:Nat) (x y:α),l[k]?=some x->m[k]?=some y->f x y=true)->eqL f l m=true
 | [],[],_,_=>rfl
 | [],_ :: _,h,_=>by simp at h
 | _ :: _,[],h,_=>by simp at h
 | a :: r,b :: s,h,g=>by
  rw [eqL,g 0 a b (by simp) (by simp),eqL_all f r s (by simpa using h) (fun (k:Nat) x y h1 h2=>g (k+1) x y (by simpa using h1) (by simpa using h2)),Bool.and_true]
def eqS (a b:ByteArray):Bool:=a.toList == b.toList
def eqArr (x y:ArrD):Bool:=x.name.toList == y.name.toList && x.size == y.size
def eqArg (x y:ArgD):Bool:=x.name.toList == y.name.toList && x.num == y.num
def eqInstr (x y:InstrD):Bool:=x.kind == y.kind && x.op == y.op && x.dst.toList == y.dst.toList && x.name.toList == y.name.toList && eqL eqArg x.args y.args && (x.line == y.line && x.col == y.col)
def eqFunc (x y:FuncD):Bool:=x.name.toList == y.name.toList && eqL eqS x.params y.params && eqL eqInstr x.code y.code && (x.line == y.line && x.col == y.col)
def eqProg (x y:ProgD):Bool:=x.width == y.width && eqL eqS x.chans y.chans && eqL eqArr x.arrays y.arrays && eqL eqFunc x.funcs y.funcs && eqL eqInstr x.main y.main
theorem eqArg_cases (x y:ArgD):(eqArg x y=true/\x.name.toList=y.name.toList/\x.num=y.num) \/ (eqArg x y=false/\x.name.toList=y.name.toList/\¬ x.num=y.num) \/ (eqArg x y=false/\¬ x.name.toList=y.name.toList/\True):=by
 unfold eqArg
 by_cases h1:x.name.toList=y.name.toList <;> by_cases h2:x.num=y.num <;> simp [h1,h2]
theorem eqArr_cases (x y:ArrD):(eqArr x y=true/\x.name.toList=y.name.toList/\x.size=y.size) \/ (eqArr x y=false/\x.name.toList=y.name.toList/\¬ x.size=y.size) \/ (eqArr x y=false/\¬ x.name.toList=y.name.toList/\True):=by
 unfold eqArr
 by_cases h1:x.name.toList=y.name.toList <;> by_cases h2:x.size=y.size <;> simp [h1,h2]
theorem eqS_cases (x y:ByteArray):(eqS x y=true/\(x.toList == y.toList)=true/\True) \/ (eqS x y=false/\(x.toList == y.toList)=false/\True) \/ (eqS x y=false/\(x.toList == y.toList)=false/\True):=by
 unfold eqS
 cases (x.toList == y.toList) <;> simp
theorem equalStrs (av bv:Value) (l m:List ByteArray) (w:World) (h:RdStrs none w av l) (g:RdStrs none w bv m) :
  Calls Tryz.prog 35 #[av,bv] w fun e w'=>e=.returned (.bool (eqL eqS l m))/\Below w.heap.size w w':=by
 obtain ⟨a,c,rfl,hl,hr⟩:=h
 obtain ⟨a2,c2,rfl,hl2,gr⟩:=g
 have HR:=Hd hr
 have GR:=Hd gr
 clear hr gr
 by_cases hlen:l.length=m.length
 ·have he:((l.length:Int) != (m.length:Int))=false:=by rw [hlen];simp
  have HL:=Hd hlen
  clear hlen
  go_enter Tryz.func35,Tryz.ntmps35
  go_wp2
  go_loopw [5] (fun i wr=>∃ k:Nat,k<=l.length/\i=.int .i64 k/\Hid (∀ (j:Nat) x y,j<k->l[j]?=some x->m[j]?=some y->eqS x y=true)/\Below w.heap.size w wr) (fun i _=>l.length - (intOf i).toNat)
  case atStart=>exact ⟨0,Nat.zero_le _,rfl,(fun j x y h=>by omega),bR _ _⟩
  case round=>
   obtain ⟨k,hk,rfl,hq,hb⟩:=hrel
   by_cases hlt:k<l.length
   ·have hlt2:k<m.length:=by rw [<- HL.out];exact hlt
    obtain ⟨x,hx⟩:∃ x,l[k]?=some x:=⟨_,lG hlt⟩
    obtain ⟨y,hy⟩:∃ y,m[k]?=some y:=⟨_,lG hlt2⟩
    obtain ⟨b,o,rfl,_,c0,_⟩:=HR.out k x hx
    obtain ⟨b2,o2,rfl,_,d0,_⟩:=GR.out k y hy
    have c0':=cell_keepB hb c0 (block_lt_of_cell c0)
    have d0':=cell_keepB hb d0 (block_lt_of_cell d0)
    have HX:=Hd (And.intro hx hy)
    have hi1:(k:Int)<(l.length:Int):=by omega
    have hi2:(k:Int)<(m.length:Int):=by omega
    clear c0 d0 hx hy
    rcases eqS_cases x y with ⟨hv,h1,h2⟩|⟨hv,h1,h2⟩|⟨hv,h1,h2⟩
    ·have HV:=Hd hv
     clear hv
     go_wp2_with fail
     go_quiet (fail)
     go_wp2
     go_roundw
     case rel=>
      refine ⟨k+1,by omega,by go_num,?_,below_drewN hb _⟩
      intro j x' y' hj g1 g2
      rcases Nat.lt_or_ge j k with h|h
      ·exact hq.out j x' y' h g1 g2
      ·obtain rfl:j=k:=by omega
       rw [HX.out.1] at g1;rw [HX.out.2] at g2
       cases g1;cases g2;exact HV.out
     case measure=>simp [intOf];omega
    all_goals
     have HV:=Hd hv
     clear hv
     go_wp2_with fail
     go_quiet (fail)
     go_wp2
     go_ret
     exact ⟨by rw [eqL_miss eqS l m k x y HX.out.1 HX.out.2 HV.out];rfl,below_drewN hb _⟩
   ·obtain rfl:k=l.length:=by omega
    go_wp2
    go_ret
    refine ⟨?_,hb⟩
    rw [eqL_all eqS l m HL.out (fun j x y g1 g2=>hq.out j x y (lE g1).1 g1 g2)];rfl
 ·have he:((l.length:Int) != (m.length:Int))=true:=by rw [bne_iff_ne];omega
  have HL:=Hd (eqL_len eqS l m hlen)
  clear hlen
  go_enter Tryz.func35,Tryz.ntmps35
  go_wp2
  go_ret
  exact ⟨by rw [HL.out];rfl,bR _ _⟩
theorem equalArgs (av bv:Value) (l m:List ArgD) (w:World) (h:RdArgs none w av l) (g:RdArgs none w bv m) :
  Calls Tryz.prog 100 #[av,bv] w fun e w'=>e=.returned (.bool (eqL eqArg l m))/\Below w.heap.size w w':=by
 obtain ⟨a,c,rfl,hl,hr⟩:=h
 obtain ⟨a2,c2,rfl,hl2,gr⟩:=g
 have HR:=Hd hr
 have GR:=Hd gr
 clear hr gr
 by_cases hlen:l.length=m.length
 ·have he:((l.length:Int) != (m.length:Int))=false:=by rw [hlen];simp
  have HL:=Hd hlen
  clear hlen
  go_enter Tryz.func100,Tryz.ntmps100
  go_wp2
  go_loopw [5] (fun i wr=>∃ k:Nat,k<=l.length/\i=.int .i64 k/\Hid (∀ (j:Nat) x y,j<k->l[j]?=some x->m[j]?=some y->eqArg x y=true)/\Below w.heap.size w wr) (fun i _=>l.length - (intOf i).toNat)
  case atStart=>exact ⟨0,Nat.zero_le _,rfl,(fun j x y h=>by omega),bR _ _⟩
  case round=>
   obtain ⟨k,hk,rfl,hq,hb⟩:=hrel
   by_cases hlt:k<l.length
   ·have hlt2:k<m.length:=by rw [<- HL.out];exact hlt
    obtain ⟨x,hx⟩:∃ x,l[k]?=some x:=⟨_,lG hlt⟩
    obtain ⟨y,hy⟩:∃ y,m[k]?=some y:=⟨_,lG hlt2⟩
    obtain ⟨b,o,rfl,_,c0,c1,_⟩:=HR.out k x hx
    obtain ⟨b2,o2,rfl,_,d0,d1,_⟩:=GR.out k y hy
    have c0':=cell_keepB hb c0 (block_lt_of_cell c0)
    have d0':=cell_keepB hb d0 (block_lt_of_cell d0)
    have c1':=cell_keepB hb c1 (block_lt_of_cell c1)
    have d1':=cell_keepB hb d1 (block_lt_of_cell d1)
    have HX:=Hd (And.intro hx hy)
    have hi1:(k:Int)<(l.length:Int):=by omega
    have hi2:(k:Int)<(m.length:Int):=by omega
    clear c0 d0 c1 d1 hx hy
    rcases eqArg_cases x y with ⟨hv,h1,h2⟩|⟨hv,h1,h2⟩|⟨hv,h1,h2⟩
    ·have HV:=Hd hv
     clear hv
     go_wp2_with fail
     go_quiet (fail)
     go_wp2
     go_roundw
     case rel=>
      refine ⟨k+1,by omega,by go_num,?_,below_drewN hb _⟩
      intro j x' y' hj g1 g2
      rcases Nat.lt_or_ge j k with h|h
      ·exact hq.out j x' y' h g1 g2
      ·obtain rfl:j=k:=by omega
       rw [HX.out.1] at g1;rw [HX.out.2] at g2
       cases g1;cases g2;exact HV.out
     case measure=>simp [intOf];omega
    all_goals
     have HV:=Hd hv
     clear hv
     go_wp2_with fail
     go_quiet (fail)
     go_wp2
     go_ret
     exact ⟨by rw [eqL_miss eqArg l m k x y HX.out.1 HX.out.2 HV.out];rfl,below_drewN hb _⟩
   ·obtain rfl:k=l.length:=by omega
    go_wp2
    go_ret
    refine ⟨?_,hb⟩
    rw [eqL_all eqArg l m HL.out (fun j x y g1 g2=>hq.out j x y (lE g1).1 g1 g2)];rfl
 ·have he:((l.length:Int) != (m.length:Int))=true:=by rw [bne_iff_ne];omega
  have HL:=Hd (eqL_len eqArg l m hlen)
  clear hlen
  go_enter Tryz.func100,Tryz.ntmps100
  go_wp2
  go_ret
  exact ⟨by rw [HL.out];rfl,bR _ _⟩
theorem equalArrs (av bv:Value) (l m:List ArrD) (w:World) (h:RdArrs none w av l) (g:RdArrs none w bv m) :
  Calls Tryz.prog 36 #[av,bv] w fun e w'=>e=.returned (.bool (eqL eqArr l m))/\Below w.heap.size w w':=by
 obtain ⟨a,c,rfl,hl,hr⟩:=h
 obtain ⟨a2,c2,rfl,hl2,gr⟩:=g
 have HR:=Hd hr
 have GR:=Hd gr
 clear hr gr
 by_cases hlen:l.length=m.length
 ·have he:((l.length:Int) != (m.length:Int))=false:=by rw [hlen];simp
  have HL:=Hd hlen
  clear hlen
  go_enter Tryz.func36,Tryz.ntmps36
  go_wp2
  go_loopw [5] (fun i wr=>∃ k:Nat,k<=l.length/\i=.int .i64 k/\Hid (∀ (j:Nat) x y,j<k->l[j]?=some x->m[j]?=some y->eqArr x y=true)/\Below w.heap.size w wr) (fun i _=>l.length - (intOf i).toNat)
  case atStart=>exact ⟨0,Nat.zero_le _,rfl,(fun j x y h=>by omega),bR _ _⟩
  case round=>
   obtain ⟨k,hk,rfl,hq,hb⟩:=hrel
   by_cases hlt:k<l.length
   ·have hlt2:k<m.length:=by rw [<- HL.out];exact hlt
    obtain ⟨x,hx⟩:∃ x,l[k]?=some x:=⟨_,lG hlt⟩
    obtain ⟨y,hy⟩:∃ y,m[k]?=some y:=⟨_,lG hlt2⟩
    obtain ⟨b,o,rfl,_,c0,c1,_⟩:=HR.out k x hx
    obtain ⟨b2,o2,rfl,_,d0,d1,_⟩:=GR.out k y hy
    have c0':=cell_keepB hb c0 (block_lt_of_cell c0)
    have d0':=cell_keepB hb d0 (block_lt_of_cell d0)
    have c1':=cell_keepB hb c1 (block_lt_of_cell c1)
    have d1':=cell_keepB hb d1 (block_lt_of_cell d1)
    have HX:=Hd (And.intro hx hy)
    have hi1:(k:Int)<(l.length:Int):=by omega
    have hi2:(k:Int)<(m.length:Int):=by omega
    clear c0 d0 c1 d1 hx hy
    rcases eqArr_cases x y with ⟨hv,h1,h2⟩|⟨hv,h1,h2⟩|⟨hv,h1,h2⟩
    ·have HV:=Hd hv
     clear hv
     go_wp2_with fail
     go_quiet (fail)
     go_wp2
     go_roundw
     case rel=>
      refine ⟨k+1,by omega,by go_num,?_,below_drewN hb _⟩
      intro j x' y' hj g1 g2
      rcases Nat.lt_or_ge j k with h|h
      ·exact hq.out j x' y' h g1 g2
      ·obtain rfl:j=k:=by omega
       rw [HX.out.1] at g1;rw [HX.out.2] at g2
       cases g1;cases g2;exact HV.out
     case measure=>simp [intOf];omega
    all_goals
     have HV:=Hd hv
     clear hv
     go_wp2_with fail
     go_quiet (fail)
     go_wp2
     go_ret
     exact ⟨by rw [eqL_miss eqArr l m k x y HX.out.1 HX.out.2 HV.out];rfl,below_drewN hb _⟩
   ·obtain rfl:k=l.length:=by omega
    go_wp2
    go_ret
    refine ⟨?_,hb⟩
    rw [eqL_all eqArr l m HL.out (fun j x y g1 g2=>hq.out j x y (lE g1).1 g1 g2)];rfl
 ·have he:((l.length:Int) != (m.length:Int))=true:=by rw [bne_iff_ne];omega
  have HL:=Hd (eqL_len eqArr l m hlen)
  clear hlen
  go_enter Tryz.func36,Tryz.ntmps36
  go_wp2
  go_ret
  exact ⟨by rw [HL.out];rfl,bR _ _⟩
end Go.Proofs.YtgllkgedjplpdaaGreatDoor
