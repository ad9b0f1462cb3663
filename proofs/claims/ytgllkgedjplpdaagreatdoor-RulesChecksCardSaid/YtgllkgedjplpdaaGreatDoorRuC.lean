/- The walk of rules.Check: it says of a program and a policy what the plain function rulesC says. Condition: what comes in reads as the plain data; the tables hold what they are laid with. -/
import Derived.Test.YtgllkgedjplpdaaGreatDoorRuA
import Derived.Test.YtgllkgedjplpdaaGreatDoorLoc
import Derived.Test.YtgllkgedjplpdaaGreatDoorPu2
set_option linter.all false
set_option maxRecDepth 1000000
set_option maxHeartbeats 12800000
set_option linter.unusedVariables false
set_option linter.unusedSimpArgs false
namespace Go.Proofs.YtgllkgedjplpdaaGreatDoor
open Go.ChangeShapes Go.WideShapes Go.ChangeAt Go.RowKit
def allI (p:ProgD):List InstrD:=codesOf p.funcs ++ p.main
def rwB (s:ByteArray) (x:InstrD):Bool:=(x.kind == 5 || x.kind == 6) && (x.name.toList == s.toList)
def relB (q:PolD) (x:InstrD):Bool:=x.kind == 7 && (levelOf q.sites x.name).isNone
def noChan (q:PolD) (s:ByteArray):Bool:=(levelOf q.chans s).isNone
def atI (o:Option InstrD):Int × Int:=match o with
 | some x=>(x.line,x.col)
 | none=>(0,0)
def fitF (p:ProgD) (q:PolD):(Int × Int) × Int:=
 if polErr q ≠ 0 then ((0,0),polErr q) else
  match p.chans.find? (noChan q) with
  | some c=>(atI ((allI p).find? (rwB c)),6)
  | none=>match (allI p).find? (relB q) with
   | some x=>(atI (some x),6)
   | none=>((0,0),0)
noncomputable def rulesC (p:ProgD) (q:PolD):(Int × Int) × Int:=
 match checkF p with
 | some F=>((F.line,F.col),F.e)
 | none=>fitF p q
def idxF {α:Type} (f:α->Bool):List α->Int->Int
 | [],_=>-1
 | x :: r,k=>if f x then k else idxF f r (k+1)
theorem idxF_step {α:Type} (f:α->Bool) (x:α) (l:List α) (k:Nat) (h:l[k]?=some x):idxF f (l.drop k) k=if f x then (k:Int) else idxF f (l.drop (k+1)) ((k+1:Nat):Int):=by
 have hk:=lE h
 rw [List.drop_eq_getElem_cons hk.1,hk.2,idxF]
 rfl
theorem idxF_case {α:Type} (f:α->Bool):∀ (l:List α) (k:Nat),(idxF f l k=-1/\l.find? f=none) \/ ∃ (i:Nat) (x:α),idxF f l k=((k+i:Nat):Int)/\l[i]?=some x/\l.find? f=some x
 | [],k=>.inl ⟨rfl,rfl⟩
 | x :: r,k=>by
  rw [idxF,List.find?_cons]
  cases hf:f x with
  | true=>exact .inr ⟨0,x,by simp,rfl,rfl⟩
  | false=>
   simp only [Bool.false_eq_true,if_false]
   rcases idxF_case f r (k+1) with ⟨h1,h2⟩|⟨i,y,h1,h2,h3⟩
   ·exact .inl ⟨by rw [<- h1];simp,h2⟩
   ·exact .inr ⟨i+1,y,by rw [show ((k+(i+1):Nat):Int)=((k+1+i:Nat):Int) from by omega,<- h1];simp,by simpa using h2,h3⟩
theorem find_stepF {α:Type} (f:α->Bool) (l:List α) (k:Nat) (x:α) (h:l[k]?=some x) (hn:(l.take k).find? f=none):(f x=true->l.find? f=some x)/\(f x=false->(l.take (k+1)).find? f=none):=by
 have hk:=lE h
 have e1:l.take (k+1)=l.take k ++ [x]:=by rw [List.take_add_one,h];rfl
 refine ⟨fun hx=>?_,fun hx=>?_⟩
 ·have e2:l=l.take (k+1) ++ l.drop (k+1):=(List.take_append_drop _ _).symm
  rw [e2,e1,List.find?_append,List.find?_append,hn]
  simp [hx]
 ·rw [e1,List.find?_append,hn]
  simp [hx]
theorem rwIs (x:InstrD) (av:Value) (s:ByteArray) (c:Nat) (w:World) (hc:w.cell? ⟨c,0,none⟩=some (.string s)) :
  Calls Tryz.prog 29 #[.agg #[.int .u8 x.kind,.int .u8 x.op,.string x.dst,.string x.name,av,.int .i64 x.line,.int .i64 x.col],.pointer (some ⟨c,0,none⟩)] w fun e w'=>e=.returned (.bool (rwB s x))/\Below w.heap.size w w':=by
 have HB:=Hd ((bR w.heap.size w).alloc (nR _) (.cells #[.int .u8 x.kind,.int .u8 x.op,.string x.dst,.string x.name,av,.int .i64 x.line,.int .i64 x.col] 50))
 have HC:=Hd (heap_alloc_new w (.cells #[.int .u8 x.kind,.int .u8 x.op,.string x.dst,.string x.name,av,.int .i64 x.line,.int .i64 x.col] 50))
 have HS:=Hd hc
 clear hc
 obtain ⟨b5,h5⟩:∃ b,(x.kind == 5)=b:=⟨_,rfl⟩
 obtain ⟨b6,h6⟩:∃ b,(x.kind == 6)=b:=⟨_,rfl⟩
 obtain ⟨bs,hs⟩:∃ b,(x.name.toList == s.toList)=b:=⟨_,rfl⟩
 have HV:Hid (rwB s x=((b5 || b6) && bs)):=by show rwB s x=_;unfold rwB;rw [h5,h6,hs]
 go_enter Tryz.func29,Tryz.ntmps29
 go_upto_region 1 with fail
 generalize w.alloc (.cells #[.int .u8 x.kind,.int .u8 x.op,.string x.dst,.string x.name,av,.int .i64 x.line,.int .i64 x.col] 50)=W at *
 have c0:=row_of HC.out 0 (.int .u8 x.kind) rfl
 have c3:=row_of HC.out 3 (.string x.name) rfl
 have c1:=cell_keep HB.out HS.out
 cases b5 <;> cases b6 <;> cases bs <;>
 (go_wp2_with fail
  go_ret
  exact ⟨by rw [HV.out];rfl,HB.out⟩)
theorem atInstr {lo:Option (Nat->Prop)} {w:World} {a:Option Addr} {n c:Nat} {l:List InstrD} (h:RdInstrs lo w (.slice a n c) l) {i:Nat} {x:InstrD} (hx:l[i]?=some x) :
  ∃ b o av,a=some ⟨b,o,none⟩/\Free lo 50 w b/\w.cell? ⟨b,o+i * 7,none⟩=some (.int .u8 x.kind)/\w.cell? ⟨b,o+i * 7+1,none⟩=some (.int .u8 x.op)/\w.cell? ⟨b,o+i * 7+2,none⟩=some (.string x.dst)/\w.cell? ⟨b,o+i * 7+3,none⟩=some (.string x.name)/\w.cell? ⟨b,o+i * 7+4,none⟩=some av/\w.cell? ⟨b,o+i * 7+5,none⟩=some (.int .i64 x.line)/\w.cell? ⟨b,o+i * 7+6,none⟩=some (.int .i64 x.col)/\RdInstr lo w x av:=by
 obtain ⟨a',c',e,_,hr⟩:=h
 simp only [Value.slice.injEq] at e
 obtain ⟨rfl,_,_⟩:=e
 exact hr i x hx
theorem rwIndex (v:Value) (l:List InstrD) (s:ByteArray) (c:Nat) (w:World) (h:RdInstrs none w v l) (hc:w.cell? ⟨c,0,none⟩=some (.string s)) :
  Calls Tryz.prog 58 #[v,.func (.func 29) #[] #[.pointer (some ⟨c,0,none⟩)]] w fun e w'=>e=.returned (.int .i64 (idxF (rwB s) l 0))/\Below w.heap.size w w':=by
 obtain ⟨a,cp,rfl,⟨hl,_⟩,_⟩:=id h
 have HR:=Hd h
 have HS:=Hd hc
 clear h hc
 go_enter Tryz.func58,Tryz.ntmps58
 go_wp2
 go_loopw [5,8] (fun _ i wr=>∃ k:Nat,k<=l.length/\i=.int .i64 k/\Hid (idxF (rwB s) l 0=idxF (rwB s) (l.drop k) k)/\Below w.heap.size w wr) (fun _ i _=>l.length - (intOf i).toNat)
 case atStart=>exact ⟨0,Nat.zero_le _,rfl,rfl,bR _ _⟩
 case round=>
  obtain ⟨k,hk,rfl,HQ,hb⟩:=hrel
  obtain ⟨w1,rfl⟩:∃ x:World,x=wr:=⟨_,rfl⟩
  have HB:=Hd hb
  clear hb
  by_cases hlt:k<l.length
  ·have hlt1:(k:Int)<l.length:=by omega
   obtain ⟨x,hx⟩:∃ x,l[k]?=some x:=⟨_,lG hlt⟩
   obtain ⟨b,o,av,rfl,_,c0,c1,c2,c3,c4,c5,c6,hri⟩:=atInstr (HR.out.keep HB.out) hx
   obtain ⟨aa,ca,rfl,_⟩:=id hri.1
   have hs:=idxF_step (rwB s) x l k hx
   have HI:=Hd (rwIs x (.slice aa x.args.length ca) s c w1 (cell_keep HB.out HS.out))
   clear hx hri
   cases he:rwB s x
   ·rw [he,if_neg (by simp)] at hs
    rw [he] at HI
    have HN:=Hd (HQ.out.trans hs)
    clear hs he
    go_wp2_with (go_at_call 29;refine HI.out.mono ?_;rintro e w' ⟨rfl,hz⟩;have B1:=Hd (bcomp HB.out hz);clear hz)
    go_roundw
    case rel=>exact ⟨k+1,by omega,by go_num,HN,B1.out⟩
    case measure=>simp [intOf];omega
   ·rw [he,if_pos rfl] at hs
    rw [he] at HI
    have HN:=Hd (HQ.out.trans hs)
    clear hs he
    go_wp2_with (go_at_call 29;refine HI.out.mono ?_;rintro e w' ⟨rfl,hz⟩;have B1:=Hd (bcomp HB.out hz);clear hz)
    go_ret
    exact ⟨by rw [HN.out];rfl,B1.out⟩
  ·obtain rfl:k=l.length:=by omega
   have hlt1:¬ (l.length:Int)<l.length:=by omega
   go_wp2
   go_ret
   exact ⟨by rw [HQ.out,List.drop_length];rfl,HB.out⟩
def zeroI:InstrD:=⟨0,0,⟨#[]⟩,⟨#[]⟩,[],0,0⟩
theorem rwFind (v:Value) (l:List InstrD) (s:ByteArray) (c:Nat) (w:World) (h:RdInstrs none w v l) (hc:w.cell? ⟨c,0,none⟩=some (.string s)) :
  Calls Tryz.prog 28 #[v,.func (.func 29) #[] #[.pointer (some ⟨c,0,none⟩)]] w fun e w'=>∃ (x:InstrD) (a:Option Addr) (n k:Nat),e=.returned (.tuple #[.agg #[.int .u8 x.kind,.int .u8 x.op,.string x.dst,.string x.name,.slice a n k,.int .i64 x.line,.int .i64 x.col],.bool (l.find? (rwB s)).isSome])/\Hid ((x.line,x.col)=atI (l.find? (rwB s)))/\Below w.heap.size w w':=by
 obtain ⟨a,cp,rfl,⟨hl,_⟩,_⟩:=id h
 have HR:=Hd h
 have HB0:=Hd ((bR w.heap.size w).alloc (nR _) (.cells #[.int .u8 0,.int .u8 0,.string ⟨#[]⟩,.string ⟨#[]⟩,.slice none 0 0,.int .i64 0,.int .i64 0] 50))
 have HC0:=Hd (heap_alloc_new w (.cells #[.int .u8 0,.int .u8 0,.string ⟨#[]⟩,.string ⟨#[]⟩,.slice none 0 0,.int .i64 0,.int .i64 0] 50))
 have HI:=Hd (fun (w':World) (hb:Below w.heap.size w w')=>rwIndex _ l s c w' (h.keep hb) (cell_keep hb hc))
 have hcase:=idxF_case (rwB s) l 0
 simp only [Nat.zero_add] at hcase
 clear h hc
 have hz0:((0:Nat):Int)=0:=rfl
 rw [hz0] at hcase
 generalize idxF (rwB s) l 0=z at *
 obtain ⟨V,hV⟩:∃ V,l.find? (rwB s)=V:=⟨_,rfl⟩
 rw [hV]
 rw [hV] at hcase
 clear hV hz0
 go_enter Tryz.func28,Tryz.ntmps28
 go_upto_region 1 with fail
 generalize w.alloc (.cells #[.int .u8 0,.int .u8 0,.string ⟨#[]⟩,.string ⟨#[]⟩,.slice none 0 0,.int .i64 0,.int .i64 0] 50)=W at *
 have hsz:=(aE HC0.out).1
 go_upto_region 2 with (go_at_call 58;refine (HI.out _ HB0.out).mono ?_;rintro e z1 ⟨rfl,hz⟩;have B1:=Hd hz;clear hz)
 have HC1:Hid (z1.heap[w.heap.size]?=some (.cells #[.int .u8 0,.int .u8 0,.string ⟨#[]⟩,.string ⟨#[]⟩,.slice none 0 0,.int .i64 0,.int .i64 0] 50 (0,0))):=(B1.out.block _ hsz).trans HC0.out
 have HB1:=Hd (bcomp HB0.out B1.out)
 clear HI HC0
 rcases hcase with ⟨rfl,rfl⟩|⟨i,x,rfl,hi,rfl⟩
 ·have c0:=row_of HC1.out 0 (.int .u8 0) rfl
  have c1:=row_of HC1.out 1 (.int .u8 0) rfl
  have c2:=row_of HC1.out 2 (.string ⟨#[]⟩) rfl
  have c3:=row_of HC1.out 3 (.string ⟨#[]⟩) rfl
  have c4:=row_of HC1.out 4 (.slice none 0 0) rfl
  have c5:=row_of HC1.out 5 (.int .i64 0) rfl
  have c6:=row_of HC1.out 6 (.int .i64 0) rfl
  go_wp2_with (refine wpList_store_row rfl 50 (.tmp 4) (.tmp 12) rfl w.heap.size #[.int .u8 0,.int .u8 0,.string ⟨#[]⟩,.string ⟨#[]⟩,.slice none 0 0,.int .i64 0,.int .i64 0] rfl rfl 50 #[.int .u8 0,.int .u8 0,.string ⟨#[]⟩,.string ⟨#[]⟩,.slice none 0 0,.int .i64 0,.int .i64 0] ?h1 (by as_aux_lemma=>kernel_rfl) (by as_aux_lemma=>kernel_rfl) (by as_aux_lemma=>kernel_rfl) ?_;exact HC1.out)
  refine bodyPost_ret (v:=.tuple #[.agg #[.int .u8 0,.int .u8 0,.string ⟨#[]⟩,.string ⟨#[]⟩,.slice none 0 0,.int .i64 0,.int .i64 0],.bool false]) ?_ rfl (by first|exact ⟨zeroI,none,0,0,rfl,rfl,below_row HB1.out (nR _) _⟩|exact ⟨zeroI,⟨none,0,0,rfl⟩,rfl,below_row HB1.out (nR _) _⟩)
  exact results_cell_two (P:=Tryz.prog) (fn:=Tryz.f28) rfl _ _ w.heap.size 50 #[.int .u8 0,.int .u8 0,.string ⟨#[]⟩,.string ⟨#[]⟩,.slice none 0 0,.int .i64 0,.int .i64 0] (0,0) _ rfl (setRow_heap _ _ _ _ _ _ HC1.out) Tryz.underlying50 rfl (by as_aux_lemma=>kernel_rfl)
 ·obtain ⟨b,o,av,rfl,_,c0,c1,c2,c3,c4,c5,c6,hri⟩:=atInstr (HR.out.keep HB1.out) hi
  obtain ⟨aa,ca,rfl,_⟩:=id hri.1
  have hil:i<l.length:=(lE hi).1
  clear hi hri
  have hi0:¬ ((i:Int)<0):=by omega
  go_wp2_with (refine wpList_store_row rfl 50 (.tmp 4) (.tmp 16) rfl w.heap.size #[.int .u8 x.kind,.int .u8 x.op,.string x.dst,.string x.name,.slice aa x.args.length ca,.int .i64 x.line,.int .i64 x.col] rfl rfl 50 #[.int .u8 0,.int .u8 0,.string ⟨#[]⟩,.string ⟨#[]⟩,.slice none 0 0,.int .i64 0,.int .i64 0] ?h2 (by as_aux_lemma=>kernel_rfl) (by as_aux_lemma=>kernel_rfl) (by as_aux_lemma=>kernel_rfl) ?_;exact HC1.out)
  refine bodyPost_ret (v:=.tuple #[.agg #[.int .u8 x.kind,.int .u8 x.op,.string x.dst,.string x.name,.slice aa x.args.length ca,.int .i64 x.line,.int .i64 x.col],.bool true]) ?_ rfl (by first|exact ⟨x,aa,x.args.length,ca,rfl,rfl,below_row HB1.out (nR _) _⟩|exact ⟨x,⟨aa,x.args.length,ca,rfl⟩,rfl,below_row HB1.out (nR _) _⟩)
  exact results_cell_two (P:=Tryz.prog) (fn:=Tryz.f28) rfl _ _ w.heap.size 50 #[.int .u8 x.kind,.int .u8 x.op,.string x.dst,.string x.name,.slice aa x.args.length ca,.int .i64 x.line,.int .i64 x.col] (0,0) _ rfl (setRow_heap _ _ _ _ _ _ HC1.out) Tryz.underlying50 rfl (by as_aux_lemma=>kernel_rfl)
theorem instrs_cells {lo:Option (Nat->Prop)} {w:World} {ad:Addr} {n c:Nat} {l:List InstrD} (h:RdInstrs lo w (.slice (some ad) n c) l) :
  ∃ P:List (InstrD × Value),P.map Prod.fst=l/\(∀ j u,(P.flatMap insCells)[j]?=some u->w.cell? (ad.add j)=some u)/\∀ q ∈ P,RdInstr lo w q.1 q.2:=by
 have hex:∀ i,∃ av:Value,∀ s,l[i]?=some s->∃ b o,some ad=some (⟨b,o,none⟩:Addr)/\w.cell? ⟨b,o+i * 7,none⟩=some (.int .u8 s.kind)/\w.cell? ⟨b,o+i * 7+1,none⟩=some (.int .u8 s.op)/\w.cell? ⟨b,o+i * 7+2,none⟩=some (.string s.dst)/\w.cell? ⟨b,o+i * 7+3,none⟩=some (.string s.name)/\w.cell? ⟨b,o+i * 7+4,none⟩=some av/\w.cell? ⟨b,o+i * 7+5,none⟩=some (.int .i64 s.line)/\w.cell? ⟨b,o+i * 7+6,none⟩=some (.int .i64 s.col)/\RdInstr lo w s av:=by
  intro i
  cases hi:l[i]? with
  | none=>exact ⟨undef,fun s hs=>by cases hs⟩
  | some x=>
   obtain ⟨b,o,av,e,_,hq⟩:=atInstr h hi
   exact ⟨av,fun s hs=>by cases hs;exact ⟨b,o,e,hq⟩⟩
 obtain ⟨f,hf⟩:=Classical.axiomOfChoice hex
 refine ⟨l.zipIdx.map fun q=>(q.1,f q.2),?_,?_,?_⟩
 ·rw [List.map_map]
  exact List.zipIdx_map_fst 0 l
 ·intro j u hj
  have hlen:((l.zipIdx.map fun q=>(q.1,f q.2)).flatMap insCells).length=l.length * 7:=by rw [flat_length insCells 7 (fun _=>rfl),List.length_map,List.length_zipIdx]
  have hjl:j<l.length * 7:=by rw [<- hlen];exact (lE hj).1
  have hi:j / 7<l.length:=Nat.div_lt_of_lt_mul (by rw [Nat.mul_comm];exact hjl)
  have hr:j % 7<7:=Nat.mod_lt _ (by omega)
  have hjj:j / 7 * 7+j % 7=j:=Nat.div_add_mod' j 7
  have hP:(l.zipIdx.map fun q=>(q.1,f q.2))[j / 7]?=some (l[j / 7],f (j / 7)):=by
   rw [List.getElem?_map,List.getElem?_zipIdx,lG hi];simp
  have hx:=flat_get insCells 7 (fun _=>rfl) _ (j / 7) (j % 7) _ hP hr
  rw [hjj,hj] at hx
  obtain ⟨b,o,e,c0,c1,c2,c3,c4,c5,c6,_⟩:=hf (j / 7) _ (lG hi)
  simp only [Option.some.injEq] at e
  subst e
  have e2:(⟨b,o,none⟩:Addr).add j=⟨b,o+j / 7 * 7+j % 7,none⟩:=by
   rw [Nat.add_assoc,hjj]
   unfold Addr.add
   split
   ·rename_i h;subst h;rfl
   ·rfl
  rw [e2]
  generalize j % 7=r at *
  match r,hr,hx with
  | 0,_,hx=>simp [insCells] at hx;subst hx;exact c0
  | 1,_,hx=>simp [insCells] at hx;subst hx;exact c1
  | 2,_,hx=>simp [insCells] at hx;subst hx;exact c2
  | 3,_,hx=>simp [insCells] at hx;subst hx;exact c3
  | 4,_,hx=>simp [insCells] at hx;subst hx;exact c4
  | 5,_,hx=>simp [insCells] at hx;subst hx;exact c5
  | 6,_,hx=>simp [insCells] at hx;subst hx;exact c6
 ·intro q hq
  obtain ⟨⟨s,i⟩,hz,rfl⟩:=List.mem_map.1 hq
  have:=List.mem_zipIdx_iff_getElem?.1 hz
  obtain ⟨_,_,_,_,_,_,_,_,_,_,h9⟩:=hf i s this
  exact h9
end Go.Proofs.YtgllkgedjplpdaaGreatDoor
