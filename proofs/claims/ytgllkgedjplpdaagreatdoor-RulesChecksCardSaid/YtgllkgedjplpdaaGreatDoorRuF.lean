/- The chapter's examples of rules: law29.awake returns true. Condition: the tables hold what they are laid with. -/
import Derived.Test.YtgllkgedjplpdaaGreatDoorRuE
import Derived.Test.YtgllkgedjplpdaaGreatDoorFlG
set_option linter.all false
set_option maxRecDepth 1000000
set_option maxHeartbeats 12800000
set_option linter.unusedVariables false
set_option linter.unusedSimpArgs false
namespace Go.Proofs.YtgllkgedjplpdaaGreatDoor
open Go.ChangeShapes Go.WideShapes Go.ChangeAt Go.RowKit
abbrev extra29:ByteArray:=⟨#[101,120,116,114,97]⟩
abbrev sX29:ByteArray:=⟨#[120]⟩
abbrev sS29:ByteArray:=⟨#[115]⟩
def relI:InstrD:=⟨7,0,sX29,sS29,[⟨s029,1⟩],13,1⟩
def moreP:ProgD:=⟨2,[pub29,sec29,extra29],[],[],e1I⟩
def siteP:ProgD:=⟨2,[pub29,sec29],[],[],e1I ++ [relI]⟩
def lessQ:PolD:=⟨[low29,high29],[(0,1)],[⟨pub29,0⟩],[],true,20,16,0,0⟩
def zeroP29:ProgD:=⟨0,[],[],[],[]⟩
def zeroQ:PolD:=⟨[],[],[],[],false,0,0,0,0⟩
theorem loops_nil:loopsF []=none:=rfl
theorem check_e1:checkF e1P=none:=by
 unfold checkF
 rw [show loopsF e1P.funcs=none from loops_nil]
 kernel_rfl
theorem check_moreP:checkF moreP=none:=by
 unfold checkF
 rw [show loopsF moreP.funcs=none from loops_nil]
 kernel_rfl
theorem check_siteP:checkF siteP=none:=by
 unfold checkF
 rw [show loopsF siteP.funcs=none from loops_nil]
 kernel_rfl
theorem check_zero29:checkF zeroP29=some ⟨0,0,3⟩:=rfl
theorem rules_e1:rulesC e1P p1P=((0,0),0):=by unfold rulesC;rw [check_e1];kernel_rfl
theorem rules_less:rulesC e1P lessQ=((5,1),6):=by unfold rulesC;rw [check_e1];kernel_rfl
theorem rules_more:rulesC moreP p1P=((0,0),6):=by unfold rulesC;rw [check_moreP];kernel_rfl
theorem rules_zq:rulesC e1P zeroQ=((0,0),4):=by unfold rulesC;rw [check_e1];kernel_rfl
theorem rules_zp:rulesC zeroP29 p1P=((0,0),3):=by unfold rulesC;rw [check_zero29]
theorem rules_site:rulesC siteP p1P=((13,1),6):=by unfold rulesC;rw [check_siteP];kernel_rfl
theorem flat_e1:flatOf e1P=(flatI e1P,0):=by
 rw [flatOf_good check_e1]
 have h:¬ 4096<(codeI25 e1P).length:=by
  have e:(codeI25 e1P).length=7:=by kernel_rfl
  omega
 rw [if_neg h]
theorem levs_e1:rulesErr (flatI e1P) p1P=0/\chansL (flatI e1P) p1P=[0,1]/\sitesL (flatI e1P) p1P=[]:=⟨by kernel_rfl,by kernel_rfl,by kernel_rfl⟩
theorem rdPol_zero (w:World):RdPol none w zeroQ (.slice none 0 0) (.slice none 0 0) (.slice none 0 0) (.slice none 0 0):=
 ⟨nilRow _ _ _,nilRow _ _ _,nilRow _ _ _,nilRow _ _ _,i64_0,i64_0,i64_0,i64_0⟩
theorem rdProg_zero (w:World):RdProg none w zeroP29 (.slice none 0 0) (.slice none 0 0) (.slice none 0 0) (.slice none 0 0):=
 ⟨⟨none,0,rfl,⟨by decide,by decide⟩,fun i x h=>by cases h⟩,⟨none,0,rfl,⟨by decide,by decide⟩,fun i x h=>by cases h⟩,⟨none,0,rfl,⟨by decide,by decide⟩,fun i x h=>by cases h⟩,⟨none,0,rfl,⟨by decide,by decide⟩,fun i x h=>by cases h⟩,i64_0⟩
theorem rel_ok:InU8 relI.kind/\InU8 relI.op/\InI64 relI.line/\InI64 relI.col/\relI.dst.size<=maxLen/\relI.name.size<=maxLen:=⟨⟨by decide,by decide⟩,⟨by decide,by decide⟩,⟨by decide,by decide⟩,⟨by decide,by decide⟩,by decide,by decide⟩
theorem chans_e1:∀ s ∈ e1P.chans,s.size<=maxLen:=by
 intro s hs;simp only [e1P,List.mem_cons,List.not_mem_nil,or_false] at hs;rcases hs with rfl|rfl <;> decide
theorem chans_more:∀ s ∈ moreP.chans,s.size<=maxLen:=by
 intro s hs;simp only [moreP,List.mem_cons,List.not_mem_nil,or_false] at hs;rcases hs with rfl|rfl|rfl <;> decide
theorem rd_e1 {base:Nat} {w:World} {cv mv:Value} (h:OwnP base w e1P cv mv):RdProg none w e1P cv (.slice none 0 0) (.slice none 0 0) mv:=h.rd chans_e1 ⟨rfl,rfl⟩ ⟨by decide,by decide⟩ ⟨by decide,by decide⟩
theorem own_ne_own29 {w:World} {base base':Nat} {e e':TypeId} {size size':Nat} {v v':Value} {n n':Nat} {xs xs':List Value} (h:w.ownsRow base e size v n xs) (h':w.ownsRow base' e' size' v' n' xs') (he:e ≠ e') {k:Nat} (hk:v.ownBlock=some k):v'.ownBlock ≠ some k:=by
 obtain ⟨_,cur,hb⟩:=own_is h hk
 exact own_ne_cells h' hb he
theorem OwnP.apart {base:Nat} {w w':World} {p:ProgD} {cv mv:Value} {S:Nat->Prop} (h:OwnP base w p cv mv) (k:Turned S w w') (hs:∀ b,S b->b<base):OwnP base w' p cv mv:=by
 obtain ⟨P,h1,_,h3,_⟩:=id h
 exact h.turn k (fun b hb e=>by have:=(own_is h1 hb).1;have:=hs b e;omega) (fun b hb e=>by have:=(own_is h3 hb).1;have:=hs b e;omega) (fun b _ hb _ e=>by have:=hs b e;omega)
theorem pol_less {w:World} {a b c:Nat} (h:RdPol none w p1P (.slice (some ⟨a,0,none⟩) 2 2) (.slice (some ⟨b,0,none⟩) 1 1) (.slice (some ⟨c,0,none⟩) 2 2) (.slice none 0 0)):RdPol none w lessQ (.slice (some ⟨a,0,none⟩) 2 2) (.slice (some ⟨b,0,none⟩) 1 1) (.slice (some ⟨c,0,none⟩) 1 2) (.slice none 0 0):=
 ⟨h.1,h.2.1,RdRow.take h.2.2.1 1 (by decide),h.2.2.2.1,h.2.2.2.2⟩
theorem awake29_any (w:World) (hL:Laid w) (hM:LaidM w) (hT:BitsAt w) :
  Calls Tryz.prog 13 #[] w fun e w'=>e=.returned (.bool true)/\Below w.heap.size w w':=by
 have HL:=Hd hL
 have HM:=Hd hM
 have HT:=Hd hT
 clear hL hM hT
 go_enter Tryz.func13,Tryz.ntmps13
 go_upto_region 2 with (first
  | (go_at_call 14;refine (e1_make _).mono ?_;rintro e z1 ⟨ec,em,rfl,hp,hz⟩;have HP:=Hd hp;have B1:=Hd hz;clear hp hz)
  | (go_at_call 15;refine (p1_make _).mono ?_;rintro e z2 ⟨qa,qb,qc,rfl,hq,hz⟩;have HQ:=Hd hq;have B2:=Hd hz;have HN:=Hd (heap2_of (w:=z2) (A:=.cells #[.int .i64 0,.slice none 0 0,.slice none 0 0,.slice none 0 0,.slice none 0 0] 27) (B:=.cells #[.slice none 0 0,.slice none 0 0,.slice none 0 0,.slice none 0 0,.bool false,.int .i64 0,.int .i64 0,.int .i64 0,.int .i64 0] 31) (bR _ _));clear hq hz)
  | (refine wpList_store_row rfl 27 (.tmp 1) (.tmp 11) rfl z2.heap.size #[.int .i64 2,.slice (some ⟨ec,0,none⟩) 2 2,.slice none 0 0,.slice none 0 0,.slice (some ⟨em,0,none⟩) 7 7] rfl rfl 27 #[.int .i64 0,.slice none 0 0,.slice none 0 0,.slice none 0 0,.slice none 0 0] ?hs1 (by as_aux_lemma=>kernel_rfl) (by as_aux_lemma=>kernel_rfl) (by as_aux_lemma=>kernel_rfl) ?_;exact HN.out.1)
  | (refine wpList_store_row rfl 31 (.tmp 2) (.tmp 12) rfl (z2.heap.size+1) #[.slice (some ⟨qa,0,none⟩) 2 2,.slice (some ⟨qb,0,none⟩) 1 1,.slice (some ⟨qc,0,none⟩) 2 2,.slice none 0 0,.bool true,.int .i64 20,.int .i64 16,.int .i64 0,.int .i64 0] rfl rfl 31 #[.slice none 0 0,.slice none 0 0,.slice none 0 0,.slice none 0 0,.bool false,.int .i64 0,.int .i64 0,.int .i64 0,.int .i64 0] ?hs2 (by as_aux_lemma=>kernel_rfl) (by as_aux_lemma=>kernel_rfl) (by as_aux_lemma=>kernel_rfl) ?_;exact (setRow_other _ _ _ _ (by omega)).trans HN.out.2.1))
 try simp only [Act.put]
 have HY1:Hid (((((z2.alloc (.cells #[.int .i64 0,.slice none 0 0,.slice none 0 0,.slice none 0 0,.slice none 0 0] 27)).alloc (.cells #[.slice none 0 0,.slice none 0 0,.slice none 0 0,.slice none 0 0,.bool false,.int .i64 0,.int .i64 0,.int .i64 0,.int .i64 0] 31)).setRow z2.heap.size #[.int .i64 2,.slice (some ⟨ec,0,none⟩) 2 2,.slice none 0 0,.slice none 0 0,.slice (some ⟨em,0,none⟩) 7 7]).setRow (z2.heap.size+1) #[.slice (some ⟨qa,0,none⟩) 2 2,.slice (some ⟨qb,0,none⟩) 1 1,.slice (some ⟨qc,0,none⟩) 2 2,.slice none 0 0,.bool true,.int .i64 20,.int .i64 16,.int .i64 0,.int .i64 0]).heap[z2.heap.size]?=some (.cells #[.int .i64 2,.slice (some ⟨ec,0,none⟩) 2 2,.slice none 0 0,.slice none 0 0,.slice (some ⟨em,0,none⟩) 7 7] 27 (0,0))):=(setRow_other _ _ _ _ (by omega)).trans (setRow_heap _ _ _ _ _ _ HN.out.1)
 have HY2:Hid (((((z2.alloc (.cells #[.int .i64 0,.slice none 0 0,.slice none 0 0,.slice none 0 0,.slice none 0 0] 27)).alloc (.cells #[.slice none 0 0,.slice none 0 0,.slice none 0 0,.slice none 0 0,.bool false,.int .i64 0,.int .i64 0,.int .i64 0,.int .i64 0] 31)).setRow z2.heap.size #[.int .i64 2,.slice (some ⟨ec,0,none⟩) 2 2,.slice none 0 0,.slice none 0 0,.slice (some ⟨em,0,none⟩) 7 7]).setRow (z2.heap.size+1) #[.slice (some ⟨qa,0,none⟩) 2 2,.slice (some ⟨qb,0,none⟩) 1 1,.slice (some ⟨qc,0,none⟩) 2 2,.slice none 0 0,.bool true,.int .i64 20,.int .i64 16,.int .i64 0,.int .i64 0]).heap[z2.heap.size+1]?=some (.cells #[.slice (some ⟨qa,0,none⟩) 2 2,.slice (some ⟨qb,0,none⟩) 1 1,.slice (some ⟨qc,0,none⟩) 2 2,.slice none 0 0,.bool true,.int .i64 20,.int .i64 16,.int .i64 0,.int .i64 0] 31 (0,0))):=setRow_heap _ _ _ _ _ _ ((setRow_other _ _ _ _ (by omega)).trans HN.out.2.1)
 have HBW:Hid (Below z2.heap.size z2 ((((z2.alloc (.cells #[.int .i64 0,.slice none 0 0,.slice none 0 0,.slice none 0 0,.slice none 0 0] 27)).alloc (.cells #[.slice none 0 0,.slice none 0 0,.slice none 0 0,.slice none 0 0,.bool false,.int .i64 0,.int .i64 0,.int .i64 0,.int .i64 0] 31)).setRow z2.heap.size #[.int .i64 2,.slice (some ⟨ec,0,none⟩) 2 2,.slice none 0 0,.slice none 0 0,.slice (some ⟨em,0,none⟩) 7 7]).setRow (z2.heap.size+1) #[.slice (some ⟨qa,0,none⟩) 2 2,.slice (some ⟨qb,0,none⟩) 1 1,.slice (some ⟨qc,0,none⟩) 2 2,.slice none 0 0,.bool true,.int .i64 20,.int .i64 16,.int .i64 0,.int .i64 0])):=below_row (below_row HN.out.2.2 (nR _) _) (by omega) _
 have HB2:=Hd (bcomp (bcomp B1.out B2.out) HBW.out)
 have HP2:=Hd ((HP.out.keep B2.out).keep HBW.out)
 have HQ2:=Hd (HQ.out.keep HBW.out)
 clear HP HQ HN HBW B2 B1
 generalize (((z2.alloc (.cells #[.int .i64 0,.slice none 0 0,.slice none 0 0,.slice none 0 0,.slice none 0 0] 27)).alloc (.cells #[.slice none 0 0,.slice none 0 0,.slice none 0 0,.slice none 0 0,.bool false,.int .i64 0,.int .i64 0,.int .i64 0,.int .i64 0] 31)).setRow z2.heap.size #[.int .i64 2,.slice (some ⟨ec,0,none⟩) 2 2,.slice none 0 0,.slice none 0 0,.slice (some ⟨em,0,none⟩) 7 7]).setRow (z2.heap.size+1) #[.slice (some ⟨qa,0,none⟩) 2 2,.slice (some ⟨qb,0,none⟩) 1 1,.slice (some ⟨qc,0,none⟩) 2 2,.slice none 0 0,.bool true,.int .i64 20,.int .i64 16,.int .i64 0,.int .i64 0]=W2 at *
 obtain ⟨b1,hb1⟩:∃ b,z2.heap.size=b:=⟨_,rfl⟩
 rw [hb1] at HY1 HY2
 rw [hb1]
 clear hb1
 have HL2:=Hd (HL.out.keep HB2.out)
 have HM2:=Hd (HM.out.keep HB2.out)
 have HT2:=Hd (HT.out.keep HB2.out)
  -- flat.Of
 have hof:=flatOf_any e1P _ _ _ _ W2 (rd_e1 HP2.out) HL2.out
 rw [flat_e1] at hof
 obtain ⟨F,hF⟩:∃ F,flatI e1P=F:=⟨_,rfl⟩
 have HLV:=levs_e1
 rw [hF] at hof HLV
 have hFw:F.width=2:=by rw [<- hF];rfl
 obtain ⟨rg,hrg⟩:∃ r,F.regs=r:=⟨_,rfl⟩
 have HOF:Hid (Calls Tryz.prog 41 #[.agg #[.int .i64 2,.slice (some ⟨ec,0,none⟩) 2 2,.slice none 0 0,.slice none 0 0,.slice (some ⟨em,0,none⟩) 7 7]] W2 fun e w'=>∃ d1 k1 d2 k2 d3 k3 d4 k4,e=.returned (.tuple #[.agg #[.int .i64 2,.int .i64 rg,.slice d1 F.chans.length k1,.slice d2 F.sites.length k2,.slice d3 F.arrays.length k3,.slice d4 F.code.length k4],.int .i64 0])/\RdFlat none w' F (.slice d1 F.chans.length k1) (.slice d2 F.sites.length k2) (.slice d3 F.arrays.length k3) (.slice d4 F.code.length k4)/\Below W2.heap.size W2 w'):=by
  refine hof.mono ?_
  rintro e w' ⟨c,s,a,k,rfl,hrd,hz⟩
  obtain ⟨d1,k1,rfl⟩:=hrd.1.is
  obtain ⟨d2,k2,rfl⟩:=hrd.2.1.is
  obtain ⟨d3,k3,rfl⟩:=hrd.2.2.1.is
  obtain ⟨d4,k4,rfl⟩:=hrd.2.2.2.1.is
  exact ⟨d1,k1,d2,k2,d3,k3,d4,k4,by show _=Ending.returned (.tuple #[.agg #[.int .i64 2,.int .i64 rg,_,_,_,_],_]);first|(rw [<- hFw,<- hrg];done)|(rw [<- hFw,<- hrg];rfl),hrd.forget,hz⟩
 have HFW:=Hd hFw
 have HRG:=Hd hrg
 have HLS:=Hd HLV
 clear hof HLV hFw hrg hF HL HM HT
 have c0:=row_of HY1.out 0 (.int .i64 2) rfl
 have c1:=row_of HY1.out 1 (.slice (some ⟨ec,0,none⟩) 2 2) rfl
 have c2:=row_of HY1.out 2 (.slice none 0 0) rfl
 have c3:=row_of HY1.out 3 (.slice none 0 0) rfl
 have c4:=row_of HY1.out 4 (.slice (some ⟨em,0,none⟩) 7 7) rfl
 go_upto_region 3 with (first
  | (go_at_call 41;refine HOF.out.mono ?_;rintro e z3 ⟨d1,k1,d2,k2,d3,k3,d4,k4,rfl,hrd,hz⟩;have HRD:=Hd hrd;have BZ:=Hd hz;have HN:=Hd (heap_alloc_new z3 (.cells #[.int .i64 0,.int .i64 0,.slice none 0 0,.slice none 0 0,.slice none 0 0,.slice none 0 0] 62));clear hrd hz)
  | (refine wpList_store_row rfl 62 (.tmp 3) (.tmp 16) rfl z3.heap.size #[.int .i64 2,.int .i64 rg,.slice d1 F.chans.length k1,.slice d2 F.sites.length k2,.slice d3 F.arrays.length k3,.slice d4 F.code.length k4] rfl rfl 62 #[.int .i64 0,.int .i64 0,.slice none 0 0,.slice none 0 0,.slice none 0 0,.slice none 0 0] ?hs3 (by as_aux_lemma=>kernel_rfl) (by as_aux_lemma=>kernel_rfl) (by as_aux_lemma=>kernel_rfl) ?_;exact HN.out))
 try simp only [Act.put]
 have hal:Below z3.heap.size z3 ((z3.alloc (.cells #[.int .i64 0,.int .i64 0,.slice none 0 0,.slice none 0 0,.slice none 0 0,.slice none 0 0] 62)).setRow z3.heap.size #[.int .i64 2,.int .i64 rg,.slice d1 F.chans.length k1,.slice d2 F.sites.length k2,.slice d3 F.arrays.length k3,.slice d4 F.code.length k4]):=below_row ((bR _ _).alloc (nR _) _) (nR _) _
 have HF3:Hid (_=_):=setRow_heap (z3.alloc (.cells #[.int .i64 0,.int .i64 0,.slice none 0 0,.slice none 0 0,.slice none 0 0,.slice none 0 0] 62)) z3.heap.size _ #[.int .i64 2,.int .i64 rg,.slice d1 F.chans.length k1,.slice d2 F.sites.length k2,.slice d3 F.arrays.length k3,.slice d4 F.code.length k4] _ _ HN.out
 have HB3:=Hd (bcomp BZ.out hal)
 have HR3:=Hd (HRD.out.keep hal)
 clear c0 c1 c2 c3 c4 HOF HN hal BZ HRD
 generalize (z3.alloc (.cells #[.int .i64 0,.int .i64 0,.slice none 0 0,.slice none 0 0,.slice none 0 0,.slice none 0 0] 62)).setRow z3.heap.size #[.int .i64 2,.int .i64 rg,.slice d1 F.chans.length k1,.slice d2 F.sites.length k2,.slice d3 F.arrays.length k3,.slice d4 F.code.length k4]=W3 at *
 obtain ⟨fb,hfb⟩:∃ fb,z3.heap.size=fb:=⟨_,rfl⟩
 rw [hfb] at HF3
 rw [hfb]
 clear hfb
 have HX1:=Hd ((HB3.out.block _ (aE HY1.out).1).trans HY1.out)
 have HX2:=Hd ((HB3.out.block _ (aE HY2.out).1).trans HY2.out)
 have HP3:=Hd (HP2.out.keep HB3.out)
 have HQ3:=Hd (HQ2.out.keep HB3.out)
 have HL3:=Hd (HL2.out.keep HB3.out)
 have HM3:=Hd (HM2.out.keep HB3.out)
 have HT3:=Hd (HT2.out.keep HB3.out)
 have HB03:=Hd (bcomp HB2.out HB3.out)
 clear HY1 HY2 HP2 HQ2 HL2 HM2 HT2 HB2 HB3
  -- rules.Levels
 have hlev:=rulesLevels F _ _ _ _ p1P _ _ _ _ W3 HR3.out HQ3.out HM3.out HT3.out
 rw [HLS.out.1] at hlev
 have HLEV:Hid (Calls Tryz.prog 42 #[.agg #[.int .i64 2,.int .i64 rg,.slice d1 F.chans.length k1,.slice d2 F.sites.length k2,.slice d3 F.arrays.length k3,.slice d4 F.code.length k4],.agg #[.slice (some ⟨qa,0,none⟩) 2 2,.slice (some ⟨qb,0,none⟩) 1 1,.slice (some ⟨qc,0,none⟩) 2 2,.slice none 0 0,.bool true,.int .i64 20,.int .i64 16,.int .i64 0,.int .i64 0]] W3 fun e w'=>∃ v1 v2,e=.returned (.tuple #[v1,v2,.int .i64 0])/\LevSaid 0 F p1P W3.heap.size w' v1 v2/\Below W3.heap.size W3 w'):=by
  have e:(flatV F (.slice d1 F.chans.length k1) (.slice d2 F.sites.length k2) (.slice d3 F.arrays.length k3) (.slice d4 F.code.length k4))=.agg #[.int .i64 2,.int .i64 rg,.slice d1 F.chans.length k1,.slice d2 F.sites.length k2,.slice d3 F.arrays.length k3,.slice d4 F.code.length k4]:=by rw [<- HFW.out,<- HRG.out]
  rw [<- e]
  exact hlev
 clear hlev
 have f0:=row_of HF3.out 0 (.int .i64 2) rfl
 have f1:=row_of HF3.out 1 (.int .i64 rg) rfl
 have f2:=row_of HF3.out 2 (.slice d1 F.chans.length k1) rfl
 have f3:=row_of HF3.out 3 (.slice d2 F.sites.length k2) rfl
 have f4:=row_of HF3.out 4 (.slice d3 F.arrays.length k3) rfl
 have f5:=row_of HF3.out 5 (.slice d4 F.code.length k4) rfl
 have q0:=row_of HX2.out 0 (.slice (some ⟨qa,0,none⟩) 2 2) rfl
 have q1:=row_of HX2.out 1 (.slice (some ⟨qb,0,none⟩) 1 1) rfl
 have q2:=row_of HX2.out 2 (.slice (some ⟨qc,0,none⟩) 2 2) rfl
 have q3:=row_of HX2.out 3 (.slice none 0 0) rfl
 have q4:=row_of HX2.out 4 (.bool true) rfl
 have q5:=row_of HX2.out 5 (.int .i64 20) rfl
 have q6:=row_of HX2.out 6 (.int .i64 16) rfl
 have q7:=row_of HX2.out 7 (.int .i64 0) rfl
 have q8:=row_of HX2.out 8 (.int .i64 0) rfl
 go_upto_region 4 with (go_at_call 42;refine HLEV.out.mono ?_;rintro e W4 ⟨v1,v2,rfl,hlv,hz⟩;have HLV4:=Hd (hlv.1 rfl);have B4:=Hd hz;clear hlv hz)
 clear f0 f1 f2 f3 f4 f5 q0 q1 q2 q3 q4 q5 q6 q7 q8 HLEV HF3
 have hv1:=HLV4.out.1
 have hv2:=HLV4.out.2
 rw [HLS.out.2.1] at hv1
 rw [HLS.out.2.2] at hv2
 obtain ⟨x1,y1,e1⟩:=hv1.is
 obtain ⟨x2,y2,e2⟩:=hv2.is
 have e1':v1=.slice x1 2 y1:=e1
 have e2':v2=.slice x2 0 y2:=e2
 subst e1' e2'
 have HV1:=Hd hv1
 clear hv1 hv2 HLV4 e1 e2
 have HX14:=Hd ((B4.out.block _ (aE HX1.out).1).trans HX1.out)
 have HX24:=Hd ((B4.out.block _ (aE HX2.out).1).trans HX2.out)
 have HP4:=Hd (HP3.out.keep B4.out)
 have HQ4:=Hd (HQ3.out.keep B4.out)
 have HL4:=Hd (HL3.out.keep B4.out)
 have HT4:=Hd (HT3.out.keep B4.out)
 have HB4:=Hd (bcomp HB03.out B4.out)
 clear HX1 HX2 HP3 HQ3 HL3 HM3 HT3 HB03 B4 HR3 HLS HFW HRG
  -- region 4
 have HAL:Hid (Below W4.heap.size W4 (W4.alloc (.cells #[.int .i64 0,.int .i64 1] 3))):=(bR _ _).alloc (nR _) _
 have HEQ:Hid (Calls Tryz.prog 43 #[.slice x1 2 y1,.slice (some ⟨W4.heap.size,0,none⟩) 2 2] (W4.alloc (.cells #[.int .i64 0,.int .i64 1] 3)) fun e w'=>e=.returned (.bool true)/\Below (W4.alloc (.cells #[.int .i64 0,.int .i64 1] 3)).heap.size (W4.alloc (.cells #[.int .i64 0,.int .i64 1] 3)) w'):=by
  have h1:=equalInt _ _ [0,1] [0,1] (W4.alloc (.cells #[.int .i64 0,.int .i64 1] 3)) ((HV1.out.forget).keep HAL.out) (row_wholeR kInt (l:=[0,1]) (heap_alloc_new W4 (.cells #[.int .i64 0,.int .i64 1] 3)) (by decide) (by decide) (by intro n hn;simp only [List.mem_cons,List.not_mem_nil,or_false] at hn;rcases hn with rfl|rfl <;> exact ⟨by decide,by decide⟩))
  have h2:eqL eqInt [0,1] [0,1]=true:=by decide
  rw [h2] at h1
  exact h1
 have HIS:Hid (∀ z,Below W4.heap.size W4 z->Calls Tryz.prog 44 #[.agg #[.int .i64 2,.slice (some ⟨ec,0,none⟩) 2 2,.slice none 0 0,.slice none 0 0,.slice (some ⟨em,0,none⟩) 7 7],.agg #[.slice (some ⟨qa,0,none⟩) 2 2,.slice (some ⟨qb,0,none⟩) 1 1,.slice (some ⟨qc,0,none⟩) 2 2,.slice none 0 0,.bool true,.int .i64 20,.int .i64 16,.int .i64 0,.int .i64 0],.int .i64 0,.int .i64 0,.int .i64 0] z fun e w'=>e=.returned (.bool true)/\Below z.heap.size z w'):=fun z hz=>is29 e1P _ _ _ _ p1P _ _ _ _ 0 0 0 z (rd_e1 (HP4.out.keep hz)) (HQ4.out.keep hz) (HL4.out.keep hz) (HT4.out.keep hz) rules_e1
 clear HV1
 go_upto_region 6 with (first
  | (go_at_call 43;refine HEQ.out.mono ?_;rintro e z5 ⟨rfl,hz⟩;have B5:=Hd (bcomp HAL.out hz);have HXa:=Hd ((B5.out.block _ (aE HX14.out).1).trans HX14.out);have HXb:=Hd ((B5.out.block _ (aE HX24.out).1).trans HX24.out);have pp0:=row_of HXa.out 0 (.int .i64 2) rfl;have pp1:=row_of HXa.out 1 (.slice (some ⟨ec,0,none⟩) 2 2) rfl;have pp2:=row_of HXa.out 2 (.slice none 0 0) rfl;have pp3:=row_of HXa.out 3 (.slice none 0 0) rfl;have pp4:=row_of HXa.out 4 (.slice (some ⟨em,0,none⟩) 7 7) rfl;have qq0:=row_of HXb.out 0 (.slice (some ⟨qa,0,none⟩) 2 2) rfl;have qq1:=row_of HXb.out 1 (.slice (some ⟨qb,0,none⟩) 1 1) rfl;have qq2:=row_of HXb.out 2 (.slice (some ⟨qc,0,none⟩) 2 2) rfl;have qq3:=row_of HXb.out 3 (.slice none 0 0) rfl;have qq4:=row_of HXb.out 4 (.bool true) rfl;have qq5:=row_of HXb.out 5 (.int .i64 20) rfl;have qq6:=row_of HXb.out 6 (.int .i64 16) rfl;have qq7:=row_of HXb.out 7 (.int .i64 0) rfl;have qq8:=row_of HXb.out 8 (.int .i64 0) rfl;clear hz)
  | (go_at_call 44;refine (HIS.out _ B5.out).mono ?_;rintro e W5 ⟨rfl,hz⟩;have B6:=Hd (bcomp B5.out hz);clear hz))
 clear pp0 pp1 pp2 pp3 pp4 qq0 qq1 qq2 qq3 qq4 qq5 qq6 qq7 qq8 HXa HXb HEQ HIS HAL B5
 have HX15:=Hd ((B6.out.block _ (aE HX14.out).1).trans HX14.out)
 have HX25:=Hd ((B6.out.block _ (aE HX24.out).1).trans HX24.out)
 have HP5:=Hd (HP4.out.keep B6.out)
 have HQ5:=Hd (HQ4.out.keep B6.out)
 have HL5:=Hd (HL4.out.keep B6.out)
 have HT5:=Hd (HT4.out.keep B6.out)
 have HB5:=Hd (bcomp HB4.out B6.out)
 clear HX14 HX24 HP4 HQ4 HL4 HT4 HB4 B6
  -- region 6
 go_upto_region 7 with (first
  | (go_at_call 15;refine (p1_make _).mono ?_;rintro e z7 ⟨la,lb,lc,rfl,hq,hz⟩;have HQL:=Hd hq;have B7:=Hd hz;clear hq hz)
  | (go_at_call 14;have HPM':=HPM.out;refine (e1_make _).mono ?_;rintro e z9 ⟨gc,gm,rfl,hp,hz⟩;have HPS:=Hd hp;have B9:=Hd hz;have HN:=Hd (heap3_ofU (w:=z9) (A:=.cells #[.slice none 0 0,.slice none 0 0,.slice none 0 0,.slice none 0 0,.bool false,.int .i64 0,.int .i64 0,.int .i64 0,.int .i64 0] 31) (B:=.cells #[.int .i64 0,.slice none 0 0,.slice none 0 0,.slice none 0 0,.slice none 0 0] 27) (C:=.cells #[.int .i64 0,.slice none 0 0,.slice none 0 0,.slice none 0 0,.slice none 0 0] 27));clear hp hz HPM')
  | (go_at_call 14;refine (e1_make _).mono ?_;rintro e z8 ⟨fc,fm,rfl,hp,hz⟩;have HPM:=Hd hp;have B8:=Hd hz;clear hp hz)
  | (refine wpList_store_row rfl 31 (.tmp 8) (.tmp 48) rfl z9.heap.size #[.slice (some ⟨la,0,none⟩) 2 2,.slice (some ⟨lb,0,none⟩) 1 1,.slice (some ⟨lc,0,none⟩) 2 2,.slice none 0 0,.bool true,.int .i64 20,.int .i64 16,.int .i64 0,.int .i64 0] rfl rfl 31 #[.slice none 0 0,.slice none 0 0,.slice none 0 0,.slice none 0 0,.bool false,.int .i64 0,.int .i64 0,.int .i64 0,.int .i64 0] ?ht1 (by as_aux_lemma=>kernel_rfl) (by as_aux_lemma=>kernel_rfl) (by as_aux_lemma=>kernel_rfl) ?_;exact HN.out.1)
  | (refine wpList_store_row rfl 27 (.tmp 9) (.tmp 49) rfl (z9.heap.size+1) #[.int .i64 2,.slice (some ⟨fc,0,none⟩) 2 2,.slice none 0 0,.slice none 0 0,.slice (some ⟨fm,0,none⟩) 7 7] rfl rfl 27 #[.int .i64 0,.slice none 0 0,.slice none 0 0,.slice none 0 0,.slice none 0 0] ?ht2 (by as_aux_lemma=>kernel_rfl) (by as_aux_lemma=>kernel_rfl) (by as_aux_lemma=>kernel_rfl) ?_;exact (setRow_other _ _ _ _ (by omega)).trans HN.out.2.1)
  | (refine wpList_store_row rfl 27 (.tmp 10) (.tmp 50) rfl (z9.heap.size+1+1) #[.int .i64 2,.slice (some ⟨gc,0,none⟩) 2 2,.slice none 0 0,.slice none 0 0,.slice (some ⟨gm,0,none⟩) 7 7] rfl rfl 27 #[.int .i64 0,.slice none 0 0,.slice none 0 0,.slice none 0 0,.slice none 0 0] ?ht3 (by as_aux_lemma=>kernel_rfl) (by as_aux_lemma=>kernel_rfl) (by as_aux_lemma=>kernel_rfl) ?_;exact (setRow_other _ _ _ _ (by omega)).trans ((setRow_other _ _ _ _ (by omega)).trans HN.out.2.2.1)))
 try simp only [Act.put]
 have HY8:Hid (((((((z9.alloc (.cells #[.slice none 0 0,.slice none 0 0,.slice none 0 0,.slice none 0 0,.bool false,.int .i64 0,.int .i64 0,.int .i64 0,.int .i64 0] 31)).alloc (.cells #[.int .i64 0,.slice none 0 0,.slice none 0 0,.slice none 0 0,.slice none 0 0] 27)).alloc (.cells #[.int .i64 0,.slice none 0 0,.slice none 0 0,.slice none 0 0,.slice none 0 0] 27)).setRow z9.heap.size #[.slice (some ⟨la,0,none⟩) 2 2,.slice (some ⟨lb,0,none⟩) 1 1,.slice (some ⟨lc,0,none⟩) 2 2,.slice none 0 0,.bool true,.int .i64 20,.int .i64 16,.int .i64 0,.int .i64 0]).setRow (z9.heap.size+1) #[.int .i64 2,.slice (some ⟨fc,0,none⟩) 2 2,.slice none 0 0,.slice none 0 0,.slice (some ⟨fm,0,none⟩) 7 7]).setRow (z9.heap.size+1+1) #[.int .i64 2,.slice (some ⟨gc,0,none⟩) 2 2,.slice none 0 0,.slice none 0 0,.slice (some ⟨gm,0,none⟩) 7 7]).heap[z9.heap.size]?=some (.cells #[.slice (some ⟨la,0,none⟩) 2 2,.slice (some ⟨lb,0,none⟩) 1 1,.slice (some ⟨lc,0,none⟩) 2 2,.slice none 0 0,.bool true,.int .i64 20,.int .i64 16,.int .i64 0,.int .i64 0] 31 (0,0))):=(setRow_other _ _ _ _ (by omega)).trans ((setRow_other _ _ _ _ (by omega)).trans (setRow_heap _ _ _ _ _ _ HN.out.1))
 have HY9:Hid (((((((z9.alloc (.cells #[.slice none 0 0,.slice none 0 0,.slice none 0 0,.slice none 0 0,.bool false,.int .i64 0,.int .i64 0,.int .i64 0,.int .i64 0] 31)).alloc (.cells #[.int .i64 0,.slice none 0 0,.slice none 0 0,.slice none 0 0,.slice none 0 0] 27)).alloc (.cells #[.int .i64 0,.slice none 0 0,.slice none 0 0,.slice none 0 0,.slice none 0 0] 27)).setRow z9.heap.size #[.slice (some ⟨la,0,none⟩) 2 2,.slice (some ⟨lb,0,none⟩) 1 1,.slice (some ⟨lc,0,none⟩) 2 2,.slice none 0 0,.bool true,.int .i64 20,.int .i64 16,.int .i64 0,.int .i64 0]).setRow (z9.heap.size+1) #[.int .i64 2,.slice (some ⟨fc,0,none⟩) 2 2,.slice none 0 0,.slice none 0 0,.slice (some ⟨fm,0,none⟩) 7 7]).setRow (z9.heap.size+1+1) #[.int .i64 2,.slice (some ⟨gc,0,none⟩) 2 2,.slice none 0 0,.slice none 0 0,.slice (some ⟨gm,0,none⟩) 7 7]).heap[z9.heap.size+1]?=some (.cells #[.int .i64 2,.slice (some ⟨fc,0,none⟩) 2 2,.slice none 0 0,.slice none 0 0,.slice (some ⟨fm,0,none⟩) 7 7] 27 (0,0))):=(setRow_other _ _ _ _ (by omega)).trans (setRow_heap _ _ _ _ _ _ ((setRow_other _ _ _ _ (by omega)).trans HN.out.2.1))
 have HY10:Hid (((((((z9.alloc (.cells #[.slice none 0 0,.slice none 0 0,.slice none 0 0,.slice none 0 0,.bool false,.int .i64 0,.int .i64 0,.int .i64 0,.int .i64 0] 31)).alloc (.cells #[.int .i64 0,.slice none 0 0,.slice none 0 0,.slice none 0 0,.slice none 0 0] 27)).alloc (.cells #[.int .i64 0,.slice none 0 0,.slice none 0 0,.slice none 0 0,.slice none 0 0] 27)).setRow z9.heap.size #[.slice (some ⟨la,0,none⟩) 2 2,.slice (some ⟨lb,0,none⟩) 1 1,.slice (some ⟨lc,0,none⟩) 2 2,.slice none 0 0,.bool true,.int .i64 20,.int .i64 16,.int .i64 0,.int .i64 0]).setRow (z9.heap.size+1) #[.int .i64 2,.slice (some ⟨fc,0,none⟩) 2 2,.slice none 0 0,.slice none 0 0,.slice (some ⟨fm,0,none⟩) 7 7]).setRow (z9.heap.size+1+1) #[.int .i64 2,.slice (some ⟨gc,0,none⟩) 2 2,.slice none 0 0,.slice none 0 0,.slice (some ⟨gm,0,none⟩) 7 7]).heap[z9.heap.size+1+1]?=some (.cells #[.int .i64 2,.slice (some ⟨gc,0,none⟩) 2 2,.slice none 0 0,.slice none 0 0,.slice (some ⟨gm,0,none⟩) 7 7] 27 (0,0))):=setRow_heap _ _ _ _ _ _ ((setRow_other _ _ _ _ (by omega)).trans ((setRow_other _ _ _ _ (by omega)).trans HN.out.2.2.1))
 have HBW:Hid (Below z9.heap.size z9 ((((((z9.alloc (.cells #[.slice none 0 0,.slice none 0 0,.slice none 0 0,.slice none 0 0,.bool false,.int .i64 0,.int .i64 0,.int .i64 0,.int .i64 0] 31)).alloc (.cells #[.int .i64 0,.slice none 0 0,.slice none 0 0,.slice none 0 0,.slice none 0 0] 27)).alloc (.cells #[.int .i64 0,.slice none 0 0,.slice none 0 0,.slice none 0 0,.slice none 0 0] 27)).setRow z9.heap.size #[.slice (some ⟨la,0,none⟩) 2 2,.slice (some ⟨lb,0,none⟩) 1 1,.slice (some ⟨lc,0,none⟩) 2 2,.slice none 0 0,.bool true,.int .i64 20,.int .i64 16,.int .i64 0,.int .i64 0]).setRow (z9.heap.size+1) #[.int .i64 2,.slice (some ⟨fc,0,none⟩) 2 2,.slice none 0 0,.slice none 0 0,.slice (some ⟨fm,0,none⟩) 7 7]).setRow (z9.heap.size+1+1) #[.int .i64 2,.slice (some ⟨gc,0,none⟩) 2 2,.slice none 0 0,.slice none 0 0,.slice (some ⟨gm,0,none⟩) 7 7])):=below_row (below_row (below_row HN.out.2.2.2 (nR _) _) (by omega) _) (by omega) _
 clear HN
 generalize (((((z9.alloc (.cells #[.slice none 0 0,.slice none 0 0,.slice none 0 0,.slice none 0 0,.bool false,.int .i64 0,.int .i64 0,.int .i64 0,.int .i64 0] 31)).alloc (.cells #[.int .i64 0,.slice none 0 0,.slice none 0 0,.slice none 0 0,.slice none 0 0] 27)).alloc (.cells #[.int .i64 0,.slice none 0 0,.slice none 0 0,.slice none 0 0,.slice none 0 0] 27)).setRow z9.heap.size #[.slice (some ⟨la,0,none⟩) 2 2,.slice (some ⟨lb,0,none⟩) 1 1,.slice (some ⟨lc,0,none⟩) 2 2,.slice none 0 0,.bool true,.int .i64 20,.int .i64 16,.int .i64 0,.int .i64 0]).setRow (z9.heap.size+1) #[.int .i64 2,.slice (some ⟨fc,0,none⟩) 2 2,.slice none 0 0,.slice none 0 0,.slice (some ⟨fm,0,none⟩) 7 7]).setRow (z9.heap.size+1+1) #[.int .i64 2,.slice (some ⟨gc,0,none⟩) 2 2,.slice none 0 0,.slice none 0 0,.slice (some ⟨gm,0,none⟩) 7 7]=W6 at *
 obtain ⟨b8,hb8⟩:∃ b,z9.heap.size=b:=⟨_,rfl⟩
 have HB8:=Hd hb8
 rw [hb8] at HY8 HY9 HY10
 rw [hb8]
 clear hb8
 have HBF:Hid (∀ z,Below z7.heap.size z7 z->Below W5.heap.size W5 z):=fun z hz=>bcomp B7.out hz
 have HB96:Hid (Below z7.heap.size z7 W6):=bcomp B8.out (bcomp B9.out HBW.out)
 have HPM6:=Hd ((HPM.out.keep B9.out).keep HBW.out)
 have HPS6:=Hd (HPS.out.keep HBW.out)
 have HFC:Hid (fc<z8.heap.size/\fm<z8.heap.size):=by
  obtain ⟨P,h1,_,h3,_⟩:=HPM.out
  obtain ⟨_,c1,h5⟩:=own_is h1 (k:=fc) rfl
  obtain ⟨_,c2,h6⟩:=own_is h3 (k:=fm) rfl
  exact ⟨(aE h5).1,(aE h6).1⟩
 have HGE:Hid (z7.heap.size<=fc/\z8.heap.size<=gm/\z7.heap.size<=z8.heap.size/\z8.heap.size<=z9.heap.size):=by
  obtain ⟨P,h1,_,_,_⟩:=HPM.out
  obtain ⟨P2,_,_,h3,_⟩:=HPS.out
  exact ⟨(own_is h1 (k:=fc) rfl).1,(own_is h3 (k:=gm) rfl).1,B8.out.size,B9.out.size⟩
 clear HPM HPS B8 B9 HBW
  -- region 7
 have r2:=row_of HY8.out 2 (.slice (some ⟨lc,0,none⟩) 2 2) rfl
 have fr2:=frozen_of_row W6 b8 2 _ _ HY8.out
 go_upto_region 8 with fail
 clear r2 fr2
 have hsc:=setCell_turned W6 ⟨b8,2,none⟩ (.slice (some ⟨lc,0,none⟩) 1 2)
 have HY8b:Hid ((W6.setCell ⟨b8,2,none⟩ (.slice (some ⟨lc,0,none⟩) 1 2)).heap[b8]?=some (.cells #[.slice (some ⟨la,0,none⟩) 2 2,.slice (some ⟨lb,0,none⟩) 1 1,.slice (some ⟨lc,0,none⟩) 1 2,.slice none 0 0,.bool true,.int .i64 20,.int .i64 16,.int .i64 0,.int .i64 0] 31 (0,0))):=by
  show _=_
  rw [heap_setCell_same _ _ _ _ _ _ HY8.out];rfl
 have HY9b:Hid ((W6.setCell ⟨b8,2,none⟩ (.slice (some ⟨lc,0,none⟩) 1 2)).heap[b8+1]?=some (.cells #[.int .i64 2,.slice (some ⟨fc,0,none⟩) 2 2,.slice none 0 0,.slice none 0 0,.slice (some ⟨fm,0,none⟩) 7 7] 27 (0,0))):=(hsc.block _ (aE HY9.out).1 (by show ¬ (b8+1=b8);omega)).trans HY9.out
 have HY10b:Hid ((W6.setCell ⟨b8,2,none⟩ (.slice (some ⟨lc,0,none⟩) 1 2)).heap[b8+1+1]?=some (.cells #[.int .i64 2,.slice (some ⟨gc,0,none⟩) 2 2,.slice none 0 0,.slice none 0 0,.slice (some ⟨gm,0,none⟩) 7 7] 27 (0,0))):=(hsc.block _ (aE HY10.out).1 (by show ¬ (b8+1+1=b8);omega)).trans HY10.out
 have HBm:Hid (Below z7.heap.size z7 (W6.setCell ⟨b8,2,none⟩ (.slice (some ⟨lc,0,none⟩) 1 2))):=below_then HB96.out hsc HB96.out.size (fun i e=>by have e':i=b8:=e;have:=HB8.out;have:=HGE.out;omega)
 have hty:∀ {cs:Array Value} {T:TypeId},T ≠ 31->W6.heap[b8]? ≠ some (.cells cs T (0,0)):=fun hT e=>by
  rw [HY8.out] at e;simp at e;exact hT e.2.symm
 have HPMb:Hid (OwnP z7.heap.size (W6.setCell ⟨b8,2,none⟩ (.slice (some ⟨lc,0,none⟩) 1 2)) e1P (.slice (some ⟨fc,0,none⟩) 2 2) (.slice (some ⟨fm,0,none⟩) 7 7)):=HPM6.out.turn hsc (fun b hb e=>by obtain ⟨P,h1,_,_,_⟩:=HPM6.out;exact own_ne_cells h1 HY8.out (by decide) (by have e':b=b8:=e;rw [hb,e'])) (fun b hb e=>by obtain ⟨P,_,_,h1,_⟩:=HPM6.out;exact own_ne_cells h1 HY8.out (by decide) (by have e':b=b8:=e;rw [hb,e'])) (fun b cs _ hb e=>by have e':b=b8:=e;subst e';exact hty (by decide) hb)
 have HPSb:Hid (OwnP z8.heap.size (W6.setCell ⟨b8,2,none⟩ (.slice (some ⟨lc,0,none⟩) 1 2)) e1P (.slice (some ⟨gc,0,none⟩) 2 2) (.slice (some ⟨gm,0,none⟩) 7 7)):=HPS6.out.turn hsc (fun b hb e=>by obtain ⟨P,h1,_,_,_⟩:=HPS6.out;exact own_ne_cells h1 HY8.out (by decide) (by have e':b=b8:=e;rw [hb,e'])) (fun b hb e=>by obtain ⟨P,_,_,h1,_⟩:=HPS6.out;exact own_ne_cells h1 HY8.out (by decide) (by have e':b=b8:=e;rw [hb,e'])) (fun b cs _ hb e=>by have e':b=b8:=e;subst e';exact hty (by decide) hb)
 clear HY8 HY9 HY10 HPM6 HPS6 hsc hty HB96
 generalize W6.setCell ⟨b8,2,none⟩ (.slice (some ⟨lc,0,none⟩) 1 2)=W7 at *
  -- region 8
 obtain ⟨i0,hi,hz0,hz1,hz2⟩:=info_parts infoStr
 obtain ⟨PM,m1,m2,m3,m4⟩:=HPMb.out
 have HAL8:Hid (Below W7.heap.size W7 (W7.alloc (.cells #[.string extra29] 9))):=(bR _ _).alloc (nR _) _
 have HN8:=Hd (heap_alloc_new W7 (.cells #[.string extra29] 9))
 have HOC:=Hd (own_below m1 HAL8.out)
 have HS7:Hid (z7.heap.size<=(W7.alloc (.cells #[.string extra29] 9)).heap.size):=Nat.le_trans HBm.out.size HAL8.out.size
 have r1:=row_of HY9b.out 1 (.slice (some ⟨fc,0,none⟩) 2 2) rfl
 clear m1 m2 m3 m4
 go_upto_region 9 with (at_builtin;refine wpList_append_own_at _ rfl (.tmp 56) (.tmp 57) 22 rfl z7.heap.size 9 i0 (.string ⟨#[]⟩) 1 16 Tryz.underlying22 hi hz0 hz1 hz2 rfl (by decide) _ 2 _ rfl HOC.out ⟨W7.heap.size,0,none⟩ 1 1 [.string extra29] rfl rfl (many_of (xs:=[.string extra29]) HN8.out) (fun u hu=>by simp only [List.mem_cons,List.not_mem_nil,or_false] at hu;rcases hu with rfl;rfl) (by unfold maxLen;omega) (by omega) HS7.out ?_;intro v' w8 hown' hgrow _ _;obtain ⟨ya,yc,rfl,_⟩:=own_read hown';have HO8:=Hd hown';have HT8:Hid (Turned (fun k=>(Value.slice (some ⟨fc,0,none⟩) 2 2).ownBlock=some k) W7 w8):=(Turned.of_below HAL8.out).trans (Turned.of_grown hgrow (fun b e=>e));have HY9c:=Hd ((HT8.out.block _ (aE HY9b.out).1 (own_ne_cells HOC.out ((HAL8.out.block _ (aE HY9b.out).1).trans HY9b.out) (by decide))).trans HY9b.out);have r1':=row_of HY9c.out 1 (.slice (some ⟨fc,0,none⟩) 2 2) rfl;have fr1:=frozen_of_row w8 (b8+1) 1 _ _ HY9c.out;clear hown' hgrow r1)
 clear r1' fr1
 have hsc:=setCell_turned w8 ⟨b8+1,1,none⟩ (.slice ya 3 yc)
 have HY9d:Hid ((w8.setCell ⟨b8+1,1,none⟩ (.slice ya 3 yc)).heap[b8+1]?=some (.cells #[.int .i64 2,.slice ya 3 yc,.slice none 0 0,.slice none 0 0,.slice (some ⟨fm,0,none⟩) 7 7] 27 (0,0))):=by
  show _=_
  rw [heap_setCell_same _ _ _ _ _ _ HY9c.out];rfl
 have hfb8:∀ {cs:Array Value} {T:TypeId} {b:Nat},T ≠ 9->W7.heap[b]?=some (.cells cs T (0,0))->¬ (Value.slice (some ⟨fc,0,none⟩) 2 2).ownBlock=some b:=fun hT h=>by
  obtain ⟨P,h1,_⟩:=HPMb.out
  exact own_ne_cells h1 h hT
 have HY8d:Hid ((w8.setCell ⟨b8+1,1,none⟩ (.slice ya 3 yc)).heap[b8]?=some (.cells #[.slice (some ⟨la,0,none⟩) 2 2,.slice (some ⟨lb,0,none⟩) 1 1,.slice (some ⟨lc,0,none⟩) 1 2,.slice none 0 0,.bool true,.int .i64 20,.int .i64 16,.int .i64 0,.int .i64 0] 31 (0,0))):=by
  have h1:=(HT8.out.block _ (aE HY8b.out).1 (hfb8 (by decide) HY8b.out)).trans HY8b.out
  exact (hsc.block _ (aE h1).1 (by show ¬ (b8=b8+1);omega)).trans h1
 have HY10d:Hid ((w8.setCell ⟨b8+1,1,none⟩ (.slice ya 3 yc)).heap[b8+1+1]?=some (.cells #[.int .i64 2,.slice (some ⟨gc,0,none⟩) 2 2,.slice none 0 0,.slice none 0 0,.slice (some ⟨gm,0,none⟩) 7 7] 27 (0,0))):=by
  have h1:=(HT8.out.block _ (aE HY10b.out).1 (hfb8 (by decide) HY10b.out)).trans HY10b.out
  exact (hsc.block _ (aE h1).1 (by show ¬ (b8+1+1=b8+1);omega)).trans h1
 have hBm8:Below z7.heap.size z7 w8:=below_then HBm.out HT8.out HBm.out.size (fun i e=>by have e':some fc=some i:=e;cases e';exact HGE.out.1)
 have HBd:Hid (Below z7.heap.size z7 (w8.setCell ⟨b8+1,1,none⟩ (.slice ya 3 yc))):=below_then hBm8 hsc hBm8.size (fun i e=>by have e':i=b8+1:=e;have:=HB8.out;have:=HGE.out;omega)
 have hty:∀ {cs:Array Value} {T:TypeId},T ≠ 27->w8.heap[b8+1]? ≠ some (.cells cs T (0,0)):=fun hT e=>by
  rw [HY9c.out] at e;simp at e;exact hT e.2.symm
 have HMO:Hid (OwnP z7.heap.size (w8.setCell ⟨b8+1,1,none⟩ (.slice ya 3 yc)) moreP (.slice ya 3 yc) (.slice (some ⟨fm,0,none⟩) 7 7)):=by
  have h8:=HPMb.out.turn (S:=fun k=>fm=k/\False) (Turned.refl _ _) (fun _ _ h=>h.2) (fun _ _ h=>h.2) (fun _ _ _ _ h=>h.2)
  obtain ⟨P,h1,h2,h3,h4⟩:=HPMb.out
  have hm8:OwnP z7.heap.size w8 moreP (.slice ya 3 yc) (.slice (some ⟨fm,0,none⟩) 7 7):=by
   refine ⟨P,HO8.out,h2,own_turn h3 HT8.out (fun k hk e=>own_ne_own29 h3 h1 (by decide) hk e),fun q hq=>?_⟩
   refine RdInstr.map (S:=fun T=>T=47) (fun T b hT hb hf=>?_) (fun T b o u hT hf hcc=>?_) rfl (h4 q hq)
   ·obtain ⟨g1,cs,g2⟩:=hf _ rfl
    subst hT
    exact Free.of g1 ((HT8.out.block b hb (own_ne_cells h1 g2 (by decide))).trans g2)
   ·obtain ⟨g1,cs,g2⟩:=hf _ rfl
    subst hT
    exact HT8.out.cell hcc (own_ne_cells h1 g2 (by decide))
  exact hm8.turn hsc (fun b hb e=>by obtain ⟨P,g1,_,_,_⟩:=hm8;exact own_ne_cells g1 HY9c.out (by decide) (by have e':b=b8+1:=e;rw [hb,e'])) (fun b hb e=>by obtain ⟨P,_,_,g1,_⟩:=hm8;exact own_ne_cells g1 HY9c.out (by decide) (by have e':b=b8+1:=e;rw [hb,e'])) (fun b cs _ hb e=>by have e':b=b8+1:=e;subst e';exact hty (by decide) hb)
 have HSI:Hid (OwnP z8.heap.size (w8.setCell ⟨b8+1,1,none⟩ (.slice ya 3 yc)) e1P (.slice (some ⟨gc,0,none⟩) 2 2) (.slice (some ⟨gm,0,none⟩) 7 7)):=by
  have h8:=HPSb.out.apart HT8.out (fun b e=>by have e':some fc=some b:=e;cases e';exact HFC.out.1)
  exact h8.turn hsc (fun b hb e=>by obtain ⟨P,g1,_,_,_⟩:=h8;exact own_ne_cells g1 HY9c.out (by decide) (by have e':b=b8+1:=e;rw [hb,e'])) (fun b hb e=>by obtain ⟨P,_,_,g1,_⟩:=h8;exact own_ne_cells g1 HY9c.out (by decide) (by have e':b=b8+1:=e;rw [hb,e'])) (fun b cs _ hb e=>by have e':b=b8+1:=e;subst e';exact hty (by decide) hb)
 clear HY8b HY9b HY10b HPMb HPSb HOC HS7 HAL8 HN8 HO8 HT8 HY9c hsc hfb8 hBm8 hty HBm PM
 generalize w8.setCell ⟨b8+1,1,none⟩ (.slice ya 3 yc)=W8 at *
  -- region 9
 obtain ⟨j0,hj,hj0,hj1,hj2⟩:=info_parts infoInstr
 have hsi:=HSI.out
 obtain ⟨PS,s1,s2,s3,s4⟩:=hsi
 have HSQ:=Hd s2
 have HS1:=Hd s1
 have HS3:=Hd s3
 have HS4:=Hd s4
 obtain ⟨hn0,hn1,hbn⟩:=heap2_of (w:=W8) (A:=.cells #[.string s029,.int .u64 1] 47) (B:=.cells #[.int .u8 7,.int .u8 0,.string sX29,.string sS29,.slice (some ⟨W8.heap.size,0,none⟩) 1 1,.int .i64 13,.int .i64 1] 50) (bR _ _)
 have HN0:=Hd hn0
 have HN1:=Hd hn1
 have HAL9:=Hd hbn
 have HOM:=Hd (own_below s3 hbn)
 have HS8:Hid (z8.heap.size<=((W8.alloc (.cells #[.string s029,.int .u64 1] 47)).alloc (.cells #[.int .u8 7,.int .u8 0,.string sX29,.string sS29,.slice (some ⟨W8.heap.size,0,none⟩) 1 1,.int .i64 13,.int .i64 1] 50)).heap.size):=by
  have h1:z8.heap.size<=b8+1+1:=by have:=HGE.out;have:=HB8.out;omega
  have h2:=(aE HY10d.out).1
  have h3:=hbn.size
  show _<=_
  omega
 have r4:=row_of HY10d.out 4 (.slice (some ⟨gm,0,none⟩) 7 7) rfl
 clear s1 s2 s3 s4 hn0 hn1 hbn
 go_upto_region 10 with (at_builtin;refine wpList_append_own_at _ rfl (.tmp 61) (.tmp 66) 25 rfl z8.heap.size 50 j0 (.agg #[.int .u8 0,.int .u8 0,.string ⟨#[]⟩,.string ⟨#[]⟩,.slice none 0 0,.int .i64 0,.int .i64 0]) 7 80 Tryz.underlying25 hj hj0 hj1 hj2 rfl (by decide) _ 7 _ rfl HOM.out ⟨W8.heap.size+1,0,none⟩ 1 1 (insCells (relI,.slice (some ⟨W8.heap.size,0,none⟩) 1 1)) rfl rfl (many_of (xs:=insCells (relI,.slice (some ⟨W8.heap.size,0,none⟩) 1 1)) HN1.out) (fun u hu=>by simp only [insCells,List.mem_cons,List.not_mem_nil,or_false] at hu;rcases hu with rfl|rfl|rfl|rfl|rfl|rfl|rfl <;> rfl) (by unfold maxLen;omega) (by omega) HS8.out ?_;intro v' w9 hown' hgrow _ _;obtain ⟨xa,xc,rfl,_⟩:=own_read hown';have HO9:=Hd hown';have HG9:Hid (Turned (fun k=>(Value.slice (some ⟨gm,0,none⟩) 7 7).ownBlock=some k) _ w9):=Turned.of_grown hgrow (fun b e=>e);have HT9:Hid (Turned (fun k=>(Value.slice (some ⟨gm,0,none⟩) 7 7).ownBlock=some k) W8 w9):=(Turned.of_below HAL9.out).trans HG9.out;have HY10e:=Hd ((HT9.out.block _ (aE HY10d.out).1 (own_ne_cells HOM.out ((HAL9.out.block _ (aE HY10d.out).1).trans HY10d.out) (by decide))).trans HY10d.out);have r4':=row_of HY10e.out 4 (.slice (some ⟨gm,0,none⟩) 7 7) rfl;have fr4:=frozen_of_row w9 (b8+1+1) 4 _ _ HY10e.out;clear hown' hgrow r4)
 clear r4' fr4
 have hsc:=setCell_turned w9 ⟨b8+1+1,4,none⟩ (.slice xa 8 xc)
 have HY10f:Hid ((w9.setCell ⟨b8+1+1,4,none⟩ (.slice xa 8 xc)).heap[b8+1+1]?=some (.cells #[.int .i64 2,.slice (some ⟨gc,0,none⟩) 2 2,.slice none 0 0,.slice none 0 0,.slice xa 8 xc] 27 (0,0))):=by
  show _=_
  rw [heap_setCell_same _ _ _ _ _ _ HY10e.out];rfl
 have hgb:∀ {cs:Array Value} {T:TypeId} {b:Nat},T ≠ 50->W8.heap[b]?=some (.cells cs T (0,0))->¬ (Value.slice (some ⟨gm,0,none⟩) 7 7).ownBlock=some b:=fun hT h=>by
  obtain ⟨P,_,_,h1,_⟩:=HSI.out
  exact own_ne_cells h1 h hT
 have HY8f:Hid ((w9.setCell ⟨b8+1+1,4,none⟩ (.slice xa 8 xc)).heap[b8]?=some (.cells #[.slice (some ⟨la,0,none⟩) 2 2,.slice (some ⟨lb,0,none⟩) 1 1,.slice (some ⟨lc,0,none⟩) 1 2,.slice none 0 0,.bool true,.int .i64 20,.int .i64 16,.int .i64 0,.int .i64 0] 31 (0,0))):=by
  have h1:=(HT9.out.block _ (aE HY8d.out).1 (hgb (by decide) HY8d.out)).trans HY8d.out
  exact (hsc.block _ (aE h1).1 (by show ¬ (b8=b8+1+1);omega)).trans h1
 have HY9f:Hid ((w9.setCell ⟨b8+1+1,4,none⟩ (.slice xa 8 xc)).heap[b8+1]?=some (.cells #[.int .i64 2,.slice ya 3 yc,.slice none 0 0,.slice none 0 0,.slice (some ⟨fm,0,none⟩) 7 7] 27 (0,0))):=by
  have h1:=(HT9.out.block _ (aE HY9d.out).1 (hgb (by decide) HY9d.out)).trans HY9d.out
  exact (hsc.block _ (aE h1).1 (by show ¬ (b8+1=b8+1+1);omega)).trans h1
 have hB9:Below z7.heap.size z7 w9:=below_then HBd.out HT9.out HBd.out.size (fun i e=>by have e':some gm=some i:=e;cases e';have:=HGE.out;omega)
 have HBf:Hid (Below z7.heap.size z7 (w9.setCell ⟨b8+1+1,4,none⟩ (.slice xa 8 xc))):=below_then hB9 hsc hB9.size (fun i e=>by have e':i=b8+1+1:=e;have:=HB8.out;have:=HGE.out;omega)
 have hty:∀ {cs:Array Value} {T:TypeId},T ≠ 27->w9.heap[b8+1+1]? ≠ some (.cells cs T (0,0)):=fun hT e=>by
  rw [HY10e.out] at e;simp at e;exact hT e.2.symm
 have HMP:Hid (RdProg none (w9.setCell ⟨b8+1+1,4,none⟩ (.slice xa 8 xc)) moreP (.slice ya 3 yc) (.slice none 0 0) (.slice none 0 0) (.slice (some ⟨fm,0,none⟩) 7 7)):=by
  have h9:OwnP z7.heap.size w9 moreP (.slice ya 3 yc) (.slice (some ⟨fm,0,none⟩) 7 7):=HMO.out.turn HT9.out (fun b hb e=>by
    obtain ⟨P,g1,_,_,_⟩:=HMO.out
    obtain ⟨P2,_,_,g2,_⟩:=HSI.out
    exact own_ne_own29 g1 g2 (by decide) hb e) (fun b hb e=>by
    have h1:some fm=some b:=hb
    have h2:some gm=some b:=e
    have:=HFC.out.2;have:=HGE.out;cases h1;cases h2;omega) (fun b cs _ hb=>hgb (by decide) hb)
  have h10:=h9.turn hsc (fun b hb e=>by obtain ⟨P,g1,_,_,_⟩:=h9;exact own_ne_cells g1 HY10e.out (by decide) (by have e':b=b8+1+1:=e;rw [hb,e'])) (fun b hb e=>by obtain ⟨P,_,_,g1,_⟩:=h9;exact own_ne_cells g1 HY10e.out (by decide) (by have e':b=b8+1+1:=e;rw [hb,e'])) (fun b cs _ hb e=>by have e':b=b8+1+1:=e;subst e';exact hty (by decide) hb)
  exact h10.rd chans_more ⟨rfl,rfl⟩ ⟨by decide,by decide⟩ ⟨by decide,by decide⟩
 have HSP:Hid (RdProg none (w9.setCell ⟨b8+1+1,4,none⟩ (.slice xa 8 xc)) siteP (.slice (some ⟨gc,0,none⟩) 2 2) (.slice none 0 0) (.slice none 0 0) (.slice xa 8 xc)):=by
  have h1:=HS1.out
  have h2:=HSQ.out
  have h3:=HS3.out
  have h4:=HS4.out
  have hs9:OwnP z8.heap.size w9 siteP (.slice (some ⟨gc,0,none⟩) 2 2) (.slice xa 8 xc):=by
   refine ⟨PS ++ [(relI,.slice (some ⟨W8.heap.size,0,none⟩) 1 1)],own_turn h1 HT9.out (fun k hk e=>own_ne_own29 h1 h3 (by decide) hk e),by rw [List.map_append,h2];rfl,?_,fun q hq=>?_⟩
   ·rw [List.flatMap_append]
    exact HO9.out
   ·rcases List.mem_append.1 hq with hq|hq
    ·refine RdInstr.map (S:=fun T=>T=47) (fun T b hT hb hf=>?_) (fun T b o u hT hf hcc=>?_) rfl (h4 q hq)
     ·obtain ⟨g1,cs,g2⟩:=hf _ rfl
      subst hT
      exact Free.of g1 ((HT9.out.block b hb (own_ne_cells h3 g2 (by decide))).trans g2)
     ·obtain ⟨g1,cs,g2⟩:=hf _ rfl
      subst hT
      exact HT9.out.cell hcc (own_ne_cells h3 g2 (by decide))
    ·rw [List.mem_singleton] at hq
     subst hq
     have h5:=(HG9.out.block _ (aE HN0.out).1 (own_ne_cells HOM.out HN0.out (by decide))).trans HN0.out
     have hge:z8.heap.size<=W8.heap.size:=by
      have h1:z8.heap.size<=b8+1+1:=by have:=HGE.out;have:=HB8.out;omega
      have h2:=(aE HY10d.out).1
      omega
     exact ⟨args_whole (l:=[⟨s029,1⟩]) hge h5 (by decide) (by intro s hs;simp only [List.mem_cons,List.not_mem_nil,or_false] at hs;subst hs;exact ⟨⟨by decide,by decide⟩,by decide⟩),rel_ok⟩
  have h10:=hs9.turn hsc (fun b hb e=>by obtain ⟨P,g1,_,_,_⟩:=hs9;exact own_ne_cells g1 HY10e.out (by decide) (by have e':b=b8+1+1:=e;rw [hb,e'])) (fun b hb e=>by obtain ⟨P,_,_,g1,_⟩:=hs9;exact own_ne_cells g1 HY10e.out (by decide) (by have e':b=b8+1+1:=e;rw [hb,e'])) (fun b cs _ hb e=>by have e':b=b8+1+1:=e;subst e';exact hty (by decide) hb)
  exact h10.rd chans_e1 ⟨rfl,rfl⟩ ⟨by decide,by decide⟩ ⟨by decide,by decide⟩
 have HX1f:=Hd (((HBF.out _ HBf.out).block _ (aE HX15.out).1).trans HX15.out)
 have HX2f:=Hd (((HBF.out _ HBf.out).block _ (aE HX25.out).1).trans HX25.out)
 have HPf:=Hd (rd_e1 (HP5.out.keep (HBF.out _ HBf.out)))
 have HQf:=Hd (HQ5.out.keep (HBF.out _ HBf.out))
 have HLf:=Hd (HL5.out.keep (HBF.out _ HBf.out))
 have HTf:=Hd (HT5.out.keep (HBF.out _ HBf.out))
 have HQLf:=Hd (pol_less (HQL.out.keep HBf.out))
 have HBg:=Hd (bcomp HB5.out (HBF.out _ HBf.out))
 clear HY8d HY9d HY10d HX15 HX25 HP5 HQ5 HL5 HT5 HB5 HQL HBF HBf HMO HSI HOM HS8 HAL9 HN0 HN1 HO9 HG9 HT9 HY10e hsc hgb hB9 hty HBd HFC HGE HB8 HSQ HS1 HS3 HS4
 generalize w9.setCell ⟨b8+1+1,4,none⟩ (.slice xa 8 xc)=W9 at *
  -- region 10
 have HI1:=Hd (is29 e1P _ _ _ _ lessQ _ _ _ _ 5 1 6 W9 HPf.out HQLf.out HLf.out HTf.out rules_less)
 have HI2:Hid (∀ z,Below W9.heap.size W9 z->Calls Tryz.prog 44 #[.agg #[.int .i64 2,.slice ya 3 yc,.slice none 0 0,.slice none 0 0,.slice (some ⟨fm,0,none⟩) 7 7],.agg #[.slice (some ⟨qa,0,none⟩) 2 2,.slice (some ⟨qb,0,none⟩) 1 1,.slice (some ⟨qc,0,none⟩) 2 2,.slice none 0 0,.bool true,.int .i64 20,.int .i64 16,.int .i64 0,.int .i64 0],.int .i64 0,.int .i64 0,.int .i64 6] z fun e w'=>e=.returned (.bool true)/\Below z.heap.size z w'):=fun z hz=>is29 moreP _ _ _ _ p1P _ _ _ _ 0 0 6 z (HMP.out.keep hz) (HQf.out.keep hz) (HLf.out.keep hz) (HTf.out.keep hz) rules_more
 have HI3:Hid (∀ z,Below W9.heap.size W9 z->Calls Tryz.prog 44 #[.agg #[.int .i64 2,.slice (some ⟨ec,0,none⟩) 2 2,.slice none 0 0,.slice none 0 0,.slice (some ⟨em,0,none⟩) 7 7],.agg #[.slice none 0 0,.slice none 0 0,.slice none 0 0,.slice none 0 0,.bool false,.int .i64 0,.int .i64 0,.int .i64 0,.int .i64 0],.int .i64 0,.int .i64 0,.int .i64 4] z fun e w'=>e=.returned (.bool true)/\Below z.heap.size z w'):=fun z hz=>is29 e1P _ _ _ _ zeroQ _ _ _ _ 0 0 4 z (HPf.out.keep hz) (rdPol_zero z) (HLf.out.keep hz) (HTf.out.keep hz) rules_zq
 have HI4:Hid (∀ z,Below W9.heap.size W9 z->Calls Tryz.prog 44 #[.agg #[.int .i64 0,.slice none 0 0,.slice none 0 0,.slice none 0 0,.slice none 0 0],.agg #[.slice (some ⟨qa,0,none⟩) 2 2,.slice (some ⟨qb,0,none⟩) 1 1,.slice (some ⟨qc,0,none⟩) 2 2,.slice none 0 0,.bool true,.int .i64 20,.int .i64 16,.int .i64 0,.int .i64 0],.int .i64 0,.int .i64 0,.int .i64 3] z fun e w'=>e=.returned (.bool true)/\Below z.heap.size z w'):=fun z hz=>is29 zeroP29 _ _ _ _ p1P _ _ _ _ 0 0 3 z (rdProg_zero z) (HQf.out.keep hz) (HLf.out.keep hz) (HTf.out.keep hz) rules_zp
 have HI5:Hid (∀ z,Below W9.heap.size W9 z->Calls Tryz.prog 44 #[.agg #[.int .i64 2,.slice (some ⟨gc,0,none⟩) 2 2,.slice none 0 0,.slice none 0 0,.slice xa 8 xc],.agg #[.slice (some ⟨qa,0,none⟩) 2 2,.slice (some ⟨qb,0,none⟩) 1 1,.slice (some ⟨qc,0,none⟩) 2 2,.slice none 0 0,.bool true,.int .i64 20,.int .i64 16,.int .i64 0,.int .i64 0],.int .i64 13,.int .i64 1,.int .i64 6] z fun e w'=>e=.returned (.bool true)/\Below z.heap.size z w'):=fun z hz=>is29 siteP _ _ _ _ p1P _ _ _ _ 13 1 6 z (HSP.out.keep hz) (HQf.out.keep hz) (HLf.out.keep hz) (HTf.out.keep hz) rules_site
 clear HMP HSP HPf HQf HLf HTf HQLf
 have va0:=row_of HX1f.out 0 (.int .i64 2) rfl
 have va1:=row_of HX1f.out 1 (.slice (some ⟨ec,0,none⟩) 2 2) rfl
 have va2:=row_of HX1f.out 2 (.slice none 0 0) rfl
 have va3:=row_of HX1f.out 3 (.slice none 0 0) rfl
 have va4:=row_of HX1f.out 4 (.slice (some ⟨em,0,none⟩) 7 7) rfl
 have vb0:=row_of HY8f.out 0 (.slice (some ⟨la,0,none⟩) 2 2) rfl
 have vb1:=row_of HY8f.out 1 (.slice (some ⟨lb,0,none⟩) 1 1) rfl
 have vb2:=row_of HY8f.out 2 (.slice (some ⟨lc,0,none⟩) 1 2) rfl
 have vb3:=row_of HY8f.out 3 (.slice none 0 0) rfl
 have vb4:=row_of HY8f.out 4 (.bool true) rfl
 have vb5:=row_of HY8f.out 5 (.int .i64 20) rfl
 have vb6:=row_of HY8f.out 6 (.int .i64 16) rfl
 have vb7:=row_of HY8f.out 7 (.int .i64 0) rfl
 have vb8:=row_of HY8f.out 8 (.int .i64 0) rfl
 go_wp2_with (first
  | (go_at_call 44;have HK4:=C4.out;refine (HI5.out _ C4.out).mono ?_;rintro e y5 ⟨rfl,hz⟩;have C5:=Hd (bcomp C4.out hz);clear hz HK4)
  | (go_at_call 44;have HK3:=C3.out;refine (HI4.out _ C3.out).mono ?_;rintro e y4 ⟨rfl,hz⟩;have C4:=Hd (bcomp C3.out hz);have K4:=Hd ((C4.out.block _ (aE HY10f.out).1).trans HY10f.out);have K4b:=Hd ((C4.out.block _ (aE HX2f.out).1).trans HX2f.out);have vg0:=row_of K4.out 0 (.int .i64 2) rfl;have vg1:=row_of K4.out 1 (.slice (some ⟨gc,0,none⟩) 2 2) rfl;have vg2:=row_of K4.out 2 (.slice none 0 0) rfl;have vg3:=row_of K4.out 3 (.slice none 0 0) rfl;have vg4:=row_of K4.out 4 (.slice xa 8 xc) rfl;have vh0:=row_of K4b.out 0 (.slice (some ⟨qa,0,none⟩) 2 2) rfl;have vh1:=row_of K4b.out 1 (.slice (some ⟨qb,0,none⟩) 1 1) rfl;have vh2:=row_of K4b.out 2 (.slice (some ⟨qc,0,none⟩) 2 2) rfl;have vh3:=row_of K4b.out 3 (.slice none 0 0) rfl;have vh4:=row_of K4b.out 4 (.bool true) rfl;have vh5:=row_of K4b.out 5 (.int .i64 20) rfl;have vh6:=row_of K4b.out 6 (.int .i64 16) rfl;have vh7:=row_of K4b.out 7 (.int .i64 0) rfl;have vh8:=row_of K4b.out 8 (.int .i64 0) rfl;clear hz HK3)
  | (go_at_call 44;have HK2:=C2.out;refine (HI3.out _ C2.out).mono ?_;rintro e y3 ⟨rfl,hz⟩;have C3:=Hd (bcomp C2.out hz);have K3b:=Hd ((C3.out.block _ (aE HX2f.out).1).trans HX2f.out);have vf0:=row_of K3b.out 0 (.slice (some ⟨qa,0,none⟩) 2 2) rfl;have vf1:=row_of K3b.out 1 (.slice (some ⟨qb,0,none⟩) 1 1) rfl;have vf2:=row_of K3b.out 2 (.slice (some ⟨qc,0,none⟩) 2 2) rfl;have vf3:=row_of K3b.out 3 (.slice none 0 0) rfl;have vf4:=row_of K3b.out 4 (.bool true) rfl;have vf5:=row_of K3b.out 5 (.int .i64 20) rfl;have vf6:=row_of K3b.out 6 (.int .i64 16) rfl;have vf7:=row_of K3b.out 7 (.int .i64 0) rfl;have vf8:=row_of K3b.out 8 (.int .i64 0) rfl;clear hz HK2)
  | (go_at_call 44;have HK1:=C1.out;refine (HI2.out _ C1.out).mono ?_;rintro e y2 ⟨rfl,hz⟩;have C2:=Hd (bcomp C1.out hz);have K2:=Hd ((C2.out.block _ (aE HX1f.out).1).trans HX1f.out);have ve0:=row_of K2.out 0 (.int .i64 2) rfl;have ve1:=row_of K2.out 1 (.slice (some ⟨ec,0,none⟩) 2 2) rfl;have ve2:=row_of K2.out 2 (.slice none 0 0) rfl;have ve3:=row_of K2.out 3 (.slice none 0 0) rfl;have ve4:=row_of K2.out 4 (.slice (some ⟨em,0,none⟩) 7 7) rfl;clear hz HK1)
  | (go_at_call 44;refine HI1.out.mono ?_;rintro e y1 ⟨rfl,hz⟩;have C1:=Hd hz;have K1:=Hd ((C1.out.block _ (aE HY9f.out).1).trans HY9f.out);have K1b:=Hd ((C1.out.block _ (aE HX2f.out).1).trans HX2f.out);have vc0:=row_of K1.out 0 (.int .i64 2) rfl;have vc1:=row_of K1.out 1 (.slice ya 3 yc) rfl;have vc2:=row_of K1.out 2 (.slice none 0 0) rfl;have vc3:=row_of K1.out 3 (.slice none 0 0) rfl;have vc4:=row_of K1.out 4 (.slice (some ⟨fm,0,none⟩) 7 7) rfl;have vd0:=row_of K1b.out 0 (.slice (some ⟨qa,0,none⟩) 2 2) rfl;have vd1:=row_of K1b.out 1 (.slice (some ⟨qb,0,none⟩) 1 1) rfl;have vd2:=row_of K1b.out 2 (.slice (some ⟨qc,0,none⟩) 2 2) rfl;have vd3:=row_of K1b.out 3 (.slice none 0 0) rfl;have vd4:=row_of K1b.out 4 (.bool true) rfl;have vd5:=row_of K1b.out 5 (.int .i64 20) rfl;have vd6:=row_of K1b.out 6 (.int .i64 16) rfl;have vd7:=row_of K1b.out 7 (.int .i64 0) rfl;have vd8:=row_of K1b.out 8 (.int .i64 0) rfl;clear hz))
 go_ret
 exact ⟨rfl,bcomp HBg.out C5.out⟩
end Go.Proofs.YtgllkgedjplpdaaGreatDoor
