/- The program E1 and the policy P1 of the document, as the law makes them, and what the law asks of rules.Check. Condition: what comes in reads as the plain data; the tables hold what they are laid with. -/
import Derived.Test.YtgllkgedjplpdaaGreatDoorRuD
set_option linter.all false
set_option maxRecDepth 1000000
set_option maxHeartbeats 12800000
set_option linter.unusedVariables false
set_option linter.unusedSimpArgs false
namespace Go.Proofs.YtgllkgedjplpdaaGreatDoor
open Go.ChangeShapes Go.WideShapes Go.ChangeAt Go.RowKit
abbrev s029:ByteArray:=⟨#[]⟩
abbrev sH29:ByteArray:=⟨#[104]⟩
abbrev sB29:ByteArray:=⟨#[98]⟩
abbrev sL29:ByteArray:=⟨#[76]⟩
abbrev pub29:ByteArray:=⟨#[112,117,98]⟩
abbrev sec29:ByteArray:=⟨#[115,101,99]⟩
abbrev low29:ByteArray:=⟨#[108,111,119]⟩
abbrev high29:ByteArray:=⟨#[104,105,103,104]⟩
def e1I:List InstrD:=[⟨5,0,sH29,sec29,[],5,1⟩,⟨1,15,sB29,s029,[⟨sH29,0⟩,⟨s029,3⟩],6,1⟩,⟨9,0,s029,sL29,[⟨sB29,0⟩],7,1⟩,⟨6,0,s029,pub29,[⟨s029,1⟩],8,1⟩,⟨11,0,s029,s029,[],9,1⟩,⟨10,0,s029,sL29,[],10,1⟩,⟨6,0,s029,pub29,[⟨s029,1⟩],11,1⟩]
def e1P:ProgD:=⟨2,[pub29,sec29],[],[],e1I⟩
def p1P:PolD:=⟨[low29,high29],[(0,1)],[⟨pub29,0⟩,⟨sec29,1⟩],[],true,20,16,0,0⟩
theorem own_whole {w:World} {base g n size:Nat} {e:TypeId} {xs:List Value} (h:w.heap[g]?=some (.cells xs.toArray e (0,0))) (hl:xs.length=n * size) (hb:base<=g) (hn:n<=maxLen):w.ownsRow base e size (.slice (some ⟨g,0,none⟩) n n) n xs:=
 ⟨hl,.inr ⟨g,n,xs.toArray,rfl,hb,h,nR _,hn,by simp [hl],by simp [<- hl]⟩⟩
theorem args_whole {w:World} {g base:Nat} {l:List ArgD} (hb:base<=g) (h:w.heap[g]?=some (.cells (l.flatMap argCells).toArray 47 (0,0))) (hl:l.length<=1000) (hs:∀ s ∈ l,InU64 s.num/\s.name.size<=maxLen):RdArgs (some (upFrom base)) w (.slice (some ⟨g,0,none⟩) l.length l.length) l:=
 own_args (base:=base) (own_whole h (by rw [flat_length argCells 2 (fun _=>rfl)]) hb (by unfold maxLen;omega)) (by omega) hs
theorem args_noneR (lo:Option (Nat->Prop)) (w:World):RdArgs lo w (.slice none 0 0) []:=⟨none,0,rfl,by simp,fun i s h=>by simp at h⟩
theorem posAt (n:Int) (w:World):Calls Tryz.prog 45 #[.int .i64 n] w fun e w'=>e=.returned (.agg #[.int .i64 n,.int .i64 1])/\Below w.heap.size w w':=by
 go_enter Tryz.func45,Tryz.ntmps45
 go_wp2_with fail
 exact bodyPost_ret (v:=.agg #[.int .i64 n,.int .i64 1]) (results_cell_row (P:=Tryz.prog) (fn:=Tryz.f45) rfl _ _ w.heap.size 35 _ (0,0) _ rfl (heap_alloc_new _ _) Tryz.underlying35 rfl (by kernel_rfl)) rfl ⟨rfl,(bR _ _).alloc (nR _) _⟩
theorem e1_ok:∀ x ∈ e1I,InU8 x.kind/\InU8 x.op/\InI64 x.line/\InI64 x.col/\x.dst.size<=maxLen/\x.name.size<=maxLen:=by
 intro x hx
 simp only [e1I,List.mem_cons,List.not_mem_nil,or_false] at hx
 rcases hx with rfl|rfl|rfl|rfl|rfl|rfl|rfl <;> exact ⟨⟨by decide,by decide⟩,⟨by decide,by decide⟩,⟨by decide,by decide⟩,⟨by decide,by decide⟩,by decide,by decide⟩
def OwnP (base:Nat) (w:World) (p:ProgD) (cv mv:Value):Prop:=∃ P:List (InstrD × Value),w.ownsRow base 9 1 cv p.chans.length (p.chans.flatMap strCells)/\P.map Prod.fst=p.main/\w.ownsRow base 50 7 mv p.main.length (P.flatMap insCells)/\(∀ q ∈ P,RdInstr (some (upFrom base)) w q.1 q.2)
theorem OwnP.keep {base:Nat} {w w':World} {p:ProgD} {cv mv:Value} (h:OwnP base w p cv mv) (k:Below w.heap.size w w'):OwnP base w' p cv mv:=by
 obtain ⟨P,h1,h2,h3,h4⟩:=h
 exact ⟨P,own_below h1 k,h2,own_below h3 k,fun q hq=>(h4 q hq).keep k⟩
theorem OwnP.turn {base:Nat} {w w':World} {p:ProgD} {cv mv:Value} {S:Nat->Prop} (h:OwnP base w p cv mv) (k:Turned S w w') (hc:∀ b,cv.ownBlock=some b->¬ S b) (hm:∀ b,mv.ownBlock=some b->¬ S b) (ha:∀ b cs,base<=b->w.heap[b]?=some (.cells cs 47 (0,0))->¬ S b):OwnP base w' p cv mv:=by
 obtain ⟨P,h1,h2,h3,h4⟩:=h
 refine ⟨P,own_turn h1 k hc,h2,own_turn h3 k hm,fun q hq=>?_⟩
 refine RdInstr.map (S:=fun T=>T=47) (fun T b hT hb hf=>?_) (fun T b o u hT hf hcc=>?_) rfl (h4 q hq)
 ·obtain ⟨h1,cs,h2⟩:=hf _ rfl
  subst hT
  exact Free.of h1 ((k.block b hb (ha b cs h1 h2)).trans h2)
 ·obtain ⟨h1,cs,h2⟩:=hf _ rfl
  subst hT
  exact k.cell hcc (ha b cs h1 h2)
theorem OwnP.rd {base:Nat} {w:World} {p:ProgD} {cv mv:Value} (h:OwnP base w p cv mv) (hc:∀ s ∈ p.chans,s.size<=maxLen) (h0:p.arrays=[]/\p.funcs=[]) (hw:InI64 p.width) (hl:p.chans.length<=1000/\p.main.length<=100000):RdProg none w p cv (.slice none 0 0) (.slice none 0 0) mv:=by
 obtain ⟨P,h1,h2,h3,h4⟩:=h
 obtain ⟨ha,hf⟩:=h0
 refine ⟨(own_strs h1 (by omega) hc).forget,?_,?_,own_instrsN h2 h3 (by omega) (fun q hq=>(h4 q hq).forget),hw⟩
 ·rw [ha];exact ⟨none,0,rfl,by simp,fun i s h=>by simp at h⟩
 ·rw [hf];exact ⟨none,0,rfl,by simp,fun i s h=>by simp at h⟩
theorem heap4_ofU (w:World) (A B C D:Obj):((((w.alloc A).alloc B).alloc C).alloc D).heap[w.heap.size]?=some A/\((((w.alloc A).alloc B).alloc C).alloc D).heap[w.heap.size+1]?=some B/\((((w.alloc A).alloc B).alloc C).alloc D).heap[w.heap.size+1+1]?=some C/\((((w.alloc A).alloc B).alloc C).alloc D).heap[w.heap.size+1+1+1]?=some D/\Below w.heap.size w ((((w.alloc A).alloc B).alloc C).alloc D):=by
 have h1:=heap2_of (w:=w) (A:=A) (B:=B) (((bR ((w.alloc A).alloc B).heap.size ((w.alloc A).alloc B)).alloc (nR _) C).alloc (by simp) D)
 have h2:=heap2_of (w:=(w.alloc A).alloc B) (A:=C) (B:=D) (bR _ _)
 have hs:((w.alloc A).alloc B).heap.size=w.heap.size+1+1:=by simp
 rw [hs] at h2
 exact ⟨h1.1,h1.2.1,h2.1,h2.2.1,h1.2.2⟩
theorem e1_make (w:World):Calls Tryz.prog 14 #[] w fun e w'=>∃ c m,e=.returned (.agg #[.int .i64 2,.slice (some ⟨c,0,none⟩) 2 2,.slice none 0 0,.slice none 0 0,.slice (some ⟨m,0,none⟩) 7 7])/\OwnP w.heap.size w' e1P (.slice (some ⟨c,0,none⟩) 2 2) (.slice (some ⟨m,0,none⟩) 7 7)/\Below w.heap.size w w':=by
 have HB0:=Hd ((bR w.heap.size w).alloc (nR _) (.cells #[.int .i64 0,.slice none 0 0,.slice none 0 0,.slice none 0 0,.slice none 0 0] 27))
 have HG0:=Hd (heap_alloc_new w (.cells #[.int .i64 0,.slice none 0 0,.slice none 0 0,.slice none 0 0,.slice none 0 0] 27))
 go_enter Tryz.func14,Tryz.ntmps14
 go_upto_region 2 with fail
 generalize w.alloc (.cells #[.int .i64 0,.slice none 0 0,.slice none 0 0,.slice none 0 0,.slice none 0 0] 27)=W0 at *
 obtain ⟨rb,hrb⟩:∃ rb,w.heap.size=rb:=⟨_,rfl⟩
 have HRB:=Hd hrb
 rw [hrb] at HG0
 rw [hrb]
 clear hrb
 obtain ⟨ha,hb,h2⟩:=heap2_of (w:=W0) (A:=.cells #[.string sH29,.int .u64 0,.string s029,.int .u64 3] 47) (B:=.cells #[.string sB29,.int .u64 0] 47) (bR _ _)
 have HA:=Hd ha
 have HBa:=Hd hb
 have HB2:=Hd h2
 clear ha hb h2
 go_upto_region 3 with fail
 generalize (W0.alloc (.cells #[.string sH29,.int .u64 0,.string s029,.int .u64 3] 47)).alloc (.cells #[.string sB29,.int .u64 0] 47)=W2 at *
 obtain ⟨a1,ha1⟩:∃ a,W0.heap.size=a:=⟨_,rfl⟩
 rw [ha1] at HA HBa
 rw [ha1]
 have HA1:=Hd ha1
 clear ha1
 obtain ⟨a2,ha2⟩:∃ a,a1+1=a:=⟨_,rfl⟩
 rw [ha2] at HBa
 rw [ha2]
 have HA2:=Hd ha2
 clear ha2
 have HBC:=Hd ((bR W2.heap.size W2).alloc (nR _) (.cells #[.string pub29,.string sec29] 9))
 have HGC:=Hd (heap_alloc_new W2 (.cells #[.string pub29,.string sec29] 9))
 have hr0:rb<W0.heap.size:=(aE HG0.out).1
 have HR0:=Hd hr0
 clear hr0
 go_wp2_with (first
  | (go_at_call 45;refine (posAt 5 _).mono ?_;rintro e z1 ⟨rfl,hz1⟩;have B1:=Hd (bcomp HBC.out hz1);have G1:=Hd ((hz1.block _ (aE HGC.out).1).trans HGC.out);clear hz1)
  | (go_at_call 45;refine (posAt 6 _).mono ?_;rintro e z2 ⟨rfl,hz2⟩;have B2:=Hd (bcomp B1.out hz2);have G2:=Hd ((hz2.block _ (aE G1.out).1).trans G1.out);clear hz2)
  | (go_at_call 45;refine (posAt 7 _).mono ?_;rintro e z3 ⟨rfl,hz3⟩;have B3:=Hd (bcomp B2.out hz3);have G3:=Hd ((hz3.block _ (aE G2.out).1).trans G2.out);have HD:=Hd (heap_alloc_new z3 (.cells #[.string s029,.int .u64 1] 47));have BD:=Hd ((bR z3.heap.size z3).alloc (nR _) (.cells #[.string s029,.int .u64 1] 47));clear hz3)
  | (go_at_call 45;refine (posAt 8 _).mono ?_;rintro e z4 ⟨rfl,hz4⟩;have B4:=Hd (bcomp (bcomp B3.out BD.out) hz4);have G4:=Hd (((bcomp BD.out hz4).block _ (aE G3.out).1).trans G3.out);have D4:=Hd ((hz4.block _ (aE HD.out).1).trans HD.out);clear hz4)
  | (go_at_call 45;refine (posAt 9 _).mono ?_;rintro e z5 ⟨rfl,hz5⟩;have B5:=Hd (bcomp B4.out hz5);have G5:=Hd ((hz5.block _ (aE G4.out).1).trans G4.out);have D5:=Hd ((hz5.block _ (aE D4.out).1).trans D4.out);clear hz5)
  | (go_at_call 45;refine (posAt 10 _).mono ?_;rintro e z6 ⟨rfl,hz6⟩;have B6:=Hd (bcomp B5.out hz6);have G6:=Hd ((hz6.block _ (aE G5.out).1).trans G5.out);have D6:=Hd ((hz6.block _ (aE D5.out).1).trans D5.out);have HE:=Hd (heap_alloc_new z6 (.cells #[.string s029,.int .u64 1] 47));have BE:=Hd ((bR z6.heap.size z6).alloc (nR _) (.cells #[.string s029,.int .u64 1] 47));clear hz6)
  | (go_at_call 45;refine (posAt 11 _).mono ?_;rintro e z7 ⟨rfl,hz7⟩;have B7:=Hd (bcomp (bcomp B6.out BE.out) hz7);have G7:=Hd (((bcomp BE.out hz7).block _ (aE G6.out).1).trans G6.out);have D7:=Hd (((bcomp BE.out hz7).block _ (aE D6.out).1).trans D6.out);have E7:=Hd ((hz7.block _ (aE HE.out).1).trans HE.out);have HI:=Hd (heap_alloc_new z7 (.cells #[.int .u8 5,.int .u8 0,.string sH29,.string sec29,.slice none 0 0,.int .i64 5,.int .i64 1,.int .u8 1,.int .u8 15,.string sB29,.string s029,.slice (some ⟨a1,0,none⟩) 2 2,.int .i64 6,.int .i64 1,.int .u8 9,.int .u8 0,.string s029,.string sL29,.slice (some ⟨a2,0,none⟩) 1 1,.int .i64 7,.int .i64 1,.int .u8 6,.int .u8 0,.string s029,.string pub29,.slice (some ⟨z3.heap.size,0,none⟩) 1 1,.int .i64 8,.int .i64 1,.int .u8 11,.int .u8 0,.string s029,.string s029,.slice none 0 0,.int .i64 9,.int .i64 1,.int .u8 10,.int .u8 0,.string s029,.string sL29,.slice none 0 0,.int .i64 10,.int .i64 1,.int .u8 6,.int .u8 0,.string s029,.string pub29,.slice (some ⟨z6.heap.size,0,none⟩) 1 1,.int .i64 11,.int .i64 1] 50));have BI:=Hd ((bR z7.heap.size z7).alloc (nR _) (.cells #[.int .u8 5,.int .u8 0,.string sH29,.string sec29,.slice none 0 0,.int .i64 5,.int .i64 1,.int .u8 1,.int .u8 15,.string sB29,.string s029,.slice (some ⟨a1,0,none⟩) 2 2,.int .i64 6,.int .i64 1,.int .u8 9,.int .u8 0,.string s029,.string sL29,.slice (some ⟨a2,0,none⟩) 1 1,.int .i64 7,.int .i64 1,.int .u8 6,.int .u8 0,.string s029,.string pub29,.slice (some ⟨z3.heap.size,0,none⟩) 1 1,.int .i64 8,.int .i64 1,.int .u8 11,.int .u8 0,.string s029,.string s029,.slice none 0 0,.int .i64 9,.int .i64 1,.int .u8 10,.int .u8 0,.string s029,.string sL29,.slice none 0 0,.int .i64 10,.int .i64 1,.int .u8 6,.int .u8 0,.string s029,.string pub29,.slice (some ⟨z6.heap.size,0,none⟩) 1 1,.int .i64 11,.int .i64 1] 50));have BF:=Hd (bcomp HB2.out (bcomp B7.out BI.out));have KEY:=Hd ((BF.out.block rb HR0.out).trans HG0.out);clear hz7)
  | (refine wpList_store_row rfl 27 (.tmp 0) (.tmp 38) rfl rb #[.int .i64 2,.slice (some ⟨W2.heap.size,0,none⟩) 2 2,.slice none 0 0,.slice none 0 0,.slice (some ⟨z7.heap.size,0,none⟩) 7 7] rfl rfl 27 #[.int .i64 0,.slice none 0 0,.slice none 0 0,.slice none 0 0,.slice none 0 0] ?hs0 (by as_aux_lemma=>kernel_rfl) (by as_aux_lemma=>kernel_rfl) (by as_aux_lemma=>kernel_rfl) ?_;exact KEY.out))
 have hne:∀ b,W0.heap.size<=b->b ≠ rb:=fun b hb e=>by have:=HR0.out;omega
 have hk:∀ {b:Nat} {o:Obj},W0.heap.size<=b->(z7.alloc (.cells #[.int .u8 5,.int .u8 0,.string sH29,.string sec29,.slice none 0 0,.int .i64 5,.int .i64 1,.int .u8 1,.int .u8 15,.string sB29,.string s029,.slice (some ⟨a1,0,none⟩) 2 2,.int .i64 6,.int .i64 1,.int .u8 9,.int .u8 0,.string s029,.string sL29,.slice (some ⟨a2,0,none⟩) 1 1,.int .i64 7,.int .i64 1,.int .u8 6,.int .u8 0,.string s029,.string pub29,.slice (some ⟨z3.heap.size,0,none⟩) 1 1,.int .i64 8,.int .i64 1,.int .u8 11,.int .u8 0,.string s029,.string s029,.slice none 0 0,.int .i64 9,.int .i64 1,.int .u8 10,.int .u8 0,.string s029,.string sL29,.slice none 0 0,.int .i64 10,.int .i64 1,.int .u8 6,.int .u8 0,.string s029,.string pub29,.slice (some ⟨z6.heap.size,0,none⟩) 1 1,.int .i64 11,.int .i64 1] 50)).heap[b]?=some o->((z7.alloc (.cells #[.int .u8 5,.int .u8 0,.string sH29,.string sec29,.slice none 0 0,.int .i64 5,.int .i64 1,.int .u8 1,.int .u8 15,.string sB29,.string s029,.slice (some ⟨a1,0,none⟩) 2 2,.int .i64 6,.int .i64 1,.int .u8 9,.int .u8 0,.string s029,.string sL29,.slice (some ⟨a2,0,none⟩) 1 1,.int .i64 7,.int .i64 1,.int .u8 6,.int .u8 0,.string s029,.string pub29,.slice (some ⟨z3.heap.size,0,none⟩) 1 1,.int .i64 8,.int .i64 1,.int .u8 11,.int .u8 0,.string s029,.string s029,.slice none 0 0,.int .i64 9,.int .i64 1,.int .u8 10,.int .u8 0,.string s029,.string sL29,.slice none 0 0,.int .i64 10,.int .i64 1,.int .u8 6,.int .u8 0,.string s029,.string pub29,.slice (some ⟨z6.heap.size,0,none⟩) 1 1,.int .i64 11,.int .i64 1] 50)).setRow rb #[.int .i64 2,.slice (some ⟨W2.heap.size,0,none⟩) 2 2,.slice none 0 0,.slice none 0 0,.slice (some ⟨z7.heap.size,0,none⟩) 7 7]).heap[b]?=some o:=fun hb h=>(setRow_other _ _ _ _ (hne _ hb)).trans h
 have s2:W0.heap.size<=W2.heap.size:=HB2.out.size
 have s3:=B3.out.size
 have s6:=B6.out.size
 have s7:=B7.out.size
 have hA:=hk (b:=a1) (Nat.le_of_eq HA1.out) (((bcomp B7.out BI.out).block _ (aE HA.out).1).trans HA.out)
 have hBb:=hk (b:=a2) (by have:=HA2.out;have:=HA1.out;omega) (((bcomp B7.out BI.out).block _ (aE HBa.out).1).trans HBa.out)
 have hS:=hk (b:=W2.heap.size) s2 ((BI.out.block _ (aE G7.out).1).trans G7.out)
 have hD:=hk (b:=z3.heap.size) (Nat.le_trans s2 s3) ((BI.out.block _ (aE D7.out).1).trans D7.out)
 have hE:=hk (b:=z6.heap.size) (Nat.le_trans s2 s6) ((BI.out.block _ (aE E7.out).1).trans E7.out)
 have hI:=hk (b:=z7.heap.size) (Nat.le_trans s2 s7) HI.out
 have s0:rb<=W0.heap.size:=Nat.le_of_lt HR0.out
 have hbw:Below w.heap.size w ((z7.alloc (.cells #[.int .u8 5,.int .u8 0,.string sH29,.string sec29,.slice none 0 0,.int .i64 5,.int .i64 1,.int .u8 1,.int .u8 15,.string sB29,.string s029,.slice (some ⟨a1,0,none⟩) 2 2,.int .i64 6,.int .i64 1,.int .u8 9,.int .u8 0,.string s029,.string sL29,.slice (some ⟨a2,0,none⟩) 1 1,.int .i64 7,.int .i64 1,.int .u8 6,.int .u8 0,.string s029,.string pub29,.slice (some ⟨z3.heap.size,0,none⟩) 1 1,.int .i64 8,.int .i64 1,.int .u8 11,.int .u8 0,.string s029,.string s029,.slice none 0 0,.int .i64 9,.int .i64 1,.int .u8 10,.int .u8 0,.string s029,.string sL29,.slice none 0 0,.int .i64 10,.int .i64 1,.int .u8 6,.int .u8 0,.string s029,.string pub29,.slice (some ⟨z6.heap.size,0,none⟩) 1 1,.int .i64 11,.int .i64 1] 50)).setRow rb #[.int .i64 2,.slice (some ⟨W2.heap.size,0,none⟩) 2 2,.slice none 0 0,.slice none 0 0,.slice (some ⟨z7.heap.size,0,none⟩) 7 7]):=below_row (bcomp HB0.out BF.out) (by have:=HRB.out;omega) _
 refine bodyPost_ret (v:=.agg #[.int .i64 2,.slice (some ⟨W2.heap.size,0,none⟩) 2 2,.slice none 0 0,.slice none 0 0,.slice (some ⟨z7.heap.size,0,none⟩) 7 7]) ?_ rfl ⟨W2.heap.size,z7.heap.size,rfl,⟨[(⟨5,0,sH29,sec29,[],5,1⟩,.slice none 0 0),(⟨1,15,sB29,s029,[⟨sH29,0⟩,⟨s029,3⟩],6,1⟩,.slice (some ⟨a1,0,none⟩) 2 2),(⟨9,0,s029,sL29,[⟨sB29,0⟩],7,1⟩,.slice (some ⟨a2,0,none⟩) 1 1),(⟨6,0,s029,pub29,[⟨s029,1⟩],8,1⟩,.slice (some ⟨z3.heap.size,0,none⟩) 1 1),(⟨11,0,s029,s029,[],9,1⟩,.slice none 0 0),(⟨10,0,s029,sL29,[],10,1⟩,.slice none 0 0),(⟨6,0,s029,pub29,[⟨s029,1⟩],11,1⟩,.slice (some ⟨z6.heap.size,0,none⟩) 1 1)],?_,rfl,?_,?_⟩,hbw⟩
 ·try simp only [Act.put]
  exact results_cell_row (P:=Tryz.prog) (fn:=Tryz.f14) rfl _ _ rb 27 _ (0,0) _ rfl (setRow_heap _ _ _ _ _ _ KEY.out) Tryz.underlying27 rfl (by kernel_rfl)
 ·exact own_whole (xs:=[.string pub29,.string sec29]) hS rfl (by have:=HRB.out;omega) (by unfold maxLen;omega)
 ·exact own_whole (n:=7) (size:=7) (xs:=([(⟨5,0,sH29,sec29,[],5,1⟩,.slice none 0 0),(⟨1,15,sB29,s029,[⟨sH29,0⟩,⟨s029,3⟩],6,1⟩,.slice (some ⟨a1,0,none⟩) 2 2),(⟨9,0,s029,sL29,[⟨sB29,0⟩],7,1⟩,.slice (some ⟨a2,0,none⟩) 1 1),(⟨6,0,s029,pub29,[⟨s029,1⟩],8,1⟩,.slice (some ⟨z3.heap.size,0,none⟩) 1 1),(⟨11,0,s029,s029,[],9,1⟩,.slice none 0 0),(⟨10,0,s029,sL29,[],10,1⟩,.slice none 0 0),(⟨6,0,s029,pub29,[⟨s029,1⟩],11,1⟩,.slice (some ⟨z6.heap.size,0,none⟩) 1 1)]:List (InstrD × Value)).flatMap insCells) hI rfl (by have:=HRB.out;omega) (by unfold maxLen;omega)
 ·intro q hq
  simp only [List.mem_cons,List.not_mem_nil,or_false] at hq
  rcases hq with rfl|rfl|rfl|rfl|rfl|rfl|rfl
  ·exact ⟨args_noneR _ _,e1_ok _ (List.mem_of_getElem? (i:=0) rfl)⟩
  ·exact ⟨args_whole (l:=[⟨sH29,0⟩,⟨s029,3⟩]) (by have:=HRB.out;have:=HA1.out;omega) hA (by decide) (by intro s hs;simp only [List.mem_cons,List.not_mem_nil,or_false] at hs;rcases hs with rfl|rfl <;> exact ⟨⟨by decide,by decide⟩,by decide⟩),e1_ok _ (List.mem_of_getElem? (i:=1) rfl)⟩
  ·exact ⟨args_whole (l:=[⟨sB29,0⟩]) (by have:=HRB.out;have:=HA1.out;have:=HA2.out;omega) hBb (by decide) (by intro s hs;simp only [List.mem_cons,List.not_mem_nil,or_false] at hs;subst hs;exact ⟨⟨by decide,by decide⟩,by decide⟩),e1_ok _ (List.mem_of_getElem? (i:=2) rfl)⟩
  ·exact ⟨args_whole (l:=[⟨s029,1⟩]) (by have:=HRB.out;omega) hD (by decide) (by intro s hs;simp only [List.mem_cons,List.not_mem_nil,or_false] at hs;subst hs;exact ⟨⟨by decide,by decide⟩,by decide⟩),e1_ok _ (List.mem_of_getElem? (i:=3) rfl)⟩
  ·exact ⟨args_noneR _ _,e1_ok _ (List.mem_of_getElem? (i:=4) rfl)⟩
  ·exact ⟨args_noneR _ _,e1_ok _ (List.mem_of_getElem? (i:=5) rfl)⟩
  ·exact ⟨args_whole (l:=[⟨s029,1⟩]) (by have:=HRB.out;omega) hE (by decide) (by intro s hs;simp only [List.mem_cons,List.not_mem_nil,or_false] at hs;subst hs;exact ⟨⟨by decide,by decide⟩,by decide⟩),e1_ok _ (List.mem_of_getElem? (i:=6) rfl)⟩
theorem row_wholeR {α:Type} (K:Kind α) {w:World} {g:Nat} {l:List α} (h:w.heap[g]?=some (.cells (l.flatMap K.cells).toArray K.T (0,0))) (hl:l.length * K.bytes<=140737488351232) (hn:l.length<=1000000) (hs:∀ s ∈ l,K.ok s):RdRow K none w (.slice (some ⟨g,0,none⟩) l.length l.length) l:=
 (own_rows (base:=g) (own_whole h (by rw [flat_length K.cells K.sz K.len]) (nR _) (by unfold maxLen;omega)) hl hs).forget
theorem p1_make (w:World):Calls Tryz.prog 15 #[] w fun e w'=>∃ a b c,e=.returned (polV p1P (.slice (some ⟨a,0,none⟩) 2 2) (.slice (some ⟨b,0,none⟩) 1 1) (.slice (some ⟨c,0,none⟩) 2 2) (.slice none 0 0))/\RdPol none w' p1P (.slice (some ⟨a,0,none⟩) 2 2) (.slice (some ⟨b,0,none⟩) 1 1) (.slice (some ⟨c,0,none⟩) 2 2) (.slice none 0 0)/\Below w.heap.size w w':=by
 go_enter Tryz.func15,Tryz.ntmps15
 go_wp2_with fail
 obtain ⟨x1,x2,x3,x4,x5⟩:=heap4_ofU w (.cells #[.slice (some ⟨w.heap.size+1,0,none⟩) 2 2,.slice (some ⟨w.heap.size+1+1,0,none⟩) 1 1,.slice (some ⟨w.heap.size+1+1+1,0,none⟩) 2 2,.slice none 0 0,.bool true,.int .i64 20,.int .i64 16,.int .i64 0,.int .i64 0] 31 (0,0)) (.cells #[.string low29,.string high29] 9 (0,0)) (.cells #[.int .i64 0,.int .i64 1] 93 (0,0)) (.cells #[.string pub29,.int .i64 0,.string sec29,.int .i64 1] 54 (0,0))
 refine bodyPost_ret (v:=polV p1P (.slice (some ⟨w.heap.size+1,0,none⟩) 2 2) (.slice (some ⟨w.heap.size+1+1,0,none⟩) 1 1) (.slice (some ⟨w.heap.size+1+1+1,0,none⟩) 2 2) (.slice none 0 0)) (results_cell_row (P:=Tryz.prog) (fn:=Tryz.f15) rfl _ _ w.heap.size 31 _ (0,0) _ rfl x1 Tryz.underlying31 rfl (by kernel_rfl)) rfl ⟨_,_,_,rfl,?_,x5⟩
 refine ⟨row_wholeR kStr (l:=[low29,high29]) x2 (by decide) (by decide) ?_,row_wholeR kPair (l:=[(0,1)]) x3 (by decide) (by decide) ?_,row_wholeR kBind (l:=[⟨pub29,0⟩,⟨sec29,1⟩]) x4 (by decide) (by decide) ?_,nilRow _ _ _,⟨by decide,by decide⟩,⟨by decide,by decide⟩,⟨by decide,by decide⟩,⟨by decide,by decide⟩⟩
 ·intro s hs;simp only [List.mem_cons,List.not_mem_nil,or_false] at hs;rcases hs with rfl|rfl <;> decide
 ·intro s hs;simp only [List.mem_cons,List.not_mem_nil,or_false] at hs;subst hs;exact ⟨⟨by decide,by decide⟩,⟨by decide,by decide⟩⟩
 ·intro s hs;simp only [List.mem_cons,List.not_mem_nil,or_false] at hs;rcases hs with rfl|rfl <;> exact ⟨by decide,⟨by decide,by decide⟩⟩
theorem is29 (p:ProgD) (pc pa pf pm:Value) (q:PolD) (lv ov cv sv:Value) (l c e0:Int) (w:World) (h:RdProg none w p pc pa pf pm) (g:RdPol none w q lv ov cv sv) (hL:Laid w) (hT:BitsAt w) (hR:rulesC p q=((l,c),e0)) :
  Calls Tryz.prog 44 #[progV p pc pa pf pm,polV q lv ov cv sv,.int .i64 l,.int .i64 c,.int .i64 e0] w fun e w'=>e=.returned (.bool true)/\Below w.heap.size w w':=by
 obtain ⟨ac,kc,rfl,-,-⟩:=id h.1
 obtain ⟨aa,ka,rfl,-,-⟩:=id h.2.1
 obtain ⟨af,kf,rfl,-,-⟩:=id h.2.2.1
 obtain ⟨am,km,rfl,-,-⟩:=id h.2.2.2.1
 obtain ⟨la,lc,rfl⟩:=g.1.is
 obtain ⟨oa,oc,rfl⟩:=g.2.1.is
 obtain ⟨ca,cc,rfl⟩:=g.2.2.1.is
 obtain ⟨sa,sc,rfl⟩:=g.2.2.2.1.is
 obtain ⟨hx0,hx1,hb0⟩:=heap2_of (w:=w) (A:=.cells #[.int .i64 p.width,.slice ac p.chans.length kc,.slice aa p.arrays.length ka,.slice af p.funcs.length kf,.slice am p.main.length km] 27) (B:=.cells #[.slice la q.levels.length lc,.slice oa q.order.length oc,.slice ca q.chans.length cc,.slice sa q.sites.length sc,.bool q.sens,.int .i64 q.steps,.int .i64 q.paths,.int .i64 q.nodes,.int .i64 q.confs] 31) (bR _ _)
 have hc:=rulesCheck p _ _ _ _ q _ _ _ _ _ (h.keep hb0) (g.keep hb0) (hL.keep hb0) (hT.keep hb0)
 rw [hR] at hc
 have HC:=Hd hc
 have HB0:=Hd hb0
 have c0:=row_of hx0 0 (.int .i64 p.width) rfl
 have c1:=row_of hx0 1 (.slice ac p.chans.length kc) rfl
 have c2:=row_of hx0 2 (.slice aa p.arrays.length ka) rfl
 have c3:=row_of hx0 3 (.slice af p.funcs.length kf) rfl
 have c4:=row_of hx0 4 (.slice am p.main.length km) rfl
 have d0:=row_of hx1 0 (.slice la q.levels.length lc) rfl
 have d1:=row_of hx1 1 (.slice oa q.order.length oc) rfl
 have d2:=row_of hx1 2 (.slice ca q.chans.length cc) rfl
 have d3:=row_of hx1 3 (.slice sa q.sites.length sc) rfl
 have d4:=row_of hx1 4 (.bool q.sens) rfl
 have d5:=row_of hx1 5 (.int .i64 q.steps) rfl
 have d6:=row_of hx1 6 (.int .i64 q.paths) rfl
 have d7:=row_of hx1 7 (.int .i64 q.nodes) rfl
 have d8:=row_of hx1 8 (.int .i64 q.confs) rfl
 have h1:(l == l)=true:=by simp
 have h2:(c == c)=true:=by simp
 have h3:(e0 == e0)=true:=by simp
 clear h g hL hT hR hc hx0 hx1 hb0
 go_enter Tryz.func44,Tryz.ntmps44
 go_upto_region 1 with fail
 generalize (w.alloc (.cells #[.int .i64 p.width,.slice ac p.chans.length kc,.slice aa p.arrays.length ka,.slice af p.funcs.length kf,.slice am p.main.length km] 27)).alloc (.cells #[.slice la q.levels.length lc,.slice oa q.order.length oc,.slice ca q.chans.length cc,.slice sa q.sites.length sc,.bool q.sens,.int .i64 q.steps,.int .i64 q.paths,.int .i64 q.nodes,.int .i64 q.confs] 31)=W at *
 go_upto_region 2 with (go_at_call 9;refine HC.out.mono ?_;rintro e w1 ⟨rfl,hz⟩;have B1:=Hd hz;clear hz)
 clear c0 c1 c2 c3 c4 d0 d1 d2 d3 d4 d5 d6 d7 d8 HC
 have HB2:Hid (Below w.heap.size w (w1.alloc (.cells #[.int .i64 l,.int .i64 c] 35))):=bcomp HB0.out (B1.out.alloc B1.out.size _)
 go_wp2_with fail
 go_ret
 exact ⟨rfl,HB2.out⟩
end Go.Proofs.YtgllkgedjplpdaaGreatDoor
