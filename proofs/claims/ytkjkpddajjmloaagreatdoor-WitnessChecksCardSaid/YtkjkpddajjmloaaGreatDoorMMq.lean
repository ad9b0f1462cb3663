/- Contract of the program's Run, and plain lemmas on runs of several steps. Conditions: what comes in reads as the flat program and the inputs; the tables hold what they are laid with. -/
import Derived.Test.YtkjkpddajjmloaaGreatDoorMMo
set_option linter.all false
set_option maxRecDepth 1000000
set_option maxHeartbeats 6400000
namespace Go.Proofs.YtkjkpddajjmloaaGreatDoor
open Go.ChangeShapes Go.WideShapes Go.ChangeAt Go.RowKit
open Go.Lib (hid)
theorem gsMMq {α:Type} {a:Array α} {i:Nat} {v:α} (h:a[i]?=some v):i<a.size:=(Array.getElem?_eq_some_iff.1 h).1
def insM (f:FlatD) (L:List (List Int)):List (List Int):=L++List.replicate (f.chans.length-L.length) []
def errNew (f:FlatD) (n:Nat):Int:=if flatOk f then (if f.chans.length<n then 5 else 0) else 2
def errRun (f:FlatD) (n:Nat) (steps:Int):Int:=if steps<1 ∨ 65536<steps then 3 else errNew f n
def zeroT:TraceD:=⟨0,0,[],[],[],[]⟩
def runM (f:FlatD) (L:List (List Int)) (n:Nat):MachD:=iterM f (insM f L) n (newM f)
def runT (f:FlatD) (L:List (List Int)) (steps:Int):TraceD:=if errRun f L.length steps=0 then (runM f L steps.toNat).t else zeroT
theorem iterM_succ (f:FlatD) (ins:List (List Int)):∀ (n:Nat) (m:MachD),iterM f ins (n+1) m=stepM f ins (iterM f ins n m)
 | 0,m=>rfl
 | n+1,m=>iterM_succ f ins n (stepM f ins m)
theorem iterM_add (f:FlatD) (ins:List (List Int)) (k:Nat) (m:MachD):∀ n:Nat,iterM f ins (n+k) m=iterM f ins k (iterM f ins n m)
 | 0=>by rw[Nat.zero_add];rfl
 | n+1=>by
  rw[show n+1+k=(n+k)+1 by omega,iterM_succ,iterM_add f ins k m n,iterM_succ f ins n m,← iterM_succ];rfl
theorem step_end {f:FlatD} {ins:List (List Int)} {m:MachD} (h:m.t.status≠2):stepM f ins m=m:=by rw[stepM,if_neg h]
theorem iter_end {f:FlatD} {ins:List (List Int)} {m:MachD} (h:m.t.status≠2):∀ n,iterM f ins n m=m
 | 0=>rfl
 | n+1=>by show iterM f ins n (stepM f ins m)=m;rw[step_end h];exact iter_end h n
theorem doM_steps (f:FlatD) (ins:List (List Int)) (c:CodeD) (m:MachD) (k:Nat):(doM f ins c m k).t.steps=m.t.steps:=by
 unfold doM
 split <;> first|rfl|(split <;> rfl)
theorem step_steps (f:FlatD) (ins:List (List Int)) (m:MachD):(stepM f ins m).t.steps=m.t.steps ∨ (stepM f ins m).t.steps=m.t.steps+1:=by
 unfold stepM
 split
 ·split
  ·right;rw[doM_steps];rfl
  ·exact .inl rfl
 ·exact .inl rfl
theorem good_new {f:FlatD} (hh:HeadP f):Good f (newM f):=by
 have hz:InU64 0:=⟨by decide,by decide⟩
 refine⟨by simp[newM],?_,by simp[newM,Function.comp_def],?_,by simp[newM],?_,by simp[newM],by simp[newM],by simp[newM],by simp[newM],by simp[newM],.inr (.inr rfl),by simp[newM]⟩
 ·intro x hx;rw[(List.mem_replicate.1 hx).2];exact hz
 ·intro l hl x hx
  simp only[newM,List.mem_map] at hl
  obtain⟨n,_,rfl⟩:=hl
  rw[(List.mem_replicate.1 hx).2];exact hz
 ·intro x hx;simp only[newM] at hx ⊢;rw[(List.mem_replicate.1 hx).2];omega
structure Going (f:FlatD) (m:MachD) (k:Nat):Prop where
 good:Good f m
 pc0:0≤m.pc
 pc1:m.pc<f.code.length
 steps:m.t.steps≤k
theorem going_run {f:FlatD} {ins:List (List Int)} (hh:HeadP f) (hci:∀ c∈f.code,CodeIn c):∀ k,Going f (iterM f ins k (newM f)) k
 | 0=>⟨good_new hh,by simp[iterM,newM],by have:=hh.code0;simp only[iterM,newM];omega,by simp[iterM,newM]⟩
 | k+1=>by
  have h:=going_run hh hci (ins:=ins) k
  rw[iterM_succ]
  obtain⟨h1,h2,h3⟩:=step_good (ins:=ins) hh hci h.good h.pc0 h.pc1
  exact⟨h1,h2,h3,by have:=h.steps;rcases step_steps f ins (iterM f ins k (newM f)) with e|e <;> omega⟩
def NewIn (n0:Nat) (w:World) (bm:Nat) (f:FlatD) (ins:List (List Int)) (m:MachD):Prop:=MachIn (fun b=>n0≤b∧b<w.heap.size) w bm f ins m
theorem NewIn.post {n0:Nat} {w w':World} {bm:Nat} {f:FlatD} {ins:List (List Int)} {m':MachD} (hn:n0≤w.heap.size) (p:Post (fun b=>n0≤b∧b<w.heap.size) w w' bm f ins m'):NewIn n0 w' bm f ins m':=
 p.1.mono fun b hb=>hb.elim (fun h=>⟨h.1,Nat.lt_of_lt_of_le h.2 p.2.size⟩) (fun h=>⟨by omega,h.2⟩)
theorem NewIn.below {a w w':World} {bm:Nat} {f:FlatD} {ins:List (List Int)} {m':MachD} (hb:Below a.heap.size a w) (p:Post (fun b=>a.heap.size≤b∧b<w.heap.size) w w' bm f ins m'):Below a.heap.size a w':=
 p.2.below hb fun _ h=>h.1
theorem stepNew {a w:World} {bm:Nat} {f:FlatD} {ins:List (List Int)} {m:MachD} (h:NewIn a.heap.size w bm f ins m) (hb:Below a.heap.size a w) (hL:Laid a) (hh:HeadP f) {k:Nat} (g:Going f m k) (hk:k<1000000) (hins:ins.length=f.chans.length) :
  Calls Tryz.prog 76 #[.pointer (some ⟨bm,0,none⟩)] w fun e w'=>e=.returned (.bool (m.t.status==2))∧NewIn a.heap.size w' bm f ins (stepM f ins m)∧Below a.heap.size a w':=by
 obtain⟨I,c8,c9,c10,kv,iv,av,ov,rv,bv,gb,db,bs,h⟩:=h
 exact (machStep h (hL.keep hb) hh g.good hins (by have:=g.steps;omega) g.pc0 g.pc1).mono fun e w' ⟨he,hp⟩=>⟨he,NewIn.post hb.size hp,NewIn.below hb hp⟩
theorem traceNew {n0:Nat} {w:World} {bm:Nat} {f:FlatD} {ins:List (List Int)} {m:MachD} (h:NewIn n0 w bm f ins m) (hh:HeadP f) {k:Nat} (g:Going f m k) (hk:k≤1000000) :
  Calls Tryz.prog 77 #[.pointer (some ⟨bm,0,none⟩)] w fun e w'=>∃ xo xr xb xd,e=.returned (traceV m.t xo xr xb xd)∧RdTrace (some (upFrom w.heap.size)) w' m.t xo xr xb xd∧Below w.heap.size w w':=by
 obtain⟨I,c8,c9,c10,kv,iv,av,ov,rv,bv,gb,db,bs,h⟩:=h
 exact machTrace h hh g.good (by have:=g.steps;omega)
theorem RdTrace.same {g g':Nat→Prop} {w w':World} {t:TraceD} {a b c d:Value} (h:RdTrace (some g) w t a b c d) (k:∀ b,g b→b<w.heap.size→w'.heap[b]?=w.heap[b]?) (hg:∀ b,b<w.heap.size→g b→g' b):RdTrace (some g') w' t a b c d:=
 ⟨h.1.same k hg,h.2.1.same k hg,h.2.2.1.same k hg,h.2.2.2.1.same k hg,h.2.2.2.2⟩
theorem RdTrace.setRow {n m:Nat} {w:World} {t:TraceD} {a b c d:Value} (h:RdTrace (some (upFrom n)) w t a b c d) {x:Nat} (hx:x<n) (hm:m≤n) (cs:Array Value):RdTrace (some (upFrom m)) (w.setRow x cs) t a b c d:=
 h.same (fun b hb _=>setRow_other w x b cs (by have:n≤b:=hb;omega)) (fun b _ hb=>Nat.le_trans hm hb)
theorem nilRow {α:Type} (K:Kind α) (lo:Option (Nat→Prop)) (w:World):RdRow K lo w (.slice none 0 0) []:=⟨none,0,rfl,⟨by simp,by simp⟩,fun i x hx=>by simp at hx⟩
theorem zeroT_rd (lo:Option (Nat→Prop)) (w:World):RdTrace lo w zeroT (.slice none 0 0) (.slice none 0 0) (.slice none 0 0) (.slice none 0 0):=by
 exact⟨nilRow _ _ _,nilRow _ _ _,nilRow _ _ _,nilRow _ _ _,⟨by decide,by decide⟩,⟨by decide,by decide⟩⟩
def RunSaid (t:TraceD) (er:Int) (w:World) (e:Ending) (w':World):Prop:=
 ∃ ov rv bv dv,e=.returned (.tuple #[traceV t ov rv bv dv,.int .i64 er])∧RdTrace (some (upFrom w.heap.size)) w' t ov rv bv dv∧Below w.heap.size w w'
theorem machRun (f:FlatD) (cv sv av kv iv:Value) (L:List (List Int)) (steps:Int) (w:World) (hF:RdFlat none w f cv sv av kv) (hI:RdLists none w iv L) (hL:Laid w) (hst:InI64 steps) (hn:L.length≤1000000) :
  Calls Tryz.prog 49 #[flatV f cv sv av kv,.int .i64 steps,iv] w (RunSaid (runT f L steps) (errRun f L.length steps) w):=by
 obtain⟨er,her⟩:∃ er,errRun f L.length steps=er:=⟨_,rfl⟩
 obtain⟨RT,hRT⟩:∃ RT,runT f L steps=RT:=⟨_,rfl⟩
 rw[her,hRT]
 rw[runT,her] at hRT
 obtain⟨ca,cc,rfl⟩:=hF.1.is
 obtain⟨sa,sc,rfl⟩:=hF.2.1.is
 obtain⟨aa,ac,rfl⟩:=hF.2.2.1.is
 obtain⟨ka,kc,rfl⟩:=hF.2.2.2.1.is
 obtain⟨ia,ic,rfl⟩:=hI.is
 have hal:=((Below.refl w.heap.size w).alloc (Nat.le_refl _) (.cells #[.int .i64 f.width,.int .i64 f.regs,.slice ca f.chans.length cc,.slice sa f.sites.length sc,.slice aa f.arrays.length ac,.slice ka f.code.length kc] 26)).alloc (by simp) (.cells #[.int .u8 0,.int .i64 0,.slice none 0 0,.slice none 0 0,.slice none 0 0,.slice none 0 0] 52)
 have hbb:=heap2_of (w:=w) (A:=(.cells #[.int .i64 f.width,.int .i64 f.regs,.slice ca f.chans.length cc,.slice sa f.sites.length sc,.slice aa f.arrays.length ac,.slice ka f.code.length kc] 26)) (B:=(.cells #[.int .u8 0,.int .i64 0,.slice none 0 0,.slice none 0 0,.slice none 0 0,.slice none 0 0] 52)) (Below.refl _ _)
 have HF:=hid (hF.keep hal)
 have HL:=hid (hL.keep hal)
 have HI:=hid (hI.keep hal)
 have HL0:=hid hL
 have HG:=hid hbb.1
 have HT:=hid hbb.2.1
 have HB:=hid hal
 clear hF hI hL hal hbb hst
 go_enter Tryz.func49,Tryz.ntmps49
 go_upto_region 1 with fail
 generalize ((w.alloc (.cells #[.int .i64 f.width,.int .i64 f.regs,.slice ca f.chans.length cc,.slice sa f.sites.length sc,.slice aa f.arrays.length ac,.slice ka f.code.length kc] 26)).alloc (.cells #[.int .u8 0,.int .i64 0,.slice none 0 0,.slice none 0 0,.slice none 0 0,.slice none 0 0] 52))=W at *
 have hs1:w.heap.size+1<W.heap.size:=(gsMMq HT.out)
 have HZ:=hid (fun w'=>zeroT_rd (some (upFrom w.heap.size)) w')
 by_cases hr:steps<1 ∨ 65536<steps
 ·have he:er=3:=by rw[← her,errRun,if_pos hr]
  obtain rfl:RT=zeroT:=by rw[← hRT,if_neg (by omega)]
  obtain rfl:er=3:=he
  clear her hRT
  rcases hr with hr|hr
  ·skip
   go_wp2_with (refine wpList_store_row rfl 52 (.tmp 6) (.tmp 16) rfl (w.heap.size+1) #[.int .u8 0,.int .i64 0,.slice none 0 0,.slice none 0 0,.slice none 0 0,.slice none 0 0] rfl rfl 52 #[.int .u8 0,.int .i64 0,.slice none 0 0,.slice none 0 0,.slice none 0 0,.slice none 0 0] ?h1 (by as_aux_lemma=>kernel_rfl) (by as_aux_lemma=>kernel_rfl) (by as_aux_lemma=>kernel_rfl) ?_;exact HT.out)
   refine bodyPost_ret (v:=.tuple #[.agg #[.int .u8 0,.int .i64 0,.slice none 0 0,.slice none 0 0,.slice none 0 0,.slice none 0 0],.int .i64 3]) ?_ rfl ⟨.slice none 0 0,.slice none 0 0,.slice none 0 0,.slice none 0 0,rfl,HZ.out _,below_row HB.out (by omega) _⟩
   exact results_cell_tmp (P:=Tryz.prog) (fn:=Tryz.f49) rfl _ _ (w.heap.size+1) 52 #[.int .u8 0,.int .i64 0,.slice none 0 0,.slice none 0 0,.slice none 0 0,.slice none 0 0] (0,0) _ rfl (setRow_heap _ _ _ _ _ _ HT.out) Tryz.underlying52 rfl (by as_aux_lemma=>kernel_rfl)
  ·have hr0:¬ steps<1:=by omega
   go_wp2_with (refine wpList_store_row rfl 52 (.tmp 6) (.tmp 16) rfl (w.heap.size+1) #[.int .u8 0,.int .i64 0,.slice none 0 0,.slice none 0 0,.slice none 0 0,.slice none 0 0] rfl rfl 52 #[.int .u8 0,.int .i64 0,.slice none 0 0,.slice none 0 0,.slice none 0 0,.slice none 0 0] ?h2 (by as_aux_lemma=>kernel_rfl) (by as_aux_lemma=>kernel_rfl) (by as_aux_lemma=>kernel_rfl) ?_;exact HT.out)
   refine bodyPost_ret (v:=.tuple #[.agg #[.int .u8 0,.int .i64 0,.slice none 0 0,.slice none 0 0,.slice none 0 0,.slice none 0 0],.int .i64 3]) ?_ rfl ⟨.slice none 0 0,.slice none 0 0,.slice none 0 0,.slice none 0 0,rfl,HZ.out _,below_row HB.out (by omega) _⟩
   exact results_cell_tmp (P:=Tryz.prog) (fn:=Tryz.f49) rfl _ _ (w.heap.size+1) 52 #[.int .u8 0,.int .i64 0,.slice none 0 0,.slice none 0 0,.slice none 0 0,.slice none 0 0] (0,0) _ rfl (setRow_heap _ _ _ _ _ _ HT.out) Tryz.underlying52 rfl (by as_aux_lemma=>kernel_rfl)
 ·have hr1:¬ steps<1:=by omega
  have hr2:¬ 65536<steps:=by omega
  have hee:errNew f L.length=er:=by rw[← her,errRun,if_neg hr]
  clear her hr
  have g0:=row_of HG.out 0 (.int .i64 f.width) rfl
  have g1:=row_of HG.out 1 (.int .i64 f.regs) rfl
  have g2:=row_of HG.out 2 (.slice ca f.chans.length cc) rfl
  have g3:=row_of HG.out 3 (.slice sa f.sites.length sc) rfl
  have g4:=row_of HG.out 4 (.slice aa f.arrays.length ac) rfl
  have g5:=row_of HG.out 5 (.slice ka f.code.length kc) rfl
  by_cases hb:flatOk f=false ∨ f.chans.length<L.length
  ·have hne:er≠0:=by
    rw[← hee,errNew]
    rcases hb with h|h
    ·rw[h];simp
    ·split <;> first|decide|(rw[if_pos h];decide)
   obtain rfl:RT=zeroT:=by rw[← hRT,if_neg hne]
   have he:(if flatOk f then (5:Int) else 2)=er:=by
    rw[← hee,errNew]
    rcases hb with h|h
    ·rw[h];rfl
    ·rw[if_pos h]
   have HC:=hid (machNewBad f _ _ _ _ ia L.length ic W HF.out HL.out hn hb)
   rw[he] at HC
   have hne1:(er != 0)=true:=by simpa using hne
   clear hRT he hee hb hne
   go_upto_region 5 with (go_at_call 75;refine HC.out.mono ?_;rintro e w2 ⟨rfl,hb2⟩)
   have HT2:=hid ((hb2.block _ (gsMMq HT.out)).trans HT.out)
   have HB2:=hid (bcomp HB.out hb2)
   clear hb2 g0 g1 g2 g3 g4 g5
   go_wp2_with (refine wpList_store_row rfl 52 (.tmp 6) (.tmp 25) rfl (w.heap.size+1) #[.int .u8 0,.int .i64 0,.slice none 0 0,.slice none 0 0,.slice none 0 0,.slice none 0 0] rfl rfl 52 #[.int .u8 0,.int .i64 0,.slice none 0 0,.slice none 0 0,.slice none 0 0,.slice none 0 0] ?h3 (by as_aux_lemma=>kernel_rfl) (by as_aux_lemma=>kernel_rfl) (by as_aux_lemma=>kernel_rfl) ?_;exact HT2.out)
   refine bodyPost_ret (v:=.tuple #[.agg #[.int .u8 0,.int .i64 0,.slice none 0 0,.slice none 0 0,.slice none 0 0,.slice none 0 0],.int .i64 er]) ?_ rfl ⟨.slice none 0 0,.slice none 0 0,.slice none 0 0,.slice none 0 0,rfl,HZ.out _,below_row HB2.out (by omega) _⟩
   exact results_cell_tmp (P:=Tryz.prog) (fn:=Tryz.f49) rfl _ _ (w.heap.size+1) 52 #[.int .u8 0,.int .i64 0,.slice none 0 0,.slice none 0 0,.slice none 0 0,.slice none 0 0] (0,0) _ rfl (setRow_heap _ _ _ _ _ _ HT2.out) Tryz.underlying52 rfl (by as_aux_lemma=>kernel_rfl)
  ·have hok:flatOk f=true:=by
    cases h:flatOk f
    ·exact absurd (.inl h) hb
    ·rfl
   have hle:L.length≤f.chans.length:=by omega
   obtain rfl:er=0:=by rw[← hee,errNew,if_pos hok,if_neg (by omega)]
   rw[if_pos rfl] at hRT
   have hh:=headP hok
   have hci:∀ c∈f.code,CodeIn c:=HF.out.2.2.2.1.ok
   obtain⟨n,rfl⟩:∃ n:Nat,steps=n:=⟨steps.toNat,by omega⟩
   rw[Int.toNat_natCast] at hRT
   have hins:(insM f L).length=f.chans.length:=by simp only[insM,List.length_append,List.length_replicate];omega
   have HC:=hid (machNew f _ _ _ _ _ L W HF.out HI.out HL.out hok hle)
   have HG':=hid (fun (k:Nat)=>going_run (ins:=insM f L) hh hci k)
   have HH:=hid hh
   have HIN:=hid hins
   have HRT0:=hid hRT
   clear hok hh hci hins hRT hee hb
   go_upto_region 6 with (go_at_call 75;refine HC.out.mono ?_;rintro e w2 ⟨bm,rfl,hm2,hb2⟩)
   have HM2:Hid (NewIn W.heap.size w2 bm f (insM f L) (iterM f (insM f L) 0 (newM f))):=hm2
   have HB2:=hid hb2
   clear hm2 hb2 g0 g1 g2 g3 g4 g5
   go_wp2_with fail
   go_loopw [28] (fun i wr=>∃ k:Nat,k≤n∧i=.int .i64 k∧NewIn W.heap.size wr bm f (insM f L) (iterM f (insM f L) k (newM f))∧Below W.heap.size W wr) (fun i _=>n-(intOf i).toNat)
   case atStart=>exact⟨0,Nat.zero_le _,rfl,HM2.out,HB2.out⟩
   case round=>
    obtain⟨k,hk,rfl,hmr,hbr⟩:=hrel
    have HTr:=hid ((hbr.block _ hs1).trans HT.out)
    have HBR:=hid (bcomp HB.out hbr)
    by_cases hlt:k<n
    ·have hk1:(k:Int)<(n:Int):=by omega
     have HS:=hid (stepNew hmr hbr HL.out HH.out (HG'.out k) (by omega) HIN.out)
     rw[← iterM_succ] at HS
     have HTR:=hid (traceNew hmr HH.out (HG'.out k) (by omega))
     by_cases hs:(iterM f (insM f L) k (newM f)).t.status=2
     ·rw[hs] at HS
      have hs2:((2:Int)==2)=true:=rfl
      clear HTR hmr hbr
      go_wp2_with (go_at_call 76;refine HS.out.mono ?_;rintro e w3 ⟨rfl,hm3,hb3⟩)
      go_roundw
      case rel=>exact⟨k+1,by omega,by go_num,hm3,hb3⟩
      case measure=>simp[intOf];omega
     ·have hs2:((iterM f (insM f L) k (newM f)).t.status==2)=false:=by simpa using hs
      have hst:=step_end (f:=f) (ins:=insM f L) hs
      rw[iterM_succ,hst] at HS
      have hall:(runM f L n)=iterM f (insM f L) k (newM f):=by
       rw[runM,show n=k+(n-k) by omega,iterM_add,iter_end hs]
      obtain rfl:RT=(iterM f (insM f L) k (newM f)).t:=by rw[← HRT0.out,hall]
      clear hall hst hs HRT0 HTR hmr hbr HTr HBR
      have HGo:=hid (HG'.out k)
      generalize iterM f (insM f L) k (newM f)=m at *
      go_upto_region 10 with (go_at_call 76;refine HS.out.mono ?_;rintro e w3 ⟨rfl,hm3,hb3⟩)
      have HTr:=hid ((hb3.block _ hs1).trans HT.out)
      have HBR:=hid (bcomp HB.out hb3)
      have HTR:=hid (traceNew hm3 HH.out HGo.out (by omega))
      clear hm3 hb3
      go_wp2_with (first|(go_at_call 77;refine HTR.out.mono ?_;rintro e w4 ⟨xo,xr,xb,xd,rfl,hrt,hb4⟩;obtain⟨xa1,xc1,rfl⟩:=hrt.1.is;obtain⟨xa2,xc2,rfl⟩:=hrt.2.1.is;obtain⟨xa3,xc3,rfl⟩:=hrt.2.2.1.is;obtain⟨xa4,xc4,rfl⟩:=hrt.2.2.2.1.is;have HRT:=hid hrt;have HB4:=hid (bcomp HBR.out hb4);have HT4:=hid ((hb4.block _ (gsMMq HTr.out)).trans HTr.out);have HS4:=hid (gsMMq HTr.out);clear hrt hb4)|(refine wpList_store_row rfl 52 (.tmp 6) (.tmp 35) rfl (w.heap.size+1) #[.int .u8 m.t.status,.int .i64 m.t.steps,.slice xa1 m.t.outs.length xc1,.slice xa2 m.t.rels.length xc2,.slice xa3 m.t.brs.length xc3,.slice xa4 m.t.reads.length xc4] rfl rfl 52 #[.int .u8 0,.int .i64 0,.slice none 0 0,.slice none 0 0,.slice none 0 0,.slice none 0 0] ?hm (by as_aux_lemma=>kernel_rfl) (by as_aux_lemma=>kernel_rfl) (by as_aux_lemma=>kernel_rfl) ?_;exact HT4.out))
      refine bodyPost_ret (v:=.tuple #[.agg #[.int .u8 m.t.status,.int .i64 m.t.steps,.slice xa1 m.t.outs.length xc1,.slice xa2 m.t.rels.length xc2,.slice xa3 m.t.brs.length xc3,.slice xa4 m.t.reads.length xc4],.int .i64 0]) ?_ rfl ⟨_,_,_,_,rfl,HRT.out.setRow (by have:=HS4.out;omega) (by have:=HBR.out.size;omega) _,below_row HB4.out (by omega) _⟩
      exact results_cell_tmp (P:=Tryz.prog) (fn:=Tryz.f49) rfl _ _ (w.heap.size+1) 52 #[.int .u8 m.t.status,.int .i64 m.t.steps,.slice xa1 m.t.outs.length xc1,.slice xa2 m.t.rels.length xc2,.slice xa3 m.t.brs.length xc3,.slice xa4 m.t.reads.length xc4] (0,0) _ rfl (setRow_heap _ _ _ _ _ _ HT4.out) Tryz.underlying52 rfl (by as_aux_lemma=>kernel_rfl)
    ·obtain rfl:k=n:=by omega
     obtain rfl:RT=(iterM f (insM f L) k (newM f)).t:=HRT0.out.symm
     have HTR:=hid (traceNew hmr HH.out (HG'.out k) (by omega))
     have hk1:¬ (k:Int)<(k:Int):=by omega
     clear hmr hbr HRT0
     generalize iterM f (insM f L) k (newM f)=m at *
     go_upto_region 10 with fail
     go_wp2_with (first|(go_at_call 77;refine HTR.out.mono ?_;rintro e w4 ⟨xo,xr,xb,xd,rfl,hrt,hb4⟩;obtain⟨xa1,xc1,rfl⟩:=hrt.1.is;obtain⟨xa2,xc2,rfl⟩:=hrt.2.1.is;obtain⟨xa3,xc3,rfl⟩:=hrt.2.2.1.is;obtain⟨xa4,xc4,rfl⟩:=hrt.2.2.2.1.is;have HRT:=hid hrt;have HB4:=hid (bcomp HBR.out hb4);have HT4:=hid ((hb4.block _ (gsMMq HTr.out)).trans HTr.out);have HS4:=hid (gsMMq HTr.out);clear hrt hb4)|(refine wpList_store_row rfl 52 (.tmp 6) (.tmp 35) rfl (w.heap.size+1) #[.int .u8 m.t.status,.int .i64 m.t.steps,.slice xa1 m.t.outs.length xc1,.slice xa2 m.t.rels.length xc2,.slice xa3 m.t.brs.length xc3,.slice xa4 m.t.reads.length xc4] rfl rfl 52 #[.int .u8 0,.int .i64 0,.slice none 0 0,.slice none 0 0,.slice none 0 0,.slice none 0 0] ?hn (by as_aux_lemma=>kernel_rfl) (by as_aux_lemma=>kernel_rfl) (by as_aux_lemma=>kernel_rfl) ?_;exact HT4.out))
     refine bodyPost_ret (v:=.tuple #[.agg #[.int .u8 m.t.status,.int .i64 m.t.steps,.slice xa1 m.t.outs.length xc1,.slice xa2 m.t.rels.length xc2,.slice xa3 m.t.brs.length xc3,.slice xa4 m.t.reads.length xc4],.int .i64 0]) ?_ rfl ⟨_,_,_,_,rfl,HRT.out.setRow (by have:=HS4.out;omega) (by have:=HBR.out.size;omega) _,below_row HB4.out (by omega) _⟩
     exact results_cell_tmp (P:=Tryz.prog) (fn:=Tryz.f49) rfl _ _ (w.heap.size+1) 52 #[.int .u8 m.t.status,.int .i64 m.t.steps,.slice xa1 m.t.outs.length xc1,.slice xa2 m.t.rels.length xc2,.slice xa3 m.t.brs.length xc3,.slice xa4 m.t.reads.length xc4] (0,0) _ rfl (setRow_heap _ _ _ _ _ _ HT4.out) Tryz.underlying52 rfl (by as_aux_lemma=>kernel_rfl)
end Go.Proofs.YtkjkpddajjmloaaGreatDoor
