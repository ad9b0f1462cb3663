/- The flat program of a well-formed program is valid, if it is not too long; and its sites are those that instructions release at. Plain: no Go function in sight. Condition: the program has no fault, and its numbers are words. -/
import Derived.Test.YtgllkgedjplpdaaDoorFlI
import Derived.Test.YtgllkgedjplpdaaDoorMLd
set_option linter.all false
set_option maxRecDepth 1000000
set_option maxHeartbeats 12800000
set_option linter.unusedVariables false
set_option linter.unusedSimpArgs false
namespace Go.Proofs.YtgllkgedjplpdaaDoor
open Go.ChangeShapes Go.WideShapes Go.ChangeAt Go.RowKit
/-! ### the variables are among the registers -/
theorem named_ne {s:ByteArray} (h:named s=true):s.toList.isEmpty=false:=by
 cases he:s.toList.isEmpty with
 | false=>rfl
 | true=>rw [named_empty he] at h;cases h
theorem addF_has {ps out:List ByteArray} {s:ByteArray} (h:s.toList.isEmpty=false):s ∈ ps ∨ s ∈ addF ps out s:=by
 unfold addF
 split
 ·rename_i hc
  rw [h,Bool.false_or,Bool.or_eq_true] at hc
  rcases hc with hc|hc
  ·exact .inl (inL_iff.1 hc)
  ·exact .inr (inL_iff.1 hc)
 ·exact .inr (by simp)
theorem addF_keep {ps out:List ByteArray} {s t:ByteArray} (h:t ∈ out):t ∈ addF ps out s:=by
 unfold addF
 split
 ·exact h
 ·exact List.mem_append_left _ h
theorem argsL_keep {ps:List ByteArray} {t:ByteArray}:∀ (l:List ArgD) (out:List ByteArray),t ∈ out→t ∈ argsL ps l out
 | [],_,h=>h
 | a :: r,out,h=>argsL_keep r _ (addF_keep h)
theorem argsL_has {ps:List ByteArray} {a:ArgD} (hn:a.name.toList.isEmpty=false):∀ (l:List ArgD) (out:List ByteArray),a ∈ l→a.name ∈ ps ∨ a.name ∈ argsL ps l out
 | [],_,h=>by cases h
 | b :: r,out,h=>by
  rcases List.mem_cons.1 h with rfl|h
  ·rcases addF_has (ps:=ps) (out:=out) hn with h1|h1
   ·exact .inl h1
   ·exact .inr (argsL_keep r _ h1)
  ·exact argsL_has hn r _ h
theorem localsL_keep {ps:List ByteArray} {t:ByteArray}:∀ (l:List InstrD) (out:List ByteArray),t ∈ out→t ∈ localsL ps l out
 | [],_,h=>h
 | x :: r,out,h=>localsL_keep r _ (argsL_keep _ _ (addF_keep h))
theorem localsL_has {ps:List ByteArray} {x:InstrD} {s:ByteArray} (hn:s.toList.isEmpty=false) (hs:s=x.dst ∨ ∃ a ∈ x.args,a.name=s):∀ (l:List InstrD) (out:List ByteArray),x ∈ l→s ∈ ps ∨ s ∈ localsL ps l out
 | [],_,h=>by cases h
 | y :: r,out,h=>by
  rcases List.mem_cons.1 h with rfl|h
  ·rcases hs with rfl|⟨a,ha,rfl⟩
   ·rcases addF_has (ps:=ps) (out:=out) hn with h1|h1
    ·exact .inl h1
    ·exact .inr (localsL_keep r _ (argsL_keep _ _ h1))
   ·rcases argsL_has (ps:=ps) hn x.args (addF ps out x.dst) ha with h1|h1
    ·exact .inl h1
    ·exact .inr (localsL_keep r _ h1)
  ·exact localsL_has hn hs r _ h
theorem regN_in {R:List (Int × ByteArray)} {f:Int} {s:ByteArray} (h:(f,s) ∈ R):regN R f s<R.length:=by
 unfold regN
 cases hf:R.findIdx? fun q=>decide (q=(f,s)) with
 | none=>have:=List.findIdx?_eq_none_iff.1 hf _ h;simp at this
 | some i=>have:=List.findIdx?_eq_some_iff_getElem.1 hf;simp only [Option.getD_some];exact this.1
theorem placesF_has:∀ (l:List FuncD) (i g:Nat) (fd:FuncD) (s:ByteArray),l[g]?=some fd→s ∈ fd.params ∨ s ∈ localsL fd.params fd.code []→(((i+g:Nat):Int),s) ∈ placesF i l
 | [],_,_,_,_,h,_=>by simp at h
 | x :: r,i,0,fd,s,h,hs=>by
  simp at h;subst h
  rw [placesF,Nat.add_zero]
  refine List.mem_append_left _ ?_
  unfold funPlaces placesOf
  rcases hs with hs|hs
  ·exact List.mem_append_left _ (List.mem_map.2 ⟨s,hs,rfl⟩)
  ·exact List.mem_append_right _ (List.mem_map.2 ⟨s,hs,rfl⟩)
 | x :: r,i,g+1,fd,s,h,hs=>by
  rw [placesF]
  refine List.mem_append_right _ ?_
  have:=placesF_has r (i+1) g fd s (by simpa using h) hs
  rw [show i+1+g=i+(g+1) from by omega] at this
  exact this
def IsBody (p:ProgD) (f:Int):Prop:=f=-1 ∨ ∃ (g:Nat) (fd:FuncD),f=g∧p.funcs[g]?=some fd
theorem places_has {p:ProgD} {f:Int} (hf:IsBody p f) {s:ByteArray} (hs:s ∈ (bodyF p f).1 ∨ s ∈ localsL (bodyF p f).1 (bodyF p f).2 []):(f,s) ∈ placesP p:=by
 unfold placesP
 rcases hf with rfl|⟨g,fd,rfl,hg⟩
 ·rw [bodyF_main] at hs
  rcases hs with hs|hs
  ·cases hs
  ·exact List.mem_append_left _ (List.mem_map.2 ⟨s,hs,rfl⟩)
 ·rw [bodyF_at hg] at hs
  have:=placesF_has p.funcs 0 g fd s hg hs
  rw [Nat.zero_add] at this
  exact List.mem_append_right _ this
/-! ### sites -/
theorem sites_keep {s:ByteArray}:∀ (l:List InstrD) (S:List ByteArray),s ∈ S→s ∈ sitesOf S l
 | [],_,h=>h
 | x :: r,S,h=>by
  show s ∈ sitesOf (if x.kind == 7 then putL x.name S else S) r
  refine sites_keep r _ ?_
  split
  ·unfold putL
   split
   ·exact h
   ·exact List.mem_append_left _ h
  ·exact h
theorem sites_has {x:InstrD} (hk:x.kind=7):∀ (l:List InstrD) (S:List ByteArray),x ∈ l→x.name ∈ sitesOf S l
 | [],_,h=>by cases h
 | y :: r,S,h=>by
  show x.name ∈ sitesOf (if y.kind == 7 then putL y.name S else S) r
  rcases List.mem_cons.1 h with rfl|h
  ·rw [if_pos (by simp [hk])]
   refine sites_keep r _ ?_
   unfold putL
   split
   ·rename_i hi;exact inL_iff.1 hi
   ·simp
  ·exact sites_has hk r _ h
theorem sites_from {s:ByteArray}:∀ (l:List InstrD) (S:List ByteArray),s ∈ sitesOf S l→s ∈ S ∨ ∃ x ∈ l,x.kind=7∧x.name=s
 | [],_,h=>.inl h
 | y :: r,S,h=>by
  rcases sites_from r _ (show s ∈ sitesOf (if y.kind == 7 then putL y.name S else S) r from h) with h1|⟨x,hx,h2⟩
  ·split at h1
   ·rename_i hk
    unfold putL at h1
    split at h1
    ·exact .inl h1
    ·rcases List.mem_append.1 h1 with h1|h1
     ·exact .inl h1
     ·rw [List.mem_singleton] at h1
      exact .inr ⟨y,by simp,by simpa using hk,h1.symm⟩
   ·exact .inl h1
  ·exact .inr ⟨x,by simp [hx],h2⟩
theorem putL_nodupF {s:ByteArray} {l:List ByteArray} (h:l.Nodup):(putL s l).Nodup:=by
 unfold putL
 split
 ·exact h
 ·rename_i hc
  exact List.nodup_append.2 ⟨h,List.pairwise_singleton _ _,fun a ha b hb e=>by rw [List.mem_singleton] at hb;subst hb;exact hc (inL_iff.2 (e ▸ ha))⟩
theorem sites_nodupF:∀ (l:List InstrD) (S:List ByteArray),S.Nodup→(sitesOf S l).Nodup
 | [],_,h=>h
 | y :: r,S,h=>by
  refine sites_nodupF r (if y.kind == 7 then putL y.name S else S) ?_
  split
  ·exact putL_nodupF h
  ·exact h
theorem mem_codes {p:ProgD} {x:InstrD} (h:x ∈ codesOf p.funcs ++ p.main):∃ f main code,IsBody p f∧x ∈ (bodyF p f).2∧(WfP p→WfI p main code x):=by
 rcases List.mem_append.1 h with h|h
 ·unfold codesOf at h
  obtain ⟨fd,hf,hx⟩:=List.mem_flatMap.1 h
  obtain ⟨g,hg⟩:=List.getElem?_of_mem hf
  exact ⟨g,false,fd.code,.inr ⟨g,fd,rfl,hg⟩,by rw [bodyF_at hg];exact hx,fun H=>(H.fs fd hf).2.2.2.ins x hx⟩
 ·exact ⟨-1,true,p.main,.inl rfl,by rw [bodyF_main];exact h,fun H=>H.main.ins x h⟩
theorem body_codes {p:ProgD} {f:Int} (hf:IsBody p f) {x:InstrD} (hx:x ∈ (bodyF p f).2):x ∈ codesOf p.funcs ++ p.main:=by
 rcases hf with rfl|⟨g,fd,rfl,hg⟩
 ·rw [bodyF_main] at hx;exact List.mem_append_right _ hx
 ·rw [bodyF_at hg] at hx
  exact List.mem_append_left _ (List.mem_flatMap.2 ⟨fd,List.mem_of_getElem? hg,hx⟩)
/-! ### what a form asks -/
theorem form_at {x:InstrD} (h:formB x=true) {k:Nat} (hk:x.kind=k) {d nm:Bool} {n:Int} (hf:formL[k]?=some (d,nm,n)):opB x=true∧fieldB d x.dst=true∧fieldB nm x.name=true∧countB x n=true∧x.args.all argB=true:=by
 unfold formB at h
 rw [hk] at h
 simp only [Int.toNat_natCast,hf,Bool.and_eq_true] at h
 exact ⟨h.1.1.1.1,h.1.1.1.2,h.1.1.2,h.1.2,h.2⟩
theorem count_is {x:InstrD} {n:Int} (h:countB x n=true) (hw:0≤wantZ x n):(x.args.length:Int)=wantZ x n:=by
 unfold countB at h
 rw [Bool.and_eq_true,Bool.or_eq_true,decide_eq_true_eq,decide_eq_true_eq,decide_eq_true_eq] at h
 omega
/-! ### the head -/
theorem namesGo_of:∀ (l d:List ByteArray),(∀ s ∈ l,tokName s=true)→(d ++ l).Nodup→namesGo d l=true
 | [],_,_,_=>by unfold namesGo;rfl
 | s :: r,d,h,hn=>by
  unfold namesGo
  have h1:s ∉ d:=by
   have:=(List.nodup_append.1 hn).2.2
   exact fun hd=>this s hd s (by simp) rfl
  have h2:hasS s d=false:=by
   unfold hasS
   rw [List.any_eq_false]
   intro t ht
   simp only [beq_iff_eq]
   intro e
   apply h1
   have:s=t:=by
    rw [ByteArray.toList_eq,ByteArray.toList_eq] at e
    cases s;cases t;simp at e;rw [e]
   rw [this];exact ht
  rw [h s (by simp),h2,namesGo_of r (d ++ [s]) (fun t ht=>h t (by simp [ht])) (by simpa using hn)]
  rfl
theorem namesOk_of {l:List ByteArray} (h:∀ s ∈ l,named s=true) (hn:l.Nodup) (hl:l.length≤32):namesOk l=true:=by
 unfold namesOk
 rw [namesGo_of l [] (fun s hs=>by have:=h s hs;unfold named at this;rw [Bool.and_eq_true] at this;exact this.1) (by simpa using hn),decide_eq_true hl]
 rfl
/-! ### the instructions -/
def okN (f:FlatD) (n:Nat) (c:CodeD):Prop:=codeOk { f with code:=List.replicate n EnvF.jump0 } c=true
theorem okN_self (f:FlatD) (c:CodeD):okN f f.code.length c ↔ codeOk f c=true:=by
 unfold okN codeOk mostF refOk
 simp
theorem okN_mono {f:FlatD} {n m:Nat} {c:CodeD} (h:okN f n c) (hm:n≤m):okN f m c:=by
 unfold okN codeOk mostF at h ⊢
 simp only [Bool.and_eq_true,decide_eq_true_eq,List.length_replicate] at h ⊢
 refine ⟨⟨⟨⟨h.1.1.1.1,h.1.1.1.2.1,?_⟩,h.1.1.2⟩,h.1.2⟩,h.2⟩
 have h1:=h.1.1.1.2.2
 split at h1
 ·rename_i hc;rw [if_pos hc];exact h1
 rename_i hc;rw [if_neg hc]
 split at h1
 ·rename_i hc;rw [if_pos hc];exact h1
 rename_i hc;rw [if_neg hc]
 split at h1
 ·rename_i hc;rw [if_pos hc];exact h1
 rename_i hc;rw [if_neg hc]
 split at h1
 ·rename_i hc;rw [if_pos hc];omega
 rename_i hc;rw [if_neg hc];exact h1
def WordsP (p:ProgD):Prop:=∀ f,∀ x ∈ (bodyF p f).2,0≤x.kind∧∀ a ∈ x.args,0≤a.num∧a.num<18446744073709551616
section
variable {p:ProgD} (H:WfP p) (hw:WordsP p) {f:Int} (hf:IsBody p f)
include hf in
theorem reg_okG {s:ByteArray} (hn:s.toList.isEmpty=false) {x:InstrD} (hx:x ∈ (bodyF p f).2) (hs:s=x.dst ∨ ∃ a ∈ x.args,a.name=s):0≤(envOf p).reg f s∧(envOf p).reg f s<(flatI p).regs:=by
 have h1:=regN_in (places_has hf (localsL_has (ps:=(bodyF p f).1) hn hs (bodyF p f).2 [] hx))
 unfold EnvF.reg
 show 0≤((regN (placesP p) f s:Nat):Int)∧((regN (placesP p) f s:Nat):Int)<((placesP p).length:Nat)
 omega
theorem trimW_lt {W v:Int} (h1:1≤W) (h2:W≤64) (hv:0≤v∧v<18446744073709551616):trimW W v<2 ^ W.toNat:=by
 unfold trimW
 split
 ·rename_i e;subst e;exact hv.2
 ·exact Int.emod_lt_of_pos _ (Int.pow_pos (by decide))
include H hw hf in
theorem ref_okG {x:InstrD} (hx:x ∈ (bodyF p f).2) {a:ArgD} (ha:a ∈ x.args) (n:Nat):refOk { flatI p with code:=List.replicate n EnvF.jump0 } ((envOf p).ref f a) true=true:=by
 unfold EnvF.ref refF refOk
 cases he:a.name.toList.isEmpty with
 | true=>
  simp only [if_true]
  rw [if_pos (by simp)]
  simp only [decide_eq_true_eq]
  exact trimW_lt H.wd.1 H.wd.2 ((hw f x hx).2 a ha)
 | false=>
  have h1:=reg_okG (p:=p) hf he hx (.inr ⟨a,ha,rfl⟩)
  unfold EnvF.reg at h1
  simp only [Bool.false_eq_true,if_false,if_true]
  rw [if_neg (by simp only [beq_iff_eq];omega)]
  simp only [beq_self_eq_true,Bool.and_true,Bool.and_eq_true,decide_eq_true_eq]
  exact h1
include H hw hf in
theorem arg_okG {x:InstrD} (hx:x ∈ (bodyF p f).2) (k n:Nat) (hk:k<x.args.length):refOk { flatI p with code:=List.replicate n EnvF.jump0 } ((envOf p).arg f x.args k) true=true:=by
 unfold EnvF.arg argF
 rw [List.getElem?_eq_getElem hk]
 exact ref_okG H hw hf hx (List.getElem_mem hk) n
theorem arg_noneG (E:EnvF) (f:Int) (l:List ArgD) (k:Nat) (hk:l.length≤k):E.arg f l k=zeroRef:=by
 unfold EnvF.arg argF
 rw [List.getElem?_eq_none hk]
theorem zero_okG (F:FlatD):refOk F zeroRef false=true:=by unfold refOk zeroRef;simp
theorem idx_okG {s:ByteArray} {l:List ByteArray} (h:s ∈ l):0≤idxS s l 0∧idxS s l 0<(l.length:Int):=by
 obtain ⟨g,h1,h2⟩:=idxS_pos 0 h
 have:=(List.getElem?_eq_some_iff.1 h2).1
 rw [h1]
 omega
theorem okN_of {F:FlatD} {n:Nat} {c:CodeD} (h1:c.kind≤9) (h2:if c.kind=1 then 2≤c.op∧c.op≤20 else c.op=0) (h3:0≤c.n∧c.n<mostF { F with code:=List.replicate n EnvF.jump0 } c.kind)
  (h4:if dstK c.kind=true then 0≤c.dst∧c.dst<F.regs else c.dst=0) (h5:refOk { F with code:=List.replicate n EnvF.jump0 } c.a (aK c.kind)=true) (h6:refOk { F with code:=List.replicate n EnvF.jump0 } c.b (bK c.kind c.op)=true):okN F n c:=by
 unfold okN codeOk
 simp only [Bool.and_eq_true,decide_eq_true_eq]
 refine ⟨⟨⟨⟨⟨h1,?_⟩,h3⟩,?_⟩,h5⟩,h6⟩
 ·split
  ·rename_i e
   rw [if_pos (by simpa using e)] at h2
   simpa using h2
  ·rename_i e
   rw [if_neg (by simpa using e)] at h2
   simpa using h2
 ·split
  ·rename_i e;rw [if_pos e] at h4;simpa using h4
  ·rename_i e;rw [if_neg e] at h4;simpa using h4
include H hw hf in
theorem one_okG {x:InstrD} (hx:x ∈ (bodyF p f).2) (h4:x.kind ≠ 4) (h10:x.kind ≠ 10) (h12:x.kind ≠ 12) (n:Nat):okN (flatI p) (n+1) ((envOf p).one f x):=by
 obtain ⟨main,code,hi⟩:=wf_body H f x hx
 have hk12:=formB_kind hi.form
 have hk0:=(hw f x hx).1
 obtain ⟨k,hk⟩:∃ k:Nat,x.kind=k:=⟨x.kind.toNat,by omega⟩
 have hkk:k≤12:=by omega
 have hgo:∀ d nm m,formL[k]?=some (d,nm,m)→opB x=true∧fieldB d x.dst=true∧fieldB nm x.name=true∧countB x m=true∧x.args.all argB=true:=fun d nm m=>form_at hi.form hk
 have hop:k ≠ 1→x.op=0:=fun hne=>by
  have:∃ d nm m,formL[k]?=some (d,nm,m):=by
   have hl:k<formL.length:=by show k<13;omega
   exact ⟨_,_,_,List.getElem?_eq_getElem hl⟩
  obtain ⟨d,nm,m,hf'⟩:=this
  have h1:=(hgo d nm m hf').1
  unfold opB at h1
  rw [if_neg (by omega)] at h1
  simpa using h1
 have hdst:fieldB true x.dst=true→0≤(envOf p).reg f x.dst∧(envOf p).reg f x.dst<(flatI p).regs:=fun h=>reg_okG hf (named_ne h) hx (.inl rfl)
 have hlen:∀ m:Int,k ≠ 1→0≤m→countB x m=true→(x.args.length:Int)=m:=fun m h1 h2 h=>by
  have e:wantZ x m=m:=by unfold wantZ;rw [if_neg (by omega)]
  have:=count_is h (by omega)
  omega
 have hcn:x.kind=5 ∨ x.kind=6→0≤idxS x.name p.chans 0∧idxS x.name p.chans 0<(p.chans.length:Int):=fun h=>idx_okG (hi.chan h)
 have han:x.kind=2 ∨ x.kind=3→0≤idxS x.name (aNames p.arrays) 0∧idxS x.name (aNames p.arrays) 0<((p.arrays.map (·.size)).length:Int):=fun h=>by
  have:=idx_okG (hi.arr h)
  unfold aNames at this ⊢
  simpa using this
 have hsn:x.kind=7→0≤idxS x.name (sitesAllF p) 0∧idxS x.name (sitesAllF p) 0<((sitesAllF p).length:Int):=fun h=>idx_okG (sites_has h _ _ (body_codes hf hx))
 match k,hk,hkk,hgo,hop,hlen with
 | 0,hk,_,hgo,hop,hlen=>
  have hk:x.kind=0:=hk
  obtain ⟨_,g2,_,g4,_⟩:=hgo true false 1 rfl
  have hl:=hlen 1 (by decide) (by decide) g4
  have e:(envOf p).one f x=⟨0,0,(envOf p).reg f x.dst,0,(envOf p).arg f x.args 0,zeroRef⟩:=by unfold EnvF.one;rw [if_pos hk]
  rw [e]
  exact okN_of (by simp) (by simp) (by simp [mostF]) (by simp [dstK];exact hdst g2) (arg_okG H hw hf hx 0 _ (by omega)) (zero_okG _)
 | 1,hk,_,hgo,_,_=>
  have hk:x.kind=1:=hk
  obtain ⟨g1,g2,_,g4,_⟩:=hgo true false 0 rfl
  unfold opB at g1
  rw [if_pos hk,Bool.and_eq_true,decide_eq_true_eq,decide_eq_true_eq] at g1
  have hwz:wantZ x 0=arityZ x.op:=by unfold wantZ;rw [if_pos hk]
  have hl:(x.args.length:Int)=if x.op≤3 then 1 else 2:=by
   have e:arityZ x.op=if x.op≤3 then 1 else 2:=by
    unfold arityZ
    rw [if_neg (by omega),if_neg (by omega)]
    split
    ·rfl
    ·rw [if_neg (by omega)]
   have:=count_is g4 (by rw [hwz,e];split <;> decide)
   rw [this,hwz,e]
  have e:(envOf p).one f x=⟨1,x.op,(envOf p).reg f x.dst,0,(envOf p).arg f x.args 0,(envOf p).arg f x.args 1⟩:=by unfold EnvF.one;rw [if_neg (by omega),if_pos hk]
  rw [e]
  refine okN_of (by simp) (by simpa using g1) (by simp [mostF]) (by simp [dstK];exact hdst g2) (arg_okG H hw hf hx 0 _ (by split at hl <;> omega)) ?_
  show refOk _ ((envOf p).arg f x.args 1) (bK 1 x.op)=true
  by_cases h3:x.op≤3
  ·rw [if_pos h3] at hl
   rw [arg_noneG (envOf p) f x.args 1 (by omega)]
   have:bK 1 x.op=false:=by unfold bK;simp;omega
   rw [this]
   exact zero_okG _
  ·rw [if_neg h3] at hl
   have:bK 1 x.op=true:=by unfold bK;simp;omega
   rw [this]
   exact arg_okG H hw hf hx 1 _ (by omega)
 | 2,hk,_,hgo,hop,hlen=>
  have hk:x.kind=2:=hk
  obtain ⟨_,g2,_,g4,_⟩:=hgo true true 1 rfl
  have hl:=hlen 1 (by decide) (by decide) g4
  have e:(envOf p).one f x=⟨2,0,(envOf p).reg f x.dst,idxS x.name (aNames p.arrays) 0,(envOf p).arg f x.args 0,zeroRef⟩:=by unfold EnvF.one;rw [if_neg (by omega),if_neg (by omega),if_pos hk];rfl
  rw [e]
  exact okN_of (by simp) (by simp) (by simp only [mostF];exact han (.inl hk)) (by simp [dstK];exact hdst g2) (arg_okG H hw hf hx 0 _ (by omega)) (zero_okG _)
 | 3,hk,_,hgo,hop,hlen=>
  have hk:x.kind=3:=hk
  obtain ⟨_,g2,_,g4,_⟩:=hgo false true 2 rfl
  have hl:=hlen 2 (by decide) (by decide) g4
  have e:(envOf p).one f x=⟨3,0,0,idxS x.name (aNames p.arrays) 0,(envOf p).arg f x.args 0,(envOf p).arg f x.args 1⟩:=by unfold EnvF.one;rw [if_neg (by omega),if_neg (by omega),if_neg (by omega),if_pos hk];rfl
  rw [e]
  exact okN_of (by simp) (by simp) (by simp only [mostF];exact han (.inr hk)) (by simp [dstK]) (arg_okG H hw hf hx 0 _ (by omega)) (arg_okG H hw hf hx 1 _ (by omega))
 | 4,hk,_,_,_,_=>exact absurd hk h4
 | 5,hk,_,hgo,hop,hlen=>
  have hk:x.kind=5:=hk
  obtain ⟨_,g2,_,g4,_⟩:=hgo true true 0 rfl
  have e:(envOf p).one f x=⟨4,0,(envOf p).reg f x.dst,idxS x.name p.chans 0,zeroRef,zeroRef⟩:=by unfold EnvF.one;rw [if_neg (by omega),if_neg (by omega),if_neg (by omega),if_neg (by omega),if_pos hk];rfl
  rw [e]
  exact okN_of (by simp) (by simp) (by simp only [mostF];exact hcn (.inl hk)) (by simp [dstK];exact hdst g2) (zero_okG _) (zero_okG _)
 | 6,hk,_,hgo,hop,hlen=>
  have hk:x.kind=6:=hk
  obtain ⟨_,g2,_,g4,_⟩:=hgo false true 1 rfl
  have hl:=hlen 1 (by decide) (by decide) g4
  have e:(envOf p).one f x=⟨5,0,0,idxS x.name p.chans 0,(envOf p).arg f x.args 0,zeroRef⟩:=by unfold EnvF.one;rw [if_neg (by omega),if_neg (by omega),if_neg (by omega),if_neg (by omega),if_neg (by omega),if_pos hk];rfl
  rw [e]
  exact okN_of (by simp) (by simp) (by simp only [mostF];exact hcn (.inr hk)) (by simp [dstK]) (arg_okG H hw hf hx 0 _ (by omega)) (zero_okG _)
 | 7,hk,_,hgo,hop,hlen=>
  have hk:x.kind=7:=hk
  obtain ⟨_,g2,_,g4,_⟩:=hgo true true 1 rfl
  have hl:=hlen 1 (by decide) (by decide) g4
  have e:(envOf p).one f x=⟨6,0,(envOf p).reg f x.dst,idxS x.name (sitesAllF p) 0,(envOf p).arg f x.args 0,zeroRef⟩:=by unfold EnvF.one;rw [if_neg (by omega),if_neg (by omega),if_neg (by omega),if_neg (by omega),if_neg (by omega),if_neg (by omega),if_pos hk];rfl
  rw [e]
  exact okN_of (by simp) (by simp) (by simp only [mostF];exact hsn hk) (by simp [dstK];exact hdst g2) (arg_okG H hw hf hx 0 _ (by omega)) (zero_okG _)
 | 8,hk,_,hgo,hop,hlen=>
  have hk:x.kind=8:=hk
  obtain ⟨_,g2,_,g4,_⟩:=hgo false true 0 rfl
  have hl:=hlen 0 (by decide) (by decide) g4
  have e:(envOf p).one f x=⟨7,0,0,0,(envOf p).arg f x.args 0,zeroRef⟩:=by unfold EnvF.one;rw [if_neg (by omega),if_neg (by omega),if_neg (by omega),if_neg (by omega),if_neg (by omega),if_neg (by omega),if_neg (by omega),if_pos hk]
  rw [e,arg_noneG _ _ _ _ (by omega)]
  exact okN_of (by simp) (by simp) (by simp [mostF]) (by simp [dstK]) (zero_okG _) (zero_okG _)
 | 9,hk,_,hgo,hop,hlen=>
  have hk:x.kind=9:=hk
  obtain ⟨_,g2,_,g4,_⟩:=hgo false true 1 rfl
  have hl:=hlen 1 (by decide) (by decide) g4
  have e:(envOf p).one f x=⟨8,0,0,0,(envOf p).arg f x.args 0,zeroRef⟩:=by unfold EnvF.one;rw [if_neg (by omega),if_neg (by omega),if_neg (by omega),if_neg (by omega),if_neg (by omega),if_neg (by omega),if_neg (by omega),if_neg (by omega),if_pos hk]
  rw [e]
  exact okN_of (by simp) (by simp) (by simp [mostF]) (by simp [dstK]) (arg_okG H hw hf hx 0 _ (by omega)) (zero_okG _)
 | 10,hk,_,_,_,_=>exact absurd hk h10
 | 11,hk,_,hgo,hop,hlen=>
  have hk:x.kind=11:=hk
  have e:(envOf p).one f x=⟨9,0,0,0,zeroRef,zeroRef⟩:=by unfold EnvF.one;rw [if_neg (by omega),if_neg (by omega),if_neg (by omega),if_neg (by omega),if_neg (by omega),if_neg (by omega),if_neg (by omega),if_neg (by omega),if_neg (by omega)]
  rw [e]
  exact okN_of (by simp) (by simp) (by simp [mostF]) (by simp [dstK]) (zero_okG _) (zero_okG _)
 | 12,hk,_,_,_,_=>exact absurd hk h12
 | (k+13),_,hkk,_,_,_=>omega
end
/-! ### the bodies -/
theorem setN_mem {C:List CodeD} {k:Nat} {v:Int} {c:CodeD} (h:c ∈ EnvF.setN C k v):c ∈ C ∨ ∃ d ∈ C,C[k]?=some d∧c={ d with n:=v }:=by
 unfold EnvF.setN at h
 by_cases hk:k<C.length
 ·rw [List.modify_eq_take_cons_drop hk] at h
  rcases List.mem_append.1 h with h|h
  ·exact .inl (List.mem_of_mem_take h)
  ·rcases List.mem_cons.1 h with rfl|h
   ·exact .inr ⟨C[k],List.getElem_mem hk,List.getElem?_eq_getElem hk,rfl⟩
   ·exact .inl (List.mem_of_mem_drop h)
 ·rw [List.modify_eq_self (by omega)] at h
  exact .inl h
def JumpsAt (C:List CodeD) (P:List (Nat × Int)):Prop:=∀ q ∈ P,∀ d,C[q.1]?=some d→d.kind=7 ∨ d.kind=8
theorem setN_kind (C:List CodeD) (k:Nat) (v:Int):(EnvF.setN C k v).map (·.kind)=C.map (·.kind):=by
 apply List.ext_getElem?
 intro i
 unfold EnvF.setN
 rw [List.getElem?_map,List.getElem?_map,List.getElem?_modify]
 cases C[i]? with
 | none=>rfl
 | some d=>
  simp only [Option.map_some,Option.map_eq_map]
  split <;> rfl
theorem patch_kind:∀ (P:List (Nat × Int)) (C:List CodeD),(EnvF.patch C P).map (·.kind)=C.map (·.kind)
 | [],_=>rfl
 | q :: r,C=>by
  show (EnvF.patch (EnvF.setN C q.1 q.2) r).map _=_
  rw [patch_kind r,setN_kind]
theorem kind_at {C D:List CodeD} (h:C.map (·.kind)=D.map (·.kind)) {k:Nat} {c d:CodeD} (hc:C[k]?=some c) (hd:D[k]?=some d):c.kind=d.kind:=by
 have:=congrArg (·[k]?) h
 simp only [List.getElem?_map,hc,hd,Option.map_some,Option.some.injEq] at this
 exact this
theorem jumps_set {C:List CodeD} {P:List (Nat × Int)} (h:JumpsAt C P) (k:Nat) (v:Int):JumpsAt (EnvF.setN C k v) P:=by
 intro q hq d hd
 have hl:q.1<C.length:=by rw [← EnvF.setN_length C k v];exact (List.getElem?_eq_some_iff.1 hd).1
 have h1:=h q hq _ (List.getElem?_eq_getElem hl)
 rw [kind_at (setN_kind C k v) hd (List.getElem?_eq_getElem hl)]
 exact h1
theorem okN_setN {F:FlatD} {n:Nat} {d:CodeD} (h:okN F n d) (hk:d.kind=7 ∨ d.kind=8) {v:Int} (hv:0≤v∧v<(n:Int)):okN F n { d with n:=v }:=by
 unfold okN codeOk mostF at h ⊢
 simp only [Bool.and_eq_true,decide_eq_true_eq,List.length_replicate] at h ⊢
 refine ⟨⟨⟨⟨h.1.1.1.1,hv.1,?_⟩,h.1.1.2⟩,h.1.2⟩,h.2⟩
 rcases hk with e|e <;> (rw [e];simp;exact hv.2)
theorem patch_okN {F:FlatD} {n:Nat}:∀ (P:List (Nat × Int)) (C:List CodeD),(∀ c ∈ C,okN F n c)→JumpsAt C P→(∀ q ∈ P,0≤q.2∧q.2<(n:Int))→∀ c ∈ EnvF.patch C P,okN F n c
 | [],_,h,_,_=>h
 | q :: r,C,h,hj,hv=>by
  show ∀ c ∈ EnvF.patch (EnvF.setN C q.1 q.2) r,okN F n c
  refine patch_okN r _ (fun c hc=>?_) (jumps_set (fun x hx=>hj x (by simp [hx])) _ _) (fun x hx=>hv x (by simp [hx]))
  rcases setN_mem hc with hc|⟨d,hd,hd2,rfl⟩
  ·exact h c hc
  ·exact okN_setN (h d hd) (hj q (by simp) d hd2) (hv q (by simp))
structure BodyG (F:FlatD) (s:StF):Prop where
 ok:∀ c ∈ s.C,okN F (s.C.length+1) c
 jl:∀ q ∈ s.J,∃ d,s.C[q.1]?=some d∧(d.kind=7 ∨ d.kind=8)
 tl:∀ k ∈ s.T,∃ d,s.C[k]?=some d∧d.kind=7
 ll:∀ q ∈ s.L,0≤q.2∧q.2≤(s.C.length:Int)
theorem lookG {s:StF} {F:FlatD} (h:BodyG F s) (nm:ByteArray):0≤lookL nm s.L∧lookL nm s.L≤(s.C.length:Int):=by
 unfold lookL atL
 cases hf:s.L.find? fun p=>decide (p.1=nm) with
 | none=>simp
 | some p=>simp;exact h.ll p (List.mem_of_find?_eq_some hf)
def GoodB (F:FlatD) (B:Int→Int→List CodeD→List CodeD) (g:Int):Prop:=∀ d C,0≤d→d<F.regs→(∀ c ∈ C,okN F (C.length+1) c)→(∀ c ∈ B g d C,okN F ((B g d C).length+1) c)∧∃ r,(B g d C).map (·.kind)=C.map (·.kind) ++ r
theorem map_kind_at {C D:List CodeD} {r:List Int} (h:D.map (·.kind)=C.map (·.kind) ++ r) {k:Nat} {c:CodeD} (hc:C[k]?=some c):∃ d,D[k]?=some d∧d.kind=c.kind:=by
 have hk:=(List.getElem?_eq_some_iff.1 hc).1
 have h1:=congrArg (·[k]?) h
 simp only [List.getElem?_map] at h1
 rw [List.getElem?_append_left (by simpa using hk),List.getElem?_map,hc] at h1
 obtain ⟨d,hd,e⟩:=Option.map_eq_some_iff.1 h1
 exact ⟨d,hd,e⟩
theorem last_okG (F:FlatD) (f dst:Int) (n:Nat) (hd:0≤f→0≤dst∧dst<F.regs) (hw:1≤F.width):okN F (n+1) (EnvF.last f dst):=by
 unfold EnvF.last
 split
 ·rename_i h
  refine okN_of (by simp [EnvF.copy]) (by simp [EnvF.copy]) (by simp [EnvF.copy,mostF]) (by simp [EnvF.copy,dstK];exact hd h) ?_ (zero_okG _)
  show refOk _ ⟨-1,0⟩ true=true
  unfold refOk
  simp only [if_true]
  rw [if_pos (by simp)]
  simp only [decide_eq_true_eq]
  exact Int.pow_pos (by decide)
 ·exact okN_of (by simp) (by simp) (by simp [mostF]) (by simp [dstK]) (zero_okG _) (zero_okG _)
theorem BodyG.grow {F:FlatD} {s:StF} (h:BodyG F s) {C:List CodeD} {r:List Int} (hk:C.map (·.kind)=s.C.map (·.kind) ++ r) (hC:∀ c ∈ C,okN F (C.length+1) c):BodyG F { s with C:=C }:=by
 have hl:s.C.length≤C.length:=by have:=congrArg List.length hk;simp at this;omega
 refine ⟨hC,fun q hq=>?_,fun k hq=>?_,fun q hq=>?_⟩
 ·obtain ⟨d,h1,h2⟩:=h.jl q hq
  obtain ⟨e,h3,h4⟩:=map_kind_at hk h1
  exact ⟨e,h3,by rw [h4];exact h2⟩
 ·obtain ⟨d,h1,h2⟩:=h.tl k hq
  obtain ⟨e,h3,h4⟩:=map_kind_at hk h1
  exact ⟨e,h3,by rw [h4];exact h2⟩
 ·have:=h.ll q hq
  exact ⟨this.1,by show q.2≤(C.length:Int);omega⟩
theorem okN_more {F:FlatD} {C D:List CodeD} (h:∀ c ∈ C,okN F (C.length+1) c) (hD:∀ c ∈ D,okN F ((C ++ D).length+1) c):∀ c ∈ C ++ D,okN F ((C ++ D).length+1) c:=by
 intro c hc
 rcases List.mem_append.1 hc with hc|hc
 ·exact okN_mono (h c hc) (by simp)
 ·exact hD c hc
section
variable {p:ProgD} (H:WfP p) (hw:WordsP p) {f:Int} (hf:IsBody p f)
include H hw hf
theorem parms_okG {g:Nat} {fd:FuncD} (hg:p.funcs[g]?=some fd) {x:InstrD} (hx:x ∈ (bodyF p f).2) (n:Nat):∀ (l:List ByteArray) (k:Nat),(∀ s ∈ l,s ∈ fd.params)→k+l.length≤x.args.length→∀ c ∈ (envOf p).parms f g x.args k l,okN (flatI p) (n+1) c
 | [],_,_,_,_,h=>by cases h
 | s :: r,k,hs,hl,c,h=>by
  rw [EnvF.parms] at h
  rw [List.length_cons] at hl
  rcases List.mem_cons.1 h with rfl|h
  ·have hr:0≤(envOf p).reg g s∧(envOf p).reg g s<(flatI p).regs:=by
    have h1:=regN_in (places_has (p:=p) (f:=g) (.inr ⟨g,fd,rfl,hg⟩) (s:=s) (.inl (by rw [bodyF_at hg];exact hs s (by simp))))
    unfold EnvF.reg
    show 0≤((regN (placesP p) g s:Nat):Int)∧((regN (placesP p) g s:Nat):Int)<((placesP p).length:Nat)
    omega
   exact okN_of (by simp [EnvF.copy]) (by simp [EnvF.copy]) (by simp [EnvF.copy,mostF]) (by simp [EnvF.copy,dstK];exact hr) (arg_okG H hw hf hx k _ (by omega)) (zero_okG _)
  ·exact parms_okG hg hx n r (k+1) (fun t ht=>hs t (by simp [ht])) (by omega) c h
omit H hf hw in
theorem zeros_okG {g:Nat} {fd:FuncD} (hg:p.funcs[g]?=some fd) (n:Nat):∀ c ∈ (envOf p).zeros g (localsL fd.params fd.code []),okN (flatI p) (n+1) c:=by
 intro c hc
 unfold EnvF.zeros at hc
 obtain ⟨s,hs,rfl⟩:=List.mem_map.1 hc
 have hr:0≤(envOf p).reg g s∧(envOf p).reg g s<(flatI p).regs:=by
  have h1:=regN_in (places_has (p:=p) (f:=g) (.inr ⟨g,fd,rfl,hg⟩) (s:=s) (.inr (by rw [bodyF_at hg];exact hs)))
  unfold EnvF.reg
  show 0≤((regN (placesP p) g s:Nat):Int)∧((regN (placesP p) g s:Nat):Int)<((placesP p).length:Nat)
  omega
 refine okN_of (by simp [EnvF.copy]) (by simp [EnvF.copy]) (by simp [EnvF.copy,mostF]) (by simp [EnvF.copy,dstK];exact hr) ?_ (zero_okG _)
 show refOk _ ⟨-1,0⟩ true=true
 unfold refOk
 simp only [if_true]
 rw [if_pos (by simp)]
 simp only [decide_eq_true_eq]
 exact Int.pow_pos (by decide)
theorem ahead_okG {g:Nat} {fd:FuncD} (hg:p.funcs[g]?=some fd) {x:InstrD} (hx:x ∈ (bodyF p f).2) (hn:fd.name=x.name) (ha:x.args.length=fd.params.length) (n:Nat):∀ c ∈ (envOf p).ahead f x,okN (flatI p) (n+1) c:=by
 have hfn:(envOf p).fnOf x.name=(g:Int):=by unfold EnvF.fnOf;rw [← hn];exact idxS_fn H.fn hg
 intro c hc
 unfold EnvF.ahead at hc
 rw [hfn] at hc
 have hb:bodyF (envOf p).p (g:Int)=(fd.params,fd.code):=bodyF_at hg
 rw [hb] at hc
 rcases List.mem_append.1 hc with hc|hc
 ·exact parms_okG H hw hf hg hx n fd.params 0 (fun s hs=>hs) (by omega) c hc
 ·exact zeros_okG hg n c hc
theorem stepI_okG {n:Nat} (IH:∀ g:Nat,EnvF.Fits p n g→GoodB (flatI p) ((envOf p).bodyI n) g) (hfit:EnvF.Fits p (n+1) f) {dst:Int} (hd:0≤f→0≤dst∧dst<(flatI p).regs) {x:InstrD} (hx:x ∈ (bodyF p f).2) (hret:x.kind=12→0≤f) {s:StF} (h:BodyG (flatI p) s):BodyG (flatI p) ((envOf p).stepI ((envOf p).bodyI n) f dst s x):=by
 obtain ⟨main,code,hi⟩:=wf_body H f x hx
 unfold EnvF.stepI
 split
 ·rename_i hk
  obtain ⟨g,hg1,hg2,hg3,hg4⟩:=hfit x hx hk
  obtain ⟨g',fd,e1,e2,e3⟩:=hi.call hk
  have hgg:g'=g:=by
   have:=idxS_fn H.fn e1
   rw [e2,hg1] at this
   omega
  subst hgg
  have hfn:(envOf p).fnOf x.name=(g':Int):=hg1
  rw [hfn]
  have hdst:0≤(envOf p).reg f x.dst∧(envOf p).reg f x.dst<(flatI p).regs:=by
   obtain ⟨_,g2,_⟩:=form_at hi.form (k:=4) hk (d:=true) (nm:=true) (n:=-1) rfl
   exact reg_okG hf (named_ne g2) hx (.inl rfl)
  have hah:=okN_more h.ok (fun c hc=>ahead_okG H hw hf e1 hx e2 e3 (s.C ++ (envOf p).ahead f x).length c hc)
  obtain ⟨r1,r,r2⟩:=IH g' hg4 _ _ hdst.1 hdst.2 hah
  exact h.grow (C:=(envOf p).bodyI n g' ((envOf p).reg f x.dst) (s.C ++ (envOf p).ahead f x)) (r:=((envOf p).ahead f x).map (·.kind) ++ r) (by rw [r2,List.map_append,List.append_assoc]) r1
 rename_i hk4
 split
 ·exact ⟨h.ok,h.jl,h.tl,fun q hq=>by
   rcases List.mem_cons.1 hq with rfl|hq
   ·exact ⟨Int.natCast_nonneg _,Int.le_refl _⟩
   ·exact h.ll q hq⟩
 rename_i hk10
 split
 ·rename_i hk
  have h1:=h.grow (C:=s.C ++ [(envOf p).one f x]) (r:=[((envOf p).one f x).kind]) (by simp) (okN_more h.ok (fun c hc=>by rw [List.mem_singleton] at hc;subst hc;exact one_okG H hw hf hx hk4 hk10 (by omega) _))
  refine ⟨h1.ok,fun q hq=>?_,h1.tl,h1.ll⟩
  rcases List.mem_append.1 hq with hq|hq
  ·exact h1.jl q hq
  ·rw [List.mem_singleton] at hq
   subst hq
   refine ⟨(envOf p).one f x,by show (s.C ++ [_])[s.C.length]?=_;simp,?_⟩
   rcases hk with e|e
   ·left;unfold EnvF.one
    simp [e]
   ·right;unfold EnvF.one
    simp [e]
 split
 ·rename_i hk
  have h0:=hret hk
  have hl:(x.args.length:Int)=1:=by
   obtain ⟨_,_,_,g4,_⟩:=form_at hi.form (k:=12) hk (d:=false) (nm:=false) (n:=1) rfl
   have e:wantZ x 1=1:=by unfold wantZ;rw [if_neg (by omega)]
   have:=count_is g4 (by omega)
   omega
  have h1:=h.grow (C:=s.C ++ [EnvF.copy dst ((envOf p).arg f x.args 0),EnvF.jump0]) (r:=[0,7]) (by simp [EnvF.copy,EnvF.jump0]) (okN_more h.ok (fun c hc=>by
   simp only [List.mem_cons,List.not_mem_nil,or_false] at hc
   rcases hc with rfl|rfl
   ·exact okN_of (by simp [EnvF.copy]) (by simp [EnvF.copy]) (by simp [EnvF.copy,mostF]) (by simp [EnvF.copy,dstK];exact hd h0) (arg_okG H hw hf hx 0 _ (by omega)) (zero_okG _)
   ·exact okN_of (by simp [EnvF.jump0]) (by simp [EnvF.jump0]) (by simp [EnvF.jump0,mostF];omega) (by simp [EnvF.jump0,dstK]) (zero_okG _) (zero_okG _)))
  refine ⟨h1.ok,h1.jl,fun k hq=>?_,h1.ll⟩
  rcases List.mem_append.1 hq with hq|hq
  ·exact h1.tl k hq
  ·rw [List.mem_singleton] at hq
   subst hq
   exact ⟨EnvF.jump0,by show (s.C ++ [_,_])[s.C.length+1]?=_;simp,rfl⟩
 ·rename_i hk8 hk12
  exact h.grow (C:=s.C ++ [(envOf p).one f x]) (r:=[((envOf p).one f x).kind]) (by simp) (okN_more h.ok (fun c hc=>by rw [List.mem_singleton] at hc;subst hc;exact one_okG H hw hf hx hk4 hk10 hk12 _))
theorem foldI_okG {n:Nat} (IH:∀ g:Nat,EnvF.Fits p n g→GoodB (flatI p) ((envOf p).bodyI n) g) (hfit:EnvF.Fits p (n+1) f) {dst:Int} (hd:0≤f→0≤dst∧dst<(flatI p).regs) (hret:∀ x ∈ (bodyF p f).2,x.kind=12→0≤f):∀ (l:List InstrD) (s:StF),(∀ x ∈ l,x ∈ (bodyF p f).2)→BodyG (flatI p) s→BodyG (flatI p) (l.foldl ((envOf p).stepI ((envOf p).bodyI n) f dst) s)
 | [],_,_,h=>h
 | x :: r,s,hl,h=>by
  rw [List.foldl_cons]
  exact foldI_okG IH hfit hd hret r _ (fun y hy=>hl y (by simp [hy])) (stepI_okG H hw hf IH hfit hd (hl x (by simp)) (hret x (hl x (by simp))) h)
end
theorem finish_okG {F:FlatD} {s:StF} (h:BodyG F s) {f dst:Int} {m:Nat} (hd:0≤f→0≤dst∧dst<F.regs) (hw:1≤F.width) (hm:s.C.length+1≤m) (ht:s.T ≠ []→s.C.length+2≤m):∀ c ∈ EnvF.finishI f dst s,okN F m c:=by
 unfold EnvF.finishI
 have h0:∀ c ∈ s.C ++ [EnvF.last f dst],okN F m c:=by
  intro c hc
  rcases List.mem_append.1 hc with hc|hc
  ·exact okN_mono (h.ok c hc) hm
  ·rw [List.mem_singleton] at hc
   subst hc
   exact okN_mono (last_okG F f dst s.C.length hd hw) hm
 have hj:JumpsAt (s.C ++ [EnvF.last f dst]) (EnvF.jumpsOf s):=by
  intro q hq d hdq
  unfold EnvF.jumpsOf at hq
  obtain ⟨q',hq',rfl⟩:=List.mem_map.1 hq
  obtain ⟨e,h1,h2⟩:=h.jl q' hq'
  have hl:=(List.getElem?_eq_some_iff.1 h1).1
  rw [List.getElem?_append_left hl,h1] at hdq
  cases hdq
  exact h2
 have h1:=patch_okN (EnvF.jumpsOf s) _ h0 hj (fun q hq=>by
  unfold EnvF.jumpsOf at hq
  obtain ⟨q',hq',rfl⟩:=List.mem_map.1 hq
  have:=lookG h q'.2
  omega)
 refine patch_okN _ _ h1 (fun q hq d hdq=>?_) (fun q hq=>?_)
 ·obtain ⟨k,hk,rfl⟩:=List.mem_map.1 hq
  obtain ⟨e,h2,h3⟩:=h.tl k hk
  have hl:=(List.getElem?_eq_some_iff.1 h2).1
  have h4:(s.C ++ [EnvF.last f dst])[k]?=some e:=by rw [List.getElem?_append_left hl,h2]
  left
  rw [kind_at (patch_kind _ _) hdq h4]
  exact h3
 ·obtain ⟨k,hk,rfl⟩:=List.mem_map.1 hq
  have:=ht (fun e=>by rw [e] at hk;cases hk)
  show 0≤((s.C.length:Int)+1)∧(s.C.length:Int)+1<(m:Int)
  omega
theorem finish_kind (f dst:Int) (s:StF):(EnvF.finishI f dst s).map (·.kind)=s.C.map (·.kind) ++ [(EnvF.last f dst).kind]:=by
 unfold EnvF.finishI
 rw [patch_kind,patch_kind,List.map_append];rfl
theorem stepI_kindG {E:EnvF} {B:Int→Int→List CodeD→List CodeD} (hB:∀ g d C,∃ r,(B g d C).map (·.kind)=C.map (·.kind) ++ r) (f dst:Int) (s:StF) (x:InstrD):∃ r,(E.stepI B f dst s x).C.map (·.kind)=s.C.map (·.kind) ++ r:=by
 unfold EnvF.stepI
 split
 ·obtain ⟨r,h⟩:=hB (E.fnOf x.name) (E.reg f x.dst) (s.C ++ E.ahead f x)
  exact ⟨(E.ahead f x).map (·.kind) ++ r,by show (B _ _ _).map _=_;rw [h,List.map_append,List.append_assoc]⟩
 split
 ·exact ⟨[],by simp⟩
 split
 ·exact ⟨[(E.one f x).kind],by simp⟩
 split
 ·exact ⟨[0,7],by simp [EnvF.copy,EnvF.jump0]⟩
 ·exact ⟨[(E.one f x).kind],by simp⟩
theorem bodyI_kindG (E:EnvF):∀ (n:Nat) (f dst:Int) (C:List CodeD),∃ r,(E.bodyI n f dst C).map (·.kind)=C.map (·.kind) ++ r
 | 0,_,_,C=>⟨[],by simp [EnvF.bodyI]⟩
 | n+1,f,dst,C=>by
  have:∀ (l:List InstrD) (s:StF),∃ r,(l.foldl (E.stepI (E.bodyI n) f dst) s).C.map (·.kind)=s.C.map (·.kind) ++ r:=by
   intro l
   induction l with
   | nil=>exact fun s=>⟨[],by simp⟩
   | cons x r ih=>
    intro s
    obtain ⟨r1,h1⟩:=stepI_kindG (bodyI_kindG E n) f dst s x
    obtain ⟨r2,h2⟩:=ih (E.stepI (E.bodyI n) f dst s x)
    exact ⟨r1 ++ r2,by rw [List.foldl_cons,h2,h1,List.append_assoc]⟩
  obtain ⟨r,h⟩:=this (bodyF E.p f).2 ⟨C,[],[],[],false⟩
  refine ⟨r ++ [(EnvF.last f dst).kind],?_⟩
  show (EnvF.finishI f dst (E.foldI _ f dst _ C)).map _=_
  rw [finish_kind]
  unfold EnvF.foldI
  rw [h,List.append_assoc]
theorem start_okG {F:FlatD} {C:List CodeD} (h:∀ c ∈ C,okN F (C.length+1) c):BodyG F ⟨C,[],[],[],false⟩:=⟨h,(fun q hq=>by cases hq),(fun q hq=>by cases hq),(fun q hq=>by cases hq)⟩
theorem body_okG {p:ProgD} (H:WfP p) (hw:WordsP p):∀ (n g:Nat),EnvF.Fits p n g→GoodB (flatI p) ((envOf p).bodyI n) g
 | 0,_,h=>h.elim
 | n+1,g,hfit=>by
  intro d C hd0 hd1 hC
  refine ⟨?_,bodyI_kindG _ _ _ _ _⟩
  by_cases hg:∃ fd,p.funcs[g]?=some fd
  ·obtain ⟨fd,hg⟩:=hg
   have hb:=foldI_okG H hw (f:=g) (.inr ⟨g,fd,rfl,hg⟩) (fun g' h'=>body_okG H hw n g' h') hfit (dst:=d) (fun _=>⟨hd0,hd1⟩) (fun x _ _=>Int.natCast_nonneg _) (bodyF p g).2 ⟨C,[],[],[],false⟩ (fun x hx=>hx) (start_okG hC)
   have hl:((envOf p).bodyI (n+1) g d C).length=((bodyF p g).2.foldl ((envOf p).stepI ((envOf p).bodyI n) g d) ⟨C,[],[],[],false⟩).C.length+1:=EnvF.finishI_length _ _ _
   rw [hl]
   exact finish_okG hb (fun _=>⟨hd0,hd1⟩) H.wd.1 (by omega) (fun _=>by omega)
  ·have hb:bodyF p (g:Int)=([],[]):=by
    unfold bodyF
    rw [if_neg (by omega)]
    cases h:p.funcs[(g:Int).toNat]? with
    | none=>rfl
    | some fd=>exact absurd ⟨fd,by simpa using h⟩ hg
   have e:(envOf p).bodyI (n+1) g d C=EnvF.finishI g d ⟨C,[],[],[],false⟩:=by
    show EnvF.finishI g d ((bodyF p g).2.foldl _ _)=_
    rw [hb];rfl
   rw [e,EnvF.finishI_length]
   exact finish_okG (start_okG hC) (fun _=>⟨hd0,hd1⟩) H.wd.1 (by show C.length+1≤C.length+1+1;omega) (fun h=>absurd rfl h)
theorem foldl_T {E:EnvF} {B:Int→Int→List CodeD→List CodeD} {f dst:Int}:∀ (l:List InstrD) (s:StF),(∀ x ∈ l,x.kind ≠ 12)→(l.foldl (E.stepI B f dst) s).T=s.T
 | [],_,_=>rfl
 | x :: r,s,h=>by
  rw [List.foldl_cons,foldl_T r _ (fun y hy=>h y (by simp [hy]))]
  have:=h x (by simp)
  unfold EnvF.stepI
  split
  ·rfl
  split
  ·rfl
  split
  ·rfl
  rfl
theorem flat_valid {p:ProgD} (H:WfP p) (hw:WordsP p) (hr:(placesP p).length≤2000000) (hl:(codeI25 p).length≤4096):flatOk (flatI p)=true:=by
 have hret:∀ x ∈ (bodyF p (-1)).2,x.kind=12→(0:Int)≤-1:=fun x hx hk=>absurd hk ((H.main.ins x hx).ret rfl)
 have hd:(0:Int)≤-1→0≤(0:Int)∧(0:Int)<(flatI p).regs:=fun h=>absurd h (by decide)
 have hb:=foldI_okG H hw (f:=-1) (.inl rfl) (fun g' h'=>body_okG H hw p.funcs.length g' h') (fits_main H) (dst:=0) hd hret (bodyF p (-1)).2 ⟨[],[],[],[],false⟩ (fun x hx=>hx) (start_okG (fun c hc=>by cases hc))
 have hT:=foldl_T (E:=envOf p) (B:=(envOf p).bodyI p.funcs.length) (f:=-1) (dst:=0) (bodyF p (-1)).2 ⟨[],[],[],[],false⟩ (fun x hx hk=>absurd (hret x hx hk) (by decide))
 obtain ⟨s,hs⟩:∃ s,(bodyF p (-1)).2.foldl ((envOf p).stepI ((envOf p).bodyI p.funcs.length) (-1) 0) ⟨[],[],[],[],false⟩=s:=⟨_,rfl⟩
 rw [hs] at hb hT
 have hcode:codeI25 p=EnvF.finishI (-1) 0 s:=by
  show EnvF.finishI (-1) 0 ((envOf p).foldI _ (-1) 0 (bodyF p (-1)).2 [])=_
  unfold EnvF.foldI
  rw [hs]
 have hlen:(codeI25 p).length=s.C.length+1:=by rw [hcode];exact EnvF.finishI_length _ _ _
 have hall:∀ c ∈ codeI25 p,codeOk (flatI p) c=true:=by
  intro c hc
  rw [← okN_self]
  show okN (flatI p) (codeI25 p).length c
  rw [hlen]
  rw [hcode] at hc
  exact finish_okG hb hd H.wd.1 (Nat.le_refl _) (fun h=>absurd hT h) c hc
 have hlast:lastK (flatI p)=9:=by
  unfold lastK
  show (match (codeI25 p).getLast? with|some c=>c.kind|none=>0)=9
  have h1:=finish_kind (-1) 0 s
  rw [← hcode] at h1
  have h2:=congrArg List.getLast? h1
  rw [List.getLast?_map,List.getLast?_concat] at h2
  cases hq:(codeI25 p).getLast? with
  | none=>rw [hq] at h2;cases h2
  | some c=>rw [hq] at h2;simp only [Option.map_some,Option.some.injEq] at h2;exact h2
 have hsn:∀ s ∈ sitesAllF p,named s=true:=by
  intro s hs
  unfold sitesAllF at hs
  rcases sites_from _ _ hs with h|⟨x,hx,hk,rfl⟩
  ·cases h
  ·obtain ⟨f,main,code,_,_,hi⟩:=mem_codes hx
   obtain ⟨_,_,g3,_⟩:=form_at (hi H).form (k:=7) hk (d:=true) (nm:=true) (n:=1) rfl
   exact g3
 unfold flatOk
 simp only [Bool.and_eq_true,List.all_eq_true]
 refine ⟨⟨⟨?_,fun n hn=>?_⟩,hall⟩,by rw [hlast];rfl⟩
 ·unfold headOk
  simp only [Bool.and_eq_true,decide_eq_true_eq]
  have hrr:(flatI p).regs=((placesP p).length:Nat):=rfl
  refine ⟨⟨⟨⟨⟨⟨H.wd.1,H.wd.2⟩,by rw [hrr];omega⟩,by rw [hrr];omega⟩,namesOk_of H.chn.2 H.chn.1 H.chl⟩,namesOk_of hsn (sites_nodupF _ _ List.nodup_nil) H.sites⟩,⟨by show (p.arrays.map (·.size)).length≤32;rw [List.length_map];exact H.arl,by show 1≤(codeI25 p).length;omega⟩,hl⟩
 ·obtain ⟨a,ha,rfl⟩:=List.mem_map.1 hn
  unfold arrOk
  simp only [Bool.and_eq_true,decide_eq_true_eq]
  exact H.ars a ha
end Go.Proofs.YtgllkgedjplpdaaDoor
