/- Plain: a policy with a level for each channel and site fits the program; with one left out it does not. Condition: the program has no fault. No Go function in sight. -/
import Derived.Test.YtgllkgedjplpdaaDoorRfA
import Derived.Test.YtgllkgedjplpdaaDoorRgA
set_option linter.all false
set_option maxRecDepth 1000000
set_option maxHeartbeats 12800000
set_option linter.unusedVariables false
set_option linter.unusedSimpArgs false
namespace Go.Proofs.YtgllkgedjplpdaaDoor
theorem named_tokR {s:ByteArray} (h:named s=true):tokName s=true:=by
 unfold named at h
 rw [Bool.and_eq_true] at h
 exact h.1
theorem sites_named {p:ProgD} (H:WfP p):∀ s ∈ sitesAllF p,named s=true:=by
 intro s hs
 unfold sitesAllF at hs
 rcases sites_from _ _ hs with h|⟨x,hx,hk,rfl⟩
 ·cases h
 ·obtain ⟨f,main,code,_,_,hi⟩:=mem_codes hx
  obtain ⟨_,_,g3,_⟩:=form_at (hi H).form (k:=7) hk (d:=true) (nm:=true) (n:=1) rfl
  exact g3
theorem binds_ok {n:Int}:∀ (l:List BindD) (had:List ByteArray),(∀ b ∈ l,tokName b.name=true∧0≤b.level∧b.level<n)→(had ++ l.map (·.name)).Nodup→bindsAt n had l=0
 | [],_,_,_=>rfl
 | b :: l,had,h,hn=>by
  have hb:=h b (by simp)
  have h1:b.name ∉ had:=by
   have:=(List.nodup_append.1 hn).2.2
   exact fun hd=>this _ hd b.name (by simp) rfl
  have h2:hasS b.name had=false:=by
   rw [Pre.hasS_inL]
   cases hi:inL b.name had with
   | false=>rfl
   | true=>exact absurd (inL_iff.1 hi) h1
  rw [bindsAt,if_neg (by rw [hb.1];simp),if_neg (by rw [h2];simp),if_neg (by omega)]
  exact binds_ok l _ (fun c hc=>h c (by simp [hc])) (by simpa using hn)
theorem pol_ok {q:PolD} (h:polErr { q with chans:=[],sites:=[] }=0) (h1:bindsErr q.levels.length q.chans=0) (h2:bindsErr q.levels.length q.sites=0):polErr q=0:=by
 unfold polErr at h ⊢
 split at h
 ·cases h
 ·rename_i g1
  split at h
  ·cases h
  ·rename_i g2
   split at h
   ·rename_i g3;exact absurd h g3
   ·rename_i g3
    split at h
    ·rename_i g4;exact absurd h g4
    ·rename_i g4
     split at h
     ·rename_i g5;exact absurd h g5
     ·have g1':¬ q.levels.length=0:=g1
      have g2':¬ 32<q.levels.length:=g2
      have g3':¬ wordsErr [] q.levels ≠ 0:=g3
      have g4':¬ latErr q.levels.length q.order ≠ 0:=g4
      rw [if_neg g1',if_neg g2',if_neg g3',if_neg g4',h1,h2]
      simp only [ne_eq,not_true_eq_false,if_false]
      exact h
theorem part_pol {P:ProgD} {R:PolD} (H:WfP P) (h:GivenQ P R) {c s:List BindD} (hc:c.Sublist R.chans) (hs:s.Sublist R.sites):polErr { R with chans:=c,sites:=s }=0:=by
 obtain ⟨h1,h2,h3,h4⟩:=h
 have hcn:(R.chans.map (·.name)).Nodup∧∀ s ∈ R.chans.map (·.name),named s=true:=by rw [h1];exact H.chn
 have hsn:(R.sites.map (·.name)).Nodup∧∀ s ∈ R.sites.map (·.name),named s=true:=by rw [h2];exact ⟨sites_nodupF _ _ List.nodup_nil,sites_named H⟩
 have hcl:R.chans.length≤32:=by rw [← List.length_map (·.name),h1];exact H.chl
 have hsl:R.sites.length≤32:=by rw [← List.length_map (·.name),h2];exact H.sites
 refine pol_ok h4 ?_ ?_
 ·show bindsErr R.levels.length c=0
  unfold bindsErr
  rw [if_neg (by have:=hc.length_le;omega)]
  refine binds_ok c [] (fun b hb=>⟨named_tokR (hcn.2 _ (List.mem_map.2 ⟨b,hc.subset hb,rfl⟩)),h3 b (List.mem_append_left _ (hc.subset hb))⟩) ?_
  rw [List.nil_append]
  exact hcn.1.sublist (hc.map _)
 ·show bindsErr R.levels.length s=0
  unfold bindsErr
  rw [if_neg (by have:=hs.length_le;omega)]
  refine binds_ok s [] (fun b hb=>⟨named_tokR (hsn.2 _ (List.mem_map.2 ⟨b,hs.subset hb,rfl⟩)),h3 b (List.mem_append_right _ (hs.subset hb))⟩) ?_
  rw [List.nil_append]
  exact hsn.1.sublist (hs.map _)
theorem levelOf_none {l:List BindD} {s:ByteArray}:levelOf l s=none ↔ s ∉ l.map (·.name):=by
 induction l with
 | nil=>simp [levelOf]
 | cons b l ih=>
  rw [levelOf]
  by_cases hb:b.name=s
  ·have:isB s b=true:=by unfold isB;simp [hb]
   rw [this]
   simp [hb]
  ·have:isB s b=false:=by
    unfold isB
    simp only [beq_eq_false_iff_ne,ne_eq]
    exact fun e=>hb (Pre.ba_inj e)
   rw [this]
   simp only [Bool.false_eq_true,if_false,List.map_cons,List.mem_cons,not_or]
   rw [ih]
   exact ⟨fun h=>⟨fun e=>hb e.symm,h⟩,fun h=>h.2⟩
theorem noChan_iff {q:PolD} {s:ByteArray}:noChan q s=true ↔ s ∉ q.chans.map (·.name):=by
 unfold noChan
 rw [Option.isNone_iff_eq_none,levelOf_none]
theorem relB_iff {q:PolD} {x:InstrD}:relB q x=true ↔ x.kind=7∧x.name ∉ q.sites.map (·.name):=by
 unfold relB
 rw [Bool.and_eq_true,Option.isNone_iff_eq_none,levelOf_none,beq_iff_eq]
theorem given_fits {P:ProgD} {R:PolD} (hc:checkF P=none) (h:GivenQ P R):rulesC P R=((0,0),0):=by
 have hp:polErr R=0:=part_pol (wfP_of hc) h (List.Sublist.refl _) (List.Sublist.refl _)
 unfold rulesC fitF
 rw [hc,hp]
 have h1:P.chans.find? (noChan R)=none:=by
  rw [List.find?_eq_none]
  intro s hs hn
  rw [noChan_iff,h.1] at hn
  exact hn hs
 have h2:(allI P).find? (relB R)=none:=by
  rw [List.find?_eq_none]
  intro x hx hn
  rw [relB_iff,h.2.1] at hn
  exact hn.2 (sites_mem.2 ⟨x,hx,hn.1,rfl⟩)
 simp only [h1,h2]
 rfl
theorem erase_notin {l:List ByteArray} (h:l.Nodup) {k:Nat} {s:ByteArray} (hs:l[k]?=some s):s ∉ l.eraseIdx k:=by
 intro hm
 obtain ⟨i,hi⟩:=List.getElem?_of_mem hm
 rw [List.getElem?_eraseIdx] at hi
 split at hi
 ·have:=nodup_get h hs hi;omega
 ·have:=nodup_get h hs hi;omega
theorem erase_in {l:List ByteArray} {k:Nat} {s t:ByteArray} (hs:l[k]?=some s) (ht:t ∈ l) (hn:t ∉ l.eraseIdx k):t=s:=by
 obtain ⟨i,hi⟩:=List.getElem?_of_mem ht
 by_cases h:i=k
 ·subst h
  rw [hs] at hi
  exact (Option.some.inj hi).symm
 ·exfalso
  apply hn
  by_cases hik:i<k
  ·exact List.mem_of_getElem? (i:=i) (by rw [List.getElem?_eraseIdx,if_pos hik];exact hi)
  ·exact List.mem_of_getElem? (i:=i - 1) (by rw [List.getElem?_eraseIdx,if_neg (by omega)];rw [show i - 1+1=i by omega];exact hi)
theorem map_erase {l:List BindD} {k:Nat}:(l.eraseIdx k).map (·.name)=(l.map (·.name)).eraseIdx k:=by
 apply List.ext_getElem?
 intro i
 rw [List.getElem?_map,List.getElem?_eraseIdx,List.getElem?_eraseIdx]
 split <;> rw [List.getElem?_map]
def AtName (P:ProgD) (s:ByteArray) (a:Int × Int):Prop:=a=(0,0) ∨ ∃ x ∈ allI P,x.name=s∧(x.line,x.col)=a
theorem atI_name {P:ProgD} {s:ByteArray} {f:InstrD→Bool} (hf:∀ x,f x=true→x.name=s):AtName P s (atI ((allI P).find? f)):=by
 cases h:(allI P).find? f with
 | none=>exact .inl rfl
 | some x=>exact .inr ⟨x,List.mem_of_find?_eq_some h,hf x (List.find?_some h),rfl⟩
theorem less_chan {P:ProgD} {R:PolD} (hc:checkF P=none) (h:GivenQ P R) {k:Nat} {b:BindD} (hb:R.chans[k]?=some b):∃ a,rulesC P { R with chans:=R.chans.eraseIdx k }=(a,6)∧AtName P b.name a:=by
 have H:=wfP_of hc
 have hp:=part_pol H h (List.eraseIdx_sublist R.chans k) (List.Sublist.refl R.sites)
 have hs:P.chans[k]?=some b.name:=by rw [← h.1,List.getElem?_map,hb];rfl
 have hno:∀ s,noChan { R with chans:=R.chans.eraseIdx k } s=true ↔ s ∉ P.chans.eraseIdx k:=fun s=>by
  rw [noChan_iff]
  show s ∉ (R.chans.eraseIdx k).map (·.name) ↔ _
  rw [map_erase,h.1]
 have hf:P.chans.find? (noChan { R with chans:=R.chans.eraseIdx k })=some b.name:=by
  cases hq:P.chans.find? (noChan { R with chans:=R.chans.eraseIdx k }) with
  | none=>
   have:=List.find?_eq_none.1 hq _ (List.mem_of_getElem? hs)
   exact absurd ((hno _).2 (erase_notin H.chn.1 hs)) this
  | some t=>
   rw [erase_in hs (List.mem_of_find?_eq_some hq) ((hno t).1 (List.find?_some hq))]
 refine ⟨atI ((allI P).find? (rwB b.name)),?_,?_⟩
 ·unfold rulesC fitF
  rw [hc]
  simp only
  rw [show polErr { R with chans:=R.chans.eraseIdx k }=0 from hp,if_neg (by simp),hf]
 ·exact atI_name fun x hx=>by
   unfold rwB at hx
   rw [Bool.and_eq_true,beq_iff_eq] at hx
   exact Pre.ba_inj hx.2
theorem less_site {P:ProgD} {R:PolD} (hc:checkF P=none) (h:GivenQ P R) {k:Nat} {b:BindD} (hb:R.sites[k]?=some b):∃ a,rulesC P { R with sites:=R.sites.eraseIdx k }=(a,6)∧AtName P b.name a:=by
 have H:=wfP_of hc
 have hp:=part_pol H h (List.Sublist.refl R.chans) (List.eraseIdx_sublist R.sites k)
 have hs:(sitesAllF P)[k]?=some b.name:=by rw [← h.2.1,List.getElem?_map,hb];rfl
 have hno:∀ x,relB { R with sites:=R.sites.eraseIdx k } x=true ↔ x.kind=7∧x.name ∉ (sitesAllF P).eraseIdx k:=fun x=>by
  rw [relB_iff]
  show _∧x.name ∉ (R.sites.eraseIdx k).map (·.name) ↔ _
  rw [map_erase,h.2.1]
 have h1:P.chans.find? (noChan { R with sites:=R.sites.eraseIdx k })=none:=by
  rw [List.find?_eq_none]
  intro s hs hn
  rw [noChan_iff] at hn
  have hn:s ∉ R.chans.map (·.name):=hn
  rw [h.1] at hn
  exact hn hs
 obtain ⟨y,hy,hyn⟩:∃ x,(allI P).find? (relB { R with sites:=R.sites.eraseIdx k })=some x∧x.name=b.name:=by
  cases hq:(allI P).find? (relB { R with sites:=R.sites.eraseIdx k }) with
  | none=>
   exfalso
   obtain ⟨x,hx,hk,hxn⟩:=sites_mem.1 (List.mem_of_getElem? hs)
   refine List.find?_eq_none.1 hq x hx ((hno x).2 ⟨hk,?_⟩)
   rw [hxn]
   exact erase_notin (sites_nodupF _ _ List.nodup_nil) hs
  | some t=>
   obtain ⟨t1,t2⟩:=(hno t).1 (List.find?_some hq)
   exact ⟨t,rfl,erase_in hs (sites_mem.2 ⟨t,List.mem_of_find?_eq_some hq,t1,rfl⟩) t2⟩
 refine ⟨(y.line,y.col),?_,.inr ⟨y,List.mem_of_find?_eq_some hy,hyn,rfl⟩⟩
 unfold rulesC fitF
 rw [hc]
 simp only
 rw [show polErr { R with sites:=R.sites.eraseIdx k }=0 from hp,if_neg (by simp),h1,hy]
 rfl
end Go.Proofs.YtgllkgedjplpdaaDoor
