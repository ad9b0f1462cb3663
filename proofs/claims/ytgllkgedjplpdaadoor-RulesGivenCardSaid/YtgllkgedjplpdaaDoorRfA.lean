/- Plain: a policy fits a program if and only if the flat program has a level for each of its channels and sites. Condition: the flat program is valid. No Go function in sight. -/
import Derived.Test.YtgllkgedjplpdaaDoorRuC
import Derived.Test.YtgllkgedjplpdaaDoorRuV
set_option linter.all false
set_option maxRecDepth 1000000
set_option maxHeartbeats 12800000
set_option linter.unusedVariables false
set_option linter.unusedSimpArgs false
namespace Go.Proofs.YtgllkgedjplpdaaDoor
theorem levelsOf_none {l:List BindD}:∀ {ns:List ByteArray},levelsOf l ns=none ↔ ∃ s ∈ ns,levelOf l s=none
 | []=>by simp [levelsOf]
 | s :: r=>by
  rw [levelsOf]
  cases h:levelOf l s with
  | none=>simp [h]
  | some x=>
   simp only [Option.map_eq_none_iff,List.mem_cons,exists_eq_or_imp,h,reduceCtorEq,false_or]
   exact levelsOf_none
theorem levelsOf_at {l:List BindD}:∀ {ns:List ByteArray} {xs:List Int},levelsOf l ns=some xs→xs.length=ns.length∧∀ (i:Nat) (s:ByteArray) (x:Int),ns[i]?=some s→xs[i]?=some x→levelOf l s=some x
 | [],xs,h=>by
  simp only [levelsOf,Option.some.injEq] at h
  subst h
  exact ⟨rfl,fun i s x h1=>by simp at h1⟩
 | t :: r,xs,h=>by
  rw [levelsOf] at h
  cases ht:levelOf l t with
  | none=>rw [ht] at h;cases h
  | some y=>
   rw [ht] at h
   simp only [Option.map_eq_some_iff] at h
   obtain ⟨ys,h1,rfl⟩:=h
   obtain ⟨h2,h3⟩:=levelsOf_at h1
   refine ⟨by simp [h2],fun i s x hs hx=>?_⟩
   cases i with
   | zero=>simp only [List.getElem?_cons_zero,Option.some.injEq] at hs hx;subst hs;subst hx;exact ht
   | succ i=>simp only [List.getElem?_cons_succ] at hs hx;exact h3 i s x hs hx
theorem sites_mem {s:ByteArray} {l:List InstrD}:s ∈ sitesOf [] l ↔ ∃ x ∈ l,x.kind=7∧x.name=s:=by
 refine ⟨fun h=>?_,?_⟩
 ·rcases sites_from l [] h with h|h
  ·cases h
  ·exact h
 ·rintro ⟨x,hx,hk,rfl⟩
  exact sites_has hk l [] hx
theorem rel_iff {p:ProgD} {q:PolD}:(allI p).find? (relB q)=none ↔ levelsOf q.sites (sitesAllF p) ≠ none:=by
 rw [List.find?_eq_none,Ne,levelsOf_none]
 refine ⟨fun h ⟨s,hs,hl⟩=>?_,fun h x hx hr=>?_⟩
 ·obtain ⟨x,hx,hk,rfl⟩:=sites_mem.1 hs
  exact h x hx (by unfold relB;simp [hk,hl])
 ·refine h ⟨x.name,?_,?_⟩
  ·refine sites_mem.2 ⟨x,hx,?_,rfl⟩
   unfold relB at hr;simp at hr;exact hr.1
  ·unfold relB at hr;simp at hr;exact hr.2
theorem chan_iff {p:ProgD} {q:PolD}:p.chans.find? (noChan q)=none ↔ levelsOf q.chans p.chans ≠ none:=by
 rw [List.find?_eq_none,Ne,levelsOf_none]
 refine ⟨fun h ⟨s,hs,hl⟩=>h s hs (by unfold noChan;simp [hl]),fun h s hs hr=>h ⟨s,hs,?_⟩⟩
 unfold noChan at hr;simpa using hr
theorem fit_err {p:ProgD} {q:PolD} (h:checkF p=none) (ho:flatOk (flatI p)=true):rulesErr (flatI p) q=(rulesC p q).2:=by
 have hc:(flatI p).chans=p.chans:=rfl
 have hs:(flatI p).sites=sitesAllF p:=rfl
 have hf:flatE (flatI p)=0:=by unfold flatE;rw [ho];rfl
 unfold rulesErr rulesC
 rw [h,hf,hc,hs]
 simp only [ne_eq,not_true_eq_false,if_false]
 unfold fitF
 by_cases hp:polErr q=0
 ·rw [hp]
  simp only [ne_eq,not_true_eq_false,if_false]
  cases hch:p.chans.find? (noChan q) with
  | some c=>
   have:levelsOf q.chans p.chans=none:=by
    cases hl:levelsOf q.chans p.chans with
    | none=>rfl
    | some x=>rw [chan_iff.2 (by rw [hl];simp)] at hch;cases hch
   rw [this];rfl
  | none=>
   have h1:=chan_iff.1 hch
   cases hl:levelsOf q.chans p.chans with
   | none=>exact absurd hl h1
   | some xs=>
    cases hr:(allI p).find? (relB q) with
    | some x=>
     have:levelsOf q.sites (sitesAllF p)=none:=by
      cases hl:levelsOf q.sites (sitesAllF p) with
      | none=>rfl
      | some x=>rw [rel_iff.2 (by rw [hl];simp)] at hr;cases hr
     rw [this];rfl
    | none=>
     have h2:=rel_iff.1 hr
     cases hl2:levelsOf q.sites (sitesAllF p) with
     | none=>exact absurd hl2 h2
     | some ys=>rfl
 ·rw [if_pos hp,if_pos hp]
theorem fit_pos {p:ProgD} {q:PolD} (h:(rulesC p q).2=0):(rulesC p q).1=(0,0):=by
 unfold rulesC at h ⊢
 cases hc:checkF p with
 | some F=>
  rw [hc] at h
  have:=(check_fault hc).1
  simp only at h
  omega
 | none=>
  rw [hc] at h
  simp only at h ⊢
  unfold fitF at h ⊢
  split at h
  ·rename_i hp;exact absurd h hp
  ·rename_i hp
   rw [if_neg hp]
   cases hf:p.chans.find? (noChan q) with
   | some c=>rw [hf] at h;simp at h
   | none=>
    rw [hf] at h
    simp only at h ⊢
    cases hr:(allI p).find? (relB q) with
    | some x=>rw [hr] at h;simp at h
    | none=>rfl
theorem levs_of {f:FlatD} {q:PolD} (h:rulesErr f q=0):levelsOf q.chans f.chans=some (chansL f q)∧levelsOf q.sites f.sites=some (sitesL f q):=by
 unfold rulesErr at h
 unfold chansL sitesL
 split at h
 ·rename_i hn;exact absurd h hn
 ·split at h
  ·rename_i hn;exact absurd h hn
  ·cases h1:levelsOf q.chans f.chans with
   | none=>rw [h1] at h;simp at h
   | some x=>
    rw [h1] at h
    cases h2:levelsOf q.sites f.sites with
    | none=>rw [h2] at h;simp at h
    | some y=>exact ⟨rfl,rfl⟩
theorem rulesC_bad {p:ProgD} {q:PolD} {F:FaultD} (h:checkF p=some F):(rulesC p q).2=F.e∧F.e ≠ 0:=by
 have:=(check_fault h).1
 refine ⟨?_,by omega⟩
 unfold rulesC
 rw [h]
theorem levelOf_find {l:List BindD} {s:ByteArray}:levelOf l s=(l.find? (isB s)).map (·.level):=by
 induction l with
 | nil=>rfl
 | cons b l ih=>
  rw [levelOf,List.find?_cons]
  cases h:isB s b with
  | true=>rfl
  | false=>simpa using ih
end Go.Proofs.YtgllkgedjplpdaaDoor
