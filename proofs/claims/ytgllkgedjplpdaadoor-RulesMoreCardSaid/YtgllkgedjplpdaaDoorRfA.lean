/- Plain: a policy fits a program if and only if the flat program has a level for each of its channels and sites. Condition: the flat program is valid. No Go function in sight. -/
import Derived.Test.YtgllkgedjplpdaaDoorRuC
import Derived.Test.YtgllkgedjplpdaaDoorRuV
set_option linter.all false
set_option maxRecDepth 1000000
set_option maxHeartbeats 12800000
set_option linter.unusedVariables false
set_option linter.unusedSimpArgs false
namespace Go.Proofs.YtgllkgedjplpdaaDoor
theorem levelsOf_none {l:List BindD}:∀ {ns:List ByteArray},levelsOf l ns=none ↔ ∃ s ∈ ns,levelOf l s=none
 | []=>by simp [levelsOf]
 | s :: r=>by
  rw [levelsOf]
  cases h:levelOf l s with
  | none=>simp [h]
  | some x=>
   simp only [Option.map_eq_none_iff,List.mem_cons,exists_eq_or_imp,h,reduceCtorEq,false_or]
   exact levelsOf_none
theorem sites_mem {s:ByteArray} {l:List InstrD}:s ∈ sitesOf [] l ↔ ∃ x ∈ l,x.kind=7∧x.name=s:=by
 refine ⟨fun h=>?_,?_⟩
 ·rcases sites_from l [] h with h|h
  ·cases h
  ·exact h
 ·rintro ⟨x,hx,hk,rfl⟩
  exact sites_has hk l [] hx
theorem rel_iff {p:ProgD} {q:PolD}:(allI p).find? (relB q)=none ↔ levelsOf q.sites (sitesAllF p) ≠ none:=by
 rw [List.find?_eq_none,Ne,levelsOf_none]
 refine ⟨fun h ⟨s,hs,hl⟩=>?_,fun h x hx hr=>?_⟩
 ·obtain ⟨x,hx,hk,rfl⟩:=sites_mem.1 hs
  exact h x hx (by unfold relB;simp [hk,hl])
 ·refine h ⟨x.name,?_,?_⟩
  ·refine sites_mem.2 ⟨x,hx,?_,rfl⟩
   unfold relB at hr;simp at hr;exact hr.1
  ·unfold relB at hr;simp at hr;exact hr.2
theorem chan_iff {p:ProgD} {q:PolD}:p.chans.find? (noChan q)=none ↔ levelsOf q.chans p.chans ≠ none:=by
 rw [List.find?_eq_none,Ne,levelsOf_none]
 refine ⟨fun h ⟨s,hs,hl⟩=>h s hs (by unfold noChan;simp [hl]),fun h s hs hr=>h ⟨s,hs,?_⟩⟩
 unfold noChan at hr;simpa using hr
theorem fit_err {p:ProgD} {q:PolD} (h:checkF p=none) (ho:flatOk (flatI p)=true):rulesErr (flatI p) q=(rulesC p q).2:=by
 have hc:(flatI p).chans=p.chans:=rfl
 have hs:(flatI p).sites=sitesAllF p:=rfl
 have hf:flatE (flatI p)=0:=by unfold flatE;rw [ho];rfl
 unfold rulesErr rulesC
 rw [h,hf,hc,hs]
 simp only [ne_eq,not_true_eq_false,if_false]
 unfold fitF
 by_cases hp:polErr q=0
 ·rw [hp]
  simp only [ne_eq,not_true_eq_false,if_false]
  cases hch:p.chans.find? (noChan q) with
  | some c=>
   have:levelsOf q.chans p.chans=none:=by
    cases hl:levelsOf q.chans p.chans with
    | none=>rfl
    | some x=>rw [chan_iff.2 (by rw [hl];simp)] at hch;cases hch
   rw [this];rfl
  | none=>
   have h1:=chan_iff.1 hch
   cases hl:levelsOf q.chans p.chans with
   | none=>exact absurd hl h1
   | some xs=>
    cases hr:(allI p).find? (relB q) with
    | some x=>
     have:levelsOf q.sites (sitesAllF p)=none:=by
      cases hl:levelsOf q.sites (sitesAllF p) with
      | none=>rfl
      | some x=>rw [rel_iff.2 (by rw [hl];simp)] at hr;cases hr
     rw [this];rfl
    | none=>
     have h2:=rel_iff.1 hr
     cases hl2:levelsOf q.sites (sitesAllF p) with
     | none=>exact absurd hl2 h2
     | some ys=>rfl
 ·rw [if_pos hp,if_pos hp]
end Go.Proofs.YtgllkgedjplpdaaDoor
