/- Leaks as plain data: what rules.Levels, agree.Leaks and agree.Holds compute. No program. Plain laws of leaks: their order does not matter, nothing leaks with itself, inputs count as words, both modes. No program. -/
import Derived.Test.YtkjkpddajjmloaaGreatDoorMMq
import Derived.Test.YtkjkpddajjmloaaGreatDoorAgR
import Derived.Test.YtkjkpddajjmloaaGreatDoorLMe
set_option linter.all false
set_option maxRecDepth 1000000
set_option maxHeartbeats 6400000
namespace Go.Proofs.YtkjkpddajjmloaaGreatDoor
open Go.ChangeShapes Go.WideShapes Go.ChangeAt Go.RowKit
def rulesErr (f:FlatD) (q:PolD):Int:=
 if flatE f≠0 then flatE f else if polErr q≠0 then polErr q else if (levelsOf q.chans f.chans).isNone then 6 else if (levelsOf q.sites f.sites).isNone then 6 else 0
def chansL (f:FlatD) (q:PolD):List Int:=(levelsOf q.chans f.chans).getD []
def sitesL (f:FlatD) (q:PolD):List Int:=(levelsOf q.sites f.sites).getD []
def inpAt (A:List (List Int)) (c k:Nat):Int:=(inAt A c k).getD 0
def lenAt (A:List (List Int)) (c:Nat):Nat:=(A.getD c []).length
def chanSame (A B:List (List Int)) (c:Nat):Bool:=allN (max (lenAt A c) (lenAt B c)) fun k=>inpAt A c k==inpAt B c k
def inpErr (L:LatD) (level:Int) (levels:List Int) (A B:List (List Int)):Int:=if knownL L level levels=false ∨ levels.length<A.length ∨ levels.length<B.length then 3 else 0
def inpSame (L:LatD) (level:Int) (levels:List Int) (A B:List (List Int)):Bool:=allN levels.length fun c=>!leL L (levels.getD c 0) level||chanSame A B c
def trimL (f:FlatD) (A:List (List Int)):List (List Int):=A.map fun l=>l.map fun x=>x%2 ^ f.width.toNat
def sideErr (f:FlatD) (q:PolD):Int:=if flatE f≠0 ∨ polErr q≠0 then 2 else rulesErr f q
def sideLat (q:PolD):LatD:=latOf q.levels.length q.order
def rangeBad (f:FlatD) (q:PolD) (level:Int) (A B:List (List Int)):Prop:=level<0 ∨ (q.levels.length:Int)≤level ∨ f.chans.length<A.length ∨ f.chans.length<B.length
instance (f:FlatD) (q:PolD) (level:Int) (A B:List (List Int)):Decidable (rangeBad f q level A B):=by unfold rangeBad;infer_instance
def leaksErr (f:FlatD) (q:PolD) (level:Int) (A B:List (List Int)):Int:=if sideErr f q≠0 then sideErr f q else if rangeBad f q level A B then 3 else 0
def leaks1 (f:FlatD) (q:PolD) (level:Int) (A B:List (List Int)) (x y:TraceD):Bool:=
 inpSame (sideLat q) level (chansL f q) (trimL f A) (trimL f B)&&premB (sideLat q) level (sitesL f q) q.sens x y&&!sameB (sideLat q) level (chansL f q) q.sens x y
def leaksB (f:FlatD) (q:PolD) (level:Int) (A B:List (List Int)):Bool:=
 if leaksErr f q level A B≠0 then false else leaks1 f q level A B (runT f A q.steps) (runT f B q.steps)
def longI (f:FlatD) (Ls:List (List (List Int))):Bool:=Ls.any fun A=>decide (f.chans.length<A.length)
def holdsErr (f:FlatD) (q:PolD) (Ls:List (List (List Int))):Int:=if sideErr f q≠0 then sideErr f q else if longI f Ls then 3 else 0
def holdsB (f:FlatD) (q:PolD) (Ls:List (List (List Int))):Bool:=
 if holdsErr f q Ls≠0 then false
 else allN Ls.length fun i=>!(q.sens&&(runT f (Ls.getD i []) q.steps).status==2)&&allN i fun k=>allN q.levels.length fun level=>!leaks1 f q level (Ls.getD k []) (Ls.getD i []) (runT f (Ls.getD k []) q.steps) (runT f (Ls.getD i []) q.steps)
theorem bindsAt_in (n:Int):∀ (l:List BindD) (had:List ByteArray),bindsAt n had l=0→∀ b∈l,0≤b.level∧b.level<n
 | [],_,_,b,hb=>by simp at hb
 | x :: l,had,h,b,hb=>by
  rw[bindsAt] at h
  split at h
  ·cases h
  split at h
  ·cases h
  split at h
  ·cases h
  rcases List.mem_cons.1 hb with rfl|hb
  ·omega
  ·exact bindsAt_in n l _ h b hb
theorem bindsErr_in {n:Int} {l:List BindD} (h:bindsErr n l=0):∀ b∈l,0≤b.level∧b.level<n:=by
 unfold bindsErr at h
 split at h
 ·cases h
 ·exact bindsAt_in n l _ h
theorem levelOf_in {n:Int}:∀ {l:List BindD} {s:ByteArray} {x:Int},(∀ b∈l,0≤b.level∧b.level<n)→levelOf l s=some x→0≤x∧x<n
 | [],_,_,_,h=>by cases h
 | b :: l,s,x,hb,h=>by
  rw[levelOf] at h
  split at h
  ·simp only[Option.some.injEq] at h;subst h;exact hb b (by simp)
  ·exact levelOf_in (fun c hc=>hb c (by simp[hc])) h
theorem levelsOf_in {n:Int} {l:List BindD} (hb:∀ b∈l,0≤b.level∧b.level<n):∀ {ns:List ByteArray} {r:List Int},levelsOf l ns=some r→r.length=ns.length∧∀ x∈r,0≤x∧x<n
 | [],r,h=>by simp only[levelsOf,Option.some.injEq] at h;subst h;simp
 | s :: ns,r,h=>by
  rw[levelsOf] at h
  split at h
  ·cases h
  ·next x hx=>
   cases hr:levelsOf l ns with
   | none=>rw[hr] at h;cases h
   | some r'=>
    rw[hr] at h
    simp only[Option.map_some,Option.some.injEq] at h
    subst h
    obtain⟨h1,h2⟩:=levelsOf_in hb hr
    refine⟨by simp[h1],fun y hy=>?_⟩
    rcases List.mem_cons.1 hy with rfl|hy
    ·exact levelOf_in hb hx
    ·exact h2 y hy
structure SideP (f:FlatD) (q:PolD):Prop where
 ok:flatOk f=true
 pol:polErr q=0
 lv1:1≤q.levels.length
 lv2:q.levels.length≤32
 lat:latErr q.levels.length q.order=0
 ch:levelsOf q.chans f.chans=some (chansL f q)
 st:levelsOf q.sites f.sites=some (sitesL f q)
 cl:(chansL f q).length=f.chans.length
 sl:(sitesL f q).length=f.sites.length
 ci:∀ x∈chansL f q,0≤x∧x<q.levels.length
 si:∀ x∈sitesL f q,0≤x∧x<q.levels.length
 s1:1≤q.steps
 s2:q.steps≤65536
theorem sideP {f:FlatD} {q:PolD} (h:sideErr f q=0):SideP f q:=by
 unfold sideErr at h
 split at h
 ·cases h
 next hn=>
 have h1:flatE f=0:=by omega
 have h2:polErr q=0:=by omega
 have hok:flatOk f=true:=by
  unfold flatE at h1
  split at h1
  ·assumption
  ·cases h1
 unfold rulesErr at h
 rw[if_neg (by simp[h1]),if_neg (by simp[h2])] at h
 split at h
 ·cases h
 next hc=>
 split at h
 ·cases h
 next hs=>
 have hp:=h2
 unfold polErr at hp
 split at hp
 ·cases hp
 split at hp
 ·cases hp
 split at hp
 ·contradiction
 split at hp
 ·contradiction
 next hl=>
 split at hp
 ·contradiction
 next hbc=>
 split at hp
 ·contradiction
 next hbs=>
 unfold limErr at hp
 split at hp
 ·cases hp
 next hlim=>
 obtain⟨rc,hrc⟩:∃ r,levelsOf q.chans f.chans=some r:=by
  cases e:levelsOf q.chans f.chans with
  | none=>rw[e] at hc;exact absurd rfl hc
  | some r=>exact⟨r,rfl⟩
 obtain⟨rs,hrs⟩:∃ r,levelsOf q.sites f.sites=some r:=by
  cases e:levelsOf q.sites f.sites with
  | none=>rw[e] at hs;exact absurd rfl hs
  | some r=>exact⟨r,rfl⟩
 have ec:chansL f q=rc:=by unfold chansL;rw[hrc];rfl
 have es:sitesL f q=rs:=by unfold sitesL;rw[hrs];rfl
 have gc:=levelsOf_in (bindsErr_in (n:=(q.levels.length:Int)) (by omega)) hrc
 have gs:=levelsOf_in (bindsErr_in (n:=(q.levels.length:Int)) (by omega)) hrs
 exact⟨hok,h2,by omega,by omega,by omega,by rw[hrc,ec],by rw[hrs,es],by rw[ec];exact gc.1,by rw[es];exact gs.1,by rw[ec];exact gc.2,by rw[es];exact gs.2,by omega,by omega⟩
theorem known_side {q:PolD} {lv:Int} {ls:List Int} (h0:0≤lv) (h1:lv<q.levels.length) (h:∀ x∈ls,0≤x∧x<q.levels.length):knownL (sideLat q) lv ls=true:=by
 have e:((sideLat q).n:Int)=q.levels.length:=by unfold sideLat latOf;simp
 unfold knownL isL
 rw[e]
 simp only[Bool.and_eq_true,decide_eq_true_eq,List.all_eq_true]
 exact⟨⟨h0,h1⟩,h⟩
end Go.Proofs.YtkjkpddajjmloaaGreatDoor
