/- A region that draws its order, by a plan: some operations (loads) are taken first because no operation that may come before them touches what they read; of the others at most one may come up at a time. Plain lemmas over any program. -/
import Derived.OrdersHeld
import Derived.WalkKit
set_option linter.all false
set_option maxRecDepth 1000000
set_option maxHeartbeats 6400000
namespace Go.Proofs.YtkjkpddajjmloaaGreatDoor
section
variable {P:Program} {ops:Array Oper} {Q:Exit→Act→World→Prop} {md:Region.Mode} {H:World→Prop} {E:Nat→Bool}
def anyG (P:Program) (md:Region.Mode) (ops:Array Oper) (Q:Exit→Act→World→Prop) (H:World→Prop) (E:Nat→Bool):Nat→Array Bool→Act→World→Prop
 | 0,L,a,w=>Region.ready md ops L=[]∧Q .normal a w
 | n+1,L,a,w=>(Region.ready md ops L=[]→Q .normal a w) ∧
   ∀ i ∈ Region.ready md ops L,wpOp P ops Q i (fun a' w'=>(E i=false→H w')∧anyG P md ops Q H E n (L.setIfInBounds i true) a' w') a w
theorem any_of_G:∀ (n:Nat) (L:Array Bool) (a:Act) (w:World),anyG P md ops Q H E n L a w→wpAny P md ops Q n L a w
 | 0,_,_,_,h=>h
 | n+1,_,_,_,h=>⟨h.1,fun i hi=>wpOp_mono (fun a' w' k=>any_of_G n _ a' w' k.2) (h.2 i hi)⟩
def stepQ (K:Act→World→Prop) (Q:Exit→Act→World→Prop):Exit→Act→World→Prop
 | .normal,a,w=>K a w
 | e,a,w=>Q e a w
theorem wp_stepQ {o:Oper} {a:Act} {w:World} {K K':Act→World→Prop} (h:o.wp P a w K (stepQ K' Q)):o.wp P a w K Q:=by
 unfold Oper.wp at *
 generalize (execOp a.eval o).run P w=r at *
 cases r with
 | ok n w'=>
  cases n <;> simp only [Oper.upon] at h ⊢
  case value u=>exact h
  case skip=>exact h
  case defer d=>exact h
  case enter f args=>
   refine Calls.mono h fun e w'' he=>?_
   cases e with
   | returned u=>exact he
   | panicked c=>exact he
   | outgrown=>exact he
  case row row args=>exact h
 | halt x w'=>cases x <;> simp only [Oper.upon] at h ⊢ <;> exact h
theorem wpOp_some {i:Nat} {o:Oper} {K:Act→World→Prop} {a:Act} {w:World} (ho:ops[i]?=some o) :
  wpOp P ops Q i K a w=if Region.wanted o (yielded ops a.tmps) then o.wp P a w K Q ∨ (o.asks P a w∧LetsOut Q) else K (a.put o.dst undef) w:=by
 unfold wpOp
 simp only [ho]
end
end Go.Proofs.YtkjkpddajjmloaaGreatDoor
