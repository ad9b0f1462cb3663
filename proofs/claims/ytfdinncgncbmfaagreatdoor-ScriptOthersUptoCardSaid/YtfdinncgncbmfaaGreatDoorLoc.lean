/- Contract of prog.Locals: the names of a function's variables in the order in which they come first, but for its parameters; or why there are none. Conditions: the program reads, the tables are laid. -/
import Derived.Test.YtfdinncgncbmfaaGreatDoorChe
import Derived.Test.YtfdinncgncbmfaaGreatDoorMix
set_option linter.all false
set_option maxRecDepth 1000000
set_option maxHeartbeats 12800000
set_option linter.unusedVariables false
set_option linter.unusedSimpArgs false
namespace Go.Proofs.YtfdinncgncbmfaaGreatDoor
open Go.ChangeShapes Go.WideShapes Go.ChangeAt Go.RowKit
/-! ### which faults there are -/
def Ev (P:FaultD→Prop) (o:Option FaultD):Prop:=∀ F,o=some F→P F
section
variable {P:FaultD→Prop}
theorem Ev.none:Ev P none:=fun _ h=>nomatch h
theorem Ev.need {ok:Bool} {line col e:Int} (h:ok=false→P ⟨line,col,e⟩):Ev P (needF ok line col e):=by
 intro F hF
 unfold needF at hF
 cases ok
 ·simp at hF;subst hF;exact h rfl
 ·simp at hF
theorem Ev.or {a b:Option FaultD} (ha:Ev P a) (hb:Ev P b):Ev P (a.or b):=by
 intro F hF
 cases a with
 | none=>exact hb F (by simpa using hF)
 | some x=>exact ha F (by simpa using hF)
theorem Ev.first {α:Type} {f:List α→α→Option FaultD}:∀ (l d:List α),(∀ d x,x ∈ l→Ev P (f d x))→Ev P (firstF f d l)
 | [],_,_=>fun _ h=>by simp [firstF] at h
 | x :: r,d,h=>by
  unfold firstF
  exact (h d x (by simp)).or (Ev.first r (d ++ [x]) (fun d y hy=>h d y (by simp [hy])))
end
def FaultOf (p:ProgD) (F:FaultD):Prop:=
 (3≤F.e∧F.e≤9)∧((F.line=0∧F.col=0) ∨ (∃ f ∈ p.funcs,F.line=f.line∧F.col=f.col) ∨ (∃ f ∈ p.funcs,∃ x ∈ f.code,F.line=x.line∧F.col=x.col) ∨ (∃ x ∈ p.main,F.line=x.line∧F.col=x.col))
section
variable {P:FaultD→Prop}
theorem instrF_ev (chans arrays:List ByteArray) (main:Bool) (labels sites:List ByteArray) (x:InstrD) (h:∀ e,3≤e→e≤9→P ⟨x.line,x.col,e⟩):Ev P (instrF chans arrays main labels sites x):=by
 unfold instrF restF
 refine (Ev.need fun _=>h _ (by omega) (by omega)).or ?_
 repeat' split
 all_goals first|exact Ev.none|exact Ev.need fun _=>h _ (by omega) (by omega)
theorem instrsF_ev (chans arrays:List ByteArray) (main:Bool) (sites:List ByteArray) (code:List InstrD) (line col:Int) (h0:∀ e,3≤e→e≤9→P ⟨line,col,e⟩) (h:∀ x ∈ code,∀ e,3≤e→e≤9→P ⟨x.line,x.col,e⟩):Ev P (instrsF chans arrays main sites code line col):=by
 unfold instrsF codeF
 exact (Ev.need fun _=>h0 _ (by omega) (by omega)).or (Ev.first _ _ fun d x hx=>instrF_ev _ _ _ _ _ _ (h x hx))
theorem targetsF_ev (params:List (ByteArray × Int)) (labels:List ByteArray) (code:List InstrD) (h:∀ x ∈ code,∀ e,3≤e→e≤9→P ⟨x.line,x.col,e⟩):Ev P (targetsF params labels code):=by
 unfold targetsF
 refine Ev.first _ _ fun d x hx=>?_
 unfold targetF
 repeat' split
 ·exact Ev.need fun _=>h x hx _ (by omega) (by omega)
 ·exact (Ev.need fun _=>h x hx _ (by omega) (by omega)).or (Ev.need fun _=>h x hx _ (by omega) (by omega))
 ·exact Ev.none
theorem declF_ev (acc:List ByteArray) (s:ByteArray) (line col:Int) (h0:∀ e,3≤e→e≤9→P ⟨line,col,e⟩):Ev P (declF acc s line col):=
 (Ev.need fun _=>h0 _ (by omega) (by omega)).or (Ev.need fun _=>h0 _ (by omega) (by omega))
theorem declsF_ev (l:List ByteArray) (line col:Int) (h0:∀ e,3≤e→e≤9→P ⟨line,col,e⟩):Ev P (declsF l line col):=Ev.first _ _ fun d s _=>declF_ev _ _ _ _ h0
theorem check_ev (p:ProgD) (h0:∀ e,3≤e→e≤9→P ⟨0,0,e⟩) (hf:∀ f ∈ p.funcs,∀ e,3≤e→e≤9→P ⟨f.line,f.col,e⟩) (hc:∀ f ∈ p.funcs,∀ x ∈ f.code,∀ e,3≤e→e≤9→P ⟨x.line,x.col,e⟩) (hm:∀ x ∈ p.main,∀ e,3≤e→e≤9→P ⟨x.line,x.col,e⟩):Ev P (checkF p):=by
 unfold checkF
 have n0:∀ {ok:Bool} {e:Int},3≤e→e≤9→Ev P (needF ok 0 0 e):=fun h1 h2=>Ev.need fun _=>h0 _ h1 h2
 refine (n0 (by omega) (by omega)).or ?_
 refine (n0 (by omega) (by omega)).or ?_
 refine (declsF_ev _ _ _ h0).or ?_
 refine (n0 (by omega) (by omega)).or ?_
 refine Ev.or ?_ ?_
 ·exact Ev.first _ _ fun d a _=>(declF_ev _ _ _ _ h0).or (n0 (by omega) (by omega))
 refine (n0 (by omega) (by omega)).or ?_
 refine Ev.or ?_ ?_
 ·refine Ev.first _ _ fun d f hx=>?_
  unfold funcF
  exact (declF_ev _ _ _ _ (hf f hx)).or ((Ev.need fun _=>hf f hx _ (by omega) (by omega)).or ((declsF_ev _ _ _ (hf f hx)).or (instrsF_ev _ _ _ _ _ _ _ (hf f hx) (hc f hx))))
 refine (instrsF_ev _ _ _ _ _ _ _ h0 hm).or ?_
 refine Ev.or ?_ ?_
 ·exact Ev.first _ _ fun d f hx=>targetsF_ev _ _ _ (hc f hx)
 refine (targetsF_ev _ _ _ hm).or ?_
 exact Ev.first _ _ fun d f hx=>Ev.need fun _=>hf f hx _ (by omega) (by omega)
end
theorem check_fault {p:ProgD} {F:FaultD} (h:checkF p=some F):FaultOf p F:=
 check_ev (P:=FaultOf p) p (fun e h1 h2=>⟨⟨h1,h2⟩,.inl ⟨rfl,rfl⟩⟩) (fun f hf e h1 h2=>⟨⟨h1,h2⟩,.inr (.inl ⟨f,hf,rfl,rfl⟩)⟩) (fun f hf x hx e h1 h2=>⟨⟨h1,h2⟩,.inr (.inr (.inl ⟨f,hf,x,hx,rfl,rfl⟩))⟩) (fun x hx e h1 h2=>⟨⟨h1,h2⟩,.inr (.inr (.inr ⟨x,hx,rfl,rfl⟩))⟩) F h
/-! ### how long a well-formed program's lists are -/
theorem formB_args {x:InstrD} (h:formB x=true):x.args.length≤32:=by
 unfold formB at h
 split at h
 ·cases h
 ·unfold countB at h
  simp at h
  omega
theorem need_none {ok:Bool} {line col e:Int} (h:needF ok line col e=none):ok=true:=by
 unfold needF at h
 cases ok
 ·simp at h
 ·rfl
theorem instrsF_none {chans arrays:List ByteArray} {main:Bool} {sites:List ByteArray} {code:List InstrD} {line col:Int} (h:instrsF chans arrays main sites code line col=none):code.length≤1024∧∀ x ∈ code,x.args.length≤32:=by
 unfold instrsF codeF at h
 rw [Option.or_eq_none_iff] at h
 refine ⟨by simpa using need_none h.1,fun x hx=>?_⟩
 obtain ⟨a,b,rfl⟩:=List.append_of_mem hx
 have:=(firstF_none _ _ _).1 h.2 a x b rfl
 unfold instrF at this
 rw [Option.or_eq_none_iff] at this
 have:=need_none this.1
 simp at this
 exact formB_args this.1
theorem check_none {p:ProgD} (h:checkF p=none):(p.main.length≤1024∧∀ x ∈ p.main,x.args.length≤32)∧∀ f ∈ p.funcs,f.params.length≤32∧f.code.length≤1024∧∀ x ∈ f.code,x.args.length≤32:=by
 unfold checkF at h
 simp only [Option.or_eq_none_iff] at h
 obtain ⟨_,_,_,_,_,_,hf,hm,_⟩:=h
 refine ⟨instrsF_none hm,fun f hx=>?_⟩
 obtain ⟨a,b,e⟩:=List.append_of_mem hx
 have:=(firstF_none _ _ _).1 hf a f b e
 unfold funcF at this
 simp only [Option.or_eq_none_iff] at this
 exact ⟨by simpa using need_none this.2.1,instrsF_none this.2.2.2⟩
/-! ### the names -/
def addF (ps out:List ByteArray) (s:ByteArray):List ByteArray:=if s.toList.isEmpty || (inL s ps || inL s out) then out else out ++ [s]
def argsL (ps:List ByteArray) (args:List ArgD) (out:List ByteArray):List ByteArray:=args.foldl (fun o a=>addF ps o a.name) out
def localsL (ps:List ByteArray) (code:List InstrD) (out:List ByteArray):List ByteArray:=code.foldl (fun o x=>argsL ps x.args (addF ps o x.dst)) out
def bodyF (p:ProgD) (f:Int):List ByteArray × List InstrD:=if f<0 then ([],p.main) else match p.funcs[f.toNat]? with|some x=>(x.params,x.code)|none=>([],[])
noncomputable def localsF (p:ProgD) (f:Int):List ByteArray × Int:=
 match checkF p with
 | some F=>([],F.e)
 | none=>if f < -1 ∨ (p.funcs.length:Int)≤f then ([],3) else (localsL (bodyF p f).1 (bodyF p f).2 [],0)
theorem addF_len (ps out:List ByteArray) (s:ByteArray):(addF ps out s).length≤out.length+1:=by
 unfold addF
 split <;> simp
theorem addF_mem {ps out:List ByteArray} {s t:ByteArray} (h:t ∈ addF ps out s):t ∈ out ∨ t=s:=by
 unfold addF at h
 split at h
 ·exact .inl h
 ·rcases List.mem_append.1 h with h|h
  ·exact .inl h
  ·exact .inr (by simpa using h)
theorem argsL_step (ps:List ByteArray) (l:List ArgD) (out:List ByteArray) (k:Nat) (y:ArgD) (h:l[k]?=some y):argsL ps (l.take (k+1)) out=addF ps (argsL ps (l.take k) out) y.name:=by
 unfold argsL
 rw [List.take_add_one,h,List.foldl_append];rfl
theorem localsL_step (ps:List ByteArray) (l:List InstrD) (out:List ByteArray) (k:Nat) (x:InstrD) (h:l[k]?=some x):localsL ps (l.take (k+1)) out=argsL ps x.args (addF ps (localsL ps (l.take k) out) x.dst):=by
 unfold localsL
 rw [List.take_add_one,h,List.foldl_append];rfl
theorem inL_snoc (s t:ByteArray) (l:List ByteArray):inL s (l ++ [t])=(inL s l || decide (s=t)):=by simp [inL]
theorem inL_put (s t:ByteArray) (l:List ByteArray):inL s (putL t l)=(inL s l || decide (s=t)):=by
 unfold putL
 cases h:inL t l
 ·simp [inL_snoc]
 ·rw [if_pos rfl]
  by_cases e:s=t
  ·subst e;simp [h]
  ·simp [e]
structure LocAt (base mc oc mb:Nat) (ps out:List ByteArray) (ov:Value) (w:World):Prop where
 set:∃ K,SetIs w mb K∧∀ s,inL s K=(inL s ps || inL s out)
 hm:w.heap[mc]?=some (.cells #[.map (some mb)] 99 (0,0))
 ho:w.heap[oc]?=some (.cells #[ov] 23 (0,0))
 own:w.ownsRow base 9 1 ov out.length (out.flatMap strCells)
 ok:∀ s ∈ out,s.size≤maxLen
 lm:base≤mc
 lo:base≤oc
 lb:base≤mb
theorem LocAt.turn {base mc oc mb:Nat} {ps out:List ByteArray} {ov:Value} {w w':World} (h:LocAt base mc oc mb ps out ov w) (k:Below w.heap.size w w'):LocAt base mc oc mb ps out ov w':=by
 obtain ⟨K,h1,h2⟩:=h.set
 exact ⟨⟨K,h1.keep k,h2⟩,(k.block _ (Array.getElem?_eq_some_iff.1 h.hm).1).trans h.hm,(k.block _ (Array.getElem?_eq_some_iff.1 h.ho).1).trans h.ho,own_below h.own k,h.ok,h.lm,h.lo,h.lb⟩
theorem setCell_heap {w:World} {b o:Nat} {cs:Array Value} {T:TypeId} {v:Value} (h:w.heap[b]?=some (.cells cs T (0,0))):(w.setCell ⟨b,o,none⟩ v).heap[b]?=some (.cells (cs.setIfInBounds o v) T (0,0)):=heap_setCell_same _ _ o _ _ v h
theorem argsL_len (ps:List ByteArray):∀ (l:List ArgD) (out:List ByteArray),(argsL ps l out).length≤out.length+l.length
 | [],out=>by simp [argsL]
 | a :: r,out=>by
  have h1:=argsL_len ps r (addF ps out a.name)
  have h2:=addF_len ps out a.name
  show (argsL ps r (addF ps out a.name)).length≤_
  simp only [List.length_cons]
  omega
theorem localsL_len (ps:List ByteArray):∀ (l:List InstrD) (out:List ByteArray),(∀ x ∈ l,x.args.length≤32)→(localsL ps l out).length≤out.length+33 * l.length
 | [],out,_=>by simp [localsL]
 | x :: r,out,h=>by
  have h0:=h x (by simp)
  have h1:=localsL_len ps r (argsL ps x.args (addF ps out x.dst)) (fun y hy=>h y (by simp [hy]))
  have h2:=argsL_len ps x.args (addF ps out x.dst)
  have h3:=addF_len ps out x.dst
  show (localsL ps r (argsL ps x.args (addF ps out x.dst))).length≤_
  simp only [List.length_cons]
  omega
theorem rdStrs_nil (lo:Option (Nat→Prop)) (w:World):RdStrs lo w (.slice none 0 0) []:=⟨none,0,rfl,by simp,fun i s h=>by simp at h⟩
end Go.Proofs.YtfdinncgncbmfaaGreatDoor
