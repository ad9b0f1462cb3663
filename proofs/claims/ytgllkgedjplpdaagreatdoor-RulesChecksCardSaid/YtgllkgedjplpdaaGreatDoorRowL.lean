/- Contracts of slices.Clone: what comes back reads as what came in, in new memory that the caller may write, and nothing that was there is written. Condition: what comes in reads as the list. -/
import Derived.Test.YtgllkgedjplpdaaGreatDoorRowE
set_option linter.all false
set_option maxRecDepth 1000000
set_option maxHeartbeats 12800000
namespace Go.Proofs.YtgllkgedjplpdaaGreatDoor
open Go.ChangeShapes Go.WideShapes Go.ChangeAt Go.RowKit
theorem row_cells {α:Type} {K:Kind α} {lo:Option (Nat->Prop)} {w:World} {ad:Addr} {n c:Nat} {l:List α} (h:RdRow K lo w (.slice (some ad) n c) l):∀ j u,(l.flatMap K.cells)[j]?=some u->w.cell? (ad.add j)=some u:=by
 intro j u hj
 have hlen:(l.flatMap K.cells).length=l.length * K.sz:=flat_length K.cells K.sz K.len l
 have hjl:j<l.length * K.sz:=by rw [<- hlen];exact (lE hj).1
 have hp:=K.pos
 have hi:j / K.sz<l.length:=Nat.div_lt_of_lt_mul (by rw [Nat.mul_comm];exact hjl)
 have hr:j % K.sz<K.sz:=Nat.mod_lt _ hp
 have hjj:j / K.sz * K.sz+j % K.sz=j:=Nat.div_add_mod' j K.sz
 obtain ⟨b,o,e,_,hc,_⟩:=RdRow.at h (i:=j / K.sz) (x:=l[j / K.sz]) (lG hi)
 simp only [Option.some.injEq] at e
 subst e
 have hx:=flat_get K.cells K.sz K.len l (j / K.sz) (j % K.sz) l[j / K.sz] (lG hi) hr
 rw [hjj,hj] at hx
 have h1:=hc (j % K.sz) u hx.symm
 have e2:(⟨b,o,none⟩:Addr).add j=⟨b,o+j,none⟩:=by
  unfold Addr.add
  split
  ·rename_i h;subst h;rfl
  ·rfl
 rw [e2,<- hjj,<- Nat.add_assoc]
 exact h1
theorem own_empty (w:World) (base g:Nat) (e:TypeId) (size:Nat) (hb:base<=g) (h:w.heap[g]?=some (.cells #[] e (0,0))):w.ownsRow base e size (.slice (some ⟨g,0,none⟩) 0 0) 0 []:=
 ⟨by simp,.inr ⟨g,0,#[],rfl,hb,h,nR _,by unfold maxLen;omega,by simp,by simp⟩⟩
theorem cloneStr (av:Value) (l:List ByteArray) (w:World) (h:RdRow kStr none w av l) :
  Calls Tryz.prog 71 #[av] w fun e w'=>∃ v,e=.returned v/\w'.ownsRow w.heap.size 9 1 v l.length (l.flatMap cellsStr)/\RdRow kStr (some (upFrom w.heap.size)) w' v l/\Below w.heap.size w w':=by
 obtain ⟨a,c,rfl⟩:=h.is
 obtain ⟨i0,hi,hz0,hz1,hz2⟩:=info_parts infoStr
 have hok:Hid (∀ s ∈ l,kStr.ok s):=h.ok
 have hl:l.length * 16<=140737488351232:=h.size
 cases a with
 | none=>
  have hl0:l=[]:=by
   cases l with
   | nil=>rfl
   | cons x r=>
    obtain ⟨b,o,e,_⟩:=RdRow.at h (i:=0) (x:=x) rfl
    cases e
  subst hl0
  have hq:∀ w,(binOp .eql 22 (.slice none 0 c) (.slice none 0 0)).run Tryz.prog w=.ok (.bool true) w:=fun w=>Lib.run_eql_slice_nil w _ _ none 0 c 0 0 Tryz.underlying22
  clear h
  go_enter Tryz.func71,Tryz.ntmps71
  go_wp2
  go_ret
  exact ⟨_,rfl,World.ownsRow_nil _ _ _ _,own_rows (K:=kStr) (l:=[]) (World.ownsRow_nil _ _ _ _) (by simp) (by intro s hs;cases hs),bR _ _⟩
 | some ad=>
  have HR:=Hd (row_cells h)
  have HN:Hid (Below w.heap.size w (w.alloc (.cells #[] 9))/\(w.alloc (.cells #[] 9)).ownsRow w.heap.size 9 1 (.slice (some ⟨w.heap.size,0,none⟩) 0 0) 0 []):=⟨(bR _ _).alloc (nR _) _,own_empty _ _ _ _ _ (nR _) (heap_alloc_new _ _)⟩
  have HR2:Hid (∀ j u,(l.flatMap cellsStr)[j]?=some u->(w.alloc (.cells #[] 9)).cell? (ad.add j)=some u):=fun j u hj=>cell_keep HN.out.1 (HR.out j u hj)
  have HC2:Hid (∀ u ∈ l.flatMap cellsStr,u.oneCell'=true):=by
   intro u hu
   obtain ⟨x,_,hx⟩:=List.mem_flatMap.1 hu
   simp [cellsStr] at hx
   first|(rcases hx with rfl|rfl|rfl|rfl|rfl|rfl|rfl|rfl <;> rfl)|(rcases hx with rfl|rfl <;> rfl)|(subst hx;rfl)
  have HS:Hid (w.heap.size<=(w.alloc (.cells #[] 9)).heap.size):=HN.out.1.size
  have hq:∀ w,(binOp .eql 22 (.slice (some ad) l.length c) (.slice none 0 0)).run Tryz.prog w=.ok (.bool false) w:=fun w=>Lib.run_eql_slice_nil w _ _ (some ad) l.length c 0 0 Tryz.underlying22
  clear h
  go_enter Tryz.func71,Tryz.ntmps71
  go_wp2_with (at_builtin;refine wpList_append_own _ rfl (.tmp 5) (.tmp 6) 22 rfl w.heap.size 9 i0 (.string ⟨#[]⟩) 1 16 Tryz.underlying22 hi hz0 hz1 hz2 rfl (by decide) _ _ _ rfl HN.out.2 ad l.length c (l.flatMap cellsStr) rfl (flat_length cellsStr 1 (fun _=>rfl) l) HR2.out HC2.out (by unfold maxLen;omega) (by omega) HS.out ?_)
  ·intro v' w1 hown' hgrow _
   have hb1:=(HN.out.1).grown hgrow (by show w.heap.size<=_;exact HS.out) (own_row_le HN.out.2)
   go_wp2
   go_ret
   exact ⟨_,rfl,hown',own_rows (K:=kStr) hown' hl hok.out,hb1⟩
end Go.Proofs.YtgllkgedjplpdaaGreatDoor
