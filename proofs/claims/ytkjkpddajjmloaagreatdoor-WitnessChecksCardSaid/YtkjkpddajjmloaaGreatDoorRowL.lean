/- Contracts of slices.Clone: what comes back reads as what came in, in new memory that the caller may write, and nothing that was there is written. Condition: what comes in reads as the list. -/
import Derived.Test.YtkjkpddajjmloaaGreatDoorRowE
set_option linter.all false
set_option maxRecDepth 1000000
set_option maxHeartbeats 6400000
namespace Go.Proofs.YtkjkpddajjmloaaGreatDoor
open Go.ChangeShapes Go.WideShapes Go.ChangeAt Go.RowKit
open Go.Lib (hid)
theorem row_cells {α:Type} {K:Kind α} {lo:Option (Nat→Prop)} {w:World} {ad:Addr} {n c:Nat} {l:List α} (h:RdRow K lo w (.slice (some ad) n c) l):∀ j u,(l.flatMap K.cells)[j]?=some u→w.cell? (ad.add j)=some u:=by
 intro j u hj
 have hlen:(l.flatMap K.cells).length=l.length*K.sz:=flat_length K.cells K.sz K.len l
 have hjl:j<l.length*K.sz:=by rw[← hlen];exact (List.getElem?_eq_some_iff.1 hj).1
 have hp:=K.pos
 have hi:j/K.sz<l.length:=Nat.div_lt_of_lt_mul (by rw[Nat.mul_comm];exact hjl)
 have hr:j%K.sz<K.sz:=Nat.mod_lt _ hp
 have hjj:j/K.sz*K.sz+j%K.sz=j:=Nat.div_add_mod' j K.sz
 obtain⟨b,o,e,_,hc,_⟩:=RdRow.at h (i:=j/K.sz) (x:=l[j/K.sz]) (List.getElem?_eq_getElem hi)
 simp only[Option.some.injEq] at e
 subst e
 have hx:=flat_get K.cells K.sz K.len l (j/K.sz) (j%K.sz) l[j/K.sz] (List.getElem?_eq_getElem hi) hr
 rw[hjj,hj] at hx
 have h1:=hc (j%K.sz) u hx.symm
 have e2:(⟨b,o,none⟩:Addr).add j=⟨b,o+j,none⟩:=by
  unfold Addr.add
  split
  ·rename_i h;subst h;rfl
  ·rfl
 rw[e2,← hjj,← Nat.add_assoc]
 exact h1
theorem own_empty (w:World) (base g:Nat) (e:TypeId) (size:Nat) (hb:base≤g) (h:w.heap[g]?=some (.cells #[] e (0,0))):w.ownsRow base e size (.slice (some ⟨g,0,none⟩) 0 0) 0 []:=
 ⟨by simp,.inr ⟨g,0,#[],rfl,hb,h,Nat.le_refl _,by unfold maxLen;omega,by simp,by simp⟩⟩
theorem cloneInt (av:Value) (l:List Int) (w:World) (h:RdRow kInt none w av l) :
  Calls Tryz.prog 112 #[av] w fun e w'=>∃ v,e=.returned v∧w'.ownsRow w.heap.size 3 1 v l.length (l.flatMap cellsInt)∧RdRow kInt (some (upFrom w.heap.size)) w' v l∧Below w.heap.size w w':=by
 obtain⟨a,c,rfl⟩:=h.is
 obtain⟨i0,hi,hz0,hz1,hz2⟩:=info_parts infoInt
 have hok:Hid (∀ s∈l,kInt.ok s):=h.ok
 have hl:l.length*8≤140737488351232:=h.size
 cases a with
 | none=>
  have hl0:l=[]:=by
   cases l with
   | nil=>rfl
   | cons x r=>
    obtain⟨b,o,e,_⟩:=RdRow.at h (i:=0) (x:=x) rfl
    cases e
  subst hl0
  have hq:∀ w,(binOp .eql 23 (.slice none 0 c) (.slice none 0 0)).run Tryz.prog w=.ok (.bool true) w:=fun w=>Lib.run_eql_slice_nil w _ _ none 0 c 0 0 Tryz.underlying23
  clear h
  go_enter Tryz.func112,Tryz.ntmps112
  go_wp2
  go_ret
  exact⟨_,rfl,World.ownsRow_nil _ _ _ _,own_rows (K:=kInt) (l:=[]) (World.ownsRow_nil _ _ _ _) (by simp) (by intro s hs;cases hs),Below.refl _ _⟩
 | some ad=>
  have HR:=hid (row_cells h)
  have HN:Hid (Below w.heap.size w (w.alloc (.cells #[] 3))∧(w.alloc (.cells #[] 3)).ownsRow w.heap.size 3 1 (.slice (some ⟨w.heap.size,0,none⟩) 0 0) 0 []):=⟨(Below.refl _ _).alloc (Nat.le_refl _) _,own_empty _ _ _ _ _ (Nat.le_refl _) (heap_alloc_new _ _)⟩
  have HR2:Hid (∀ j u,(l.flatMap cellsInt)[j]?=some u→(w.alloc (.cells #[] 3)).cell? (ad.add j)=some u):=fun j u hj=>cell_keep HN.out.1 (HR.out j u hj)
  have HC2:Hid (∀ u∈l.flatMap cellsInt,u.oneCell'=true):=by
   intro u hu
   obtain⟨x,_,hx⟩:=List.mem_flatMap.1 hu
   simp[cellsInt] at hx
   first|(rcases hx with rfl|rfl|rfl|rfl|rfl|rfl|rfl|rfl <;> rfl)|(rcases hx with rfl|rfl <;> rfl)|(subst hx;rfl)
  have HS:Hid (w.heap.size≤(w.alloc (.cells #[] 3)).heap.size):=HN.out.1.size
  have hq:∀ w,(binOp .eql 23 (.slice (some ad) l.length c) (.slice none 0 0)).run Tryz.prog w=.ok (.bool false) w:=fun w=>Lib.run_eql_slice_nil w _ _ (some ad) l.length c 0 0 Tryz.underlying23
  clear h
  go_enter Tryz.func112,Tryz.ntmps112
  go_wp2_with (at_builtin;refine wpList_append_own _ rfl (.tmp 5) (.tmp 6) 23 rfl w.heap.size 3 i0 (.int .i64 0) 1 8 Tryz.underlying23 hi hz0 hz1 hz2 rfl (by decide) _ _ _ rfl HN.out.2 ad l.length c (l.flatMap cellsInt) rfl (flat_length cellsInt 1 (fun _=>rfl) l) HR2.out HC2.out (by unfold maxLen;omega) (by omega) HS.out ?_)
  ·intro v' w1 hown' hgrow _
   have hb1:=(HN.out.1).grown hgrow (by show w.heap.size≤_;exact HS.out) (own_row_le HN.out.2)
   go_wp2
   go_ret
   exact⟨_,rfl,hown',own_rows (K:=kInt) hown' hl hok.out,hb1⟩
theorem cloneNum (av:Value) (l:List Int) (w:World) (h:RdRow kNum none w av l) :
  Calls Tryz.prog 109 #[av] w fun e w'=>∃ v,e=.returned v∧w'.ownsRow w.heap.size 58 1 v l.length (l.flatMap cellsNum)∧RdRow kNum (some (upFrom w.heap.size)) w' v l∧Below w.heap.size w w':=by
 obtain⟨a,c,rfl⟩:=h.is
 obtain⟨i0,hi,hz0,hz1,hz2⟩:=info_parts infoNum
 have hok:Hid (∀ s∈l,kNum.ok s):=h.ok
 have hl:l.length*8≤140737488351232:=h.size
 cases a with
 | none=>
  have hl0:l=[]:=by
   cases l with
   | nil=>rfl
   | cons x r=>
    obtain⟨b,o,e,_⟩:=RdRow.at h (i:=0) (x:=x) rfl
    cases e
  subst hl0
  have hq:∀ w,(binOp .eql 61 (.slice none 0 c) (.slice none 0 0)).run Tryz.prog w=.ok (.bool true) w:=fun w=>Lib.run_eql_slice_nil w _ _ none 0 c 0 0 Tryz.underlying61
  clear h
  go_enter Tryz.func109,Tryz.ntmps109
  go_wp2
  go_ret
  exact⟨_,rfl,World.ownsRow_nil _ _ _ _,own_rows (K:=kNum) (l:=[]) (World.ownsRow_nil _ _ _ _) (by simp) (by intro s hs;cases hs),Below.refl _ _⟩
 | some ad=>
  have HR:=hid (row_cells h)
  have HN:Hid (Below w.heap.size w (w.alloc (.cells #[] 58))∧(w.alloc (.cells #[] 58)).ownsRow w.heap.size 58 1 (.slice (some ⟨w.heap.size,0,none⟩) 0 0) 0 []):=⟨(Below.refl _ _).alloc (Nat.le_refl _) _,own_empty _ _ _ _ _ (Nat.le_refl _) (heap_alloc_new _ _)⟩
  have HR2:Hid (∀ j u,(l.flatMap cellsNum)[j]?=some u→(w.alloc (.cells #[] 58)).cell? (ad.add j)=some u):=fun j u hj=>cell_keep HN.out.1 (HR.out j u hj)
  have HC2:Hid (∀ u∈l.flatMap cellsNum,u.oneCell'=true):=by
   intro u hu
   obtain⟨x,_,hx⟩:=List.mem_flatMap.1 hu
   simp[cellsNum] at hx
   first|(rcases hx with rfl|rfl|rfl|rfl|rfl|rfl|rfl|rfl <;> rfl)|(rcases hx with rfl|rfl <;> rfl)|(subst hx;rfl)
  have HS:Hid (w.heap.size≤(w.alloc (.cells #[] 58)).heap.size):=HN.out.1.size
  have hq:∀ w,(binOp .eql 61 (.slice (some ad) l.length c) (.slice none 0 0)).run Tryz.prog w=.ok (.bool false) w:=fun w=>Lib.run_eql_slice_nil w _ _ (some ad) l.length c 0 0 Tryz.underlying61
  clear h
  go_enter Tryz.func109,Tryz.ntmps109
  go_wp2_with (at_builtin;refine wpList_append_own _ rfl (.tmp 5) (.tmp 6) 61 rfl w.heap.size 58 i0 (.int .u64 0) 1 8 Tryz.underlying61 hi hz0 hz1 hz2 rfl (by decide) _ _ _ rfl HN.out.2 ad l.length c (l.flatMap cellsNum) rfl (flat_length cellsNum 1 (fun _=>rfl) l) HR2.out HC2.out (by unfold maxLen;omega) (by omega) HS.out ?_)
  ·intro v' w1 hown' hgrow _
   have hb1:=(HN.out.1).grown hgrow (by show w.heap.size≤_;exact HS.out) (own_row_le HN.out.2)
   go_wp2
   go_ret
   exact⟨_,rfl,hown',own_rows (K:=kNum) hown' hl hok.out,hb1⟩
theorem cloneBool (av:Value) (l:List Bool) (w:World) (h:RdRow kBool none w av l) :
  Calls Tryz.prog 111 #[av] w fun e w'=>∃ v,e=.returned v∧w'.ownsRow w.heap.size 4 1 v l.length (l.flatMap cellsBool)∧RdRow kBool (some (upFrom w.heap.size)) w' v l∧Below w.heap.size w w':=by
 obtain⟨a,c,rfl⟩:=h.is
 obtain⟨i0,hi,hz0,hz1,hz2⟩:=info_parts infoBool
 have hok:Hid (∀ s∈l,kBool.ok s):=h.ok
 have hl:l.length*1≤140737488351232:=h.size
 cases a with
 | none=>
  have hl0:l=[]:=by
   cases l with
   | nil=>rfl
   | cons x r=>
    obtain⟨b,o,e,_⟩:=RdRow.at h (i:=0) (x:=x) rfl
    cases e
  subst hl0
  have hq:∀ w,(binOp .eql 50 (.slice none 0 c) (.slice none 0 0)).run Tryz.prog w=.ok (.bool true) w:=fun w=>Lib.run_eql_slice_nil w _ _ none 0 c 0 0 Tryz.underlying50
  clear h
  go_enter Tryz.func111,Tryz.ntmps111
  go_wp2
  go_ret
  exact⟨_,rfl,World.ownsRow_nil _ _ _ _,own_rows (K:=kBool) (l:=[]) (World.ownsRow_nil _ _ _ _) (by simp) (by intro s hs;cases hs),Below.refl _ _⟩
 | some ad=>
  have HR:=hid (row_cells h)
  have HN:Hid (Below w.heap.size w (w.alloc (.cells #[] 4))∧(w.alloc (.cells #[] 4)).ownsRow w.heap.size 4 1 (.slice (some ⟨w.heap.size,0,none⟩) 0 0) 0 []):=⟨(Below.refl _ _).alloc (Nat.le_refl _) _,own_empty _ _ _ _ _ (Nat.le_refl _) (heap_alloc_new _ _)⟩
  have HR2:Hid (∀ j u,(l.flatMap cellsBool)[j]?=some u→(w.alloc (.cells #[] 4)).cell? (ad.add j)=some u):=fun j u hj=>cell_keep HN.out.1 (HR.out j u hj)
  have HC2:Hid (∀ u∈l.flatMap cellsBool,u.oneCell'=true):=by
   intro u hu
   obtain⟨x,_,hx⟩:=List.mem_flatMap.1 hu
   simp[cellsBool] at hx
   first|(rcases hx with rfl|rfl|rfl|rfl|rfl|rfl|rfl|rfl <;> rfl)|(rcases hx with rfl|rfl <;> rfl)|(subst hx;rfl)
  have HS:Hid (w.heap.size≤(w.alloc (.cells #[] 4)).heap.size):=HN.out.1.size
  have hq:∀ w,(binOp .eql 50 (.slice (some ad) l.length c) (.slice none 0 0)).run Tryz.prog w=.ok (.bool false) w:=fun w=>Lib.run_eql_slice_nil w _ _ (some ad) l.length c 0 0 Tryz.underlying50
  clear h
  go_enter Tryz.func111,Tryz.ntmps111
  go_wp2_with (at_builtin;refine wpList_append_own _ rfl (.tmp 5) (.tmp 6) 50 rfl w.heap.size 4 i0 (.bool false) 1 1 Tryz.underlying50 hi hz0 hz1 hz2 rfl (by decide) _ _ _ rfl HN.out.2 ad l.length c (l.flatMap cellsBool) rfl (flat_length cellsBool 1 (fun _=>rfl) l) HR2.out HC2.out (by unfold maxLen;omega) (by omega) HS.out ?_)
  ·intro v' w1 hown' hgrow _
   have hb1:=(HN.out.1).grown hgrow (by show w.heap.size≤_;exact HS.out) (own_row_le HN.out.2)
   go_wp2
   go_ret
   exact⟨_,rfl,hown',own_rows (K:=kBool) hown' hl hok.out,hb1⟩
theorem cloneCode (av:Value) (l:List CodeD) (w:World) (h:RdRow kCode none w av l) :
  Calls Tryz.prog 108 #[av] w fun e w'=>∃ v,e=.returned v∧w'.ownsRow w.heap.size 91 8 v l.length (l.flatMap cellsCode)∧RdRow kCode (some (upFrom w.heap.size)) w' v l∧Below w.heap.size w w':=by
 obtain⟨a,c,rfl⟩:=h.is
 obtain⟨i0,hi,hz0,hz1,hz2⟩:=info_parts infoCode
 have hok:Hid (∀ s∈l,kCode.ok s):=h.ok
 have hl:l.length*56≤140737488351232:=h.size
 cases a with
 | none=>
  have hl0:l=[]:=by
   cases l with
   | nil=>rfl
   | cons x r=>
    obtain⟨b,o,e,_⟩:=RdRow.at h (i:=0) (x:=x) rfl
    cases e
  subst hl0
  have hq:∀ w,(binOp .eql 24 (.slice none 0 c) (.slice none 0 0)).run Tryz.prog w=.ok (.bool true) w:=fun w=>Lib.run_eql_slice_nil w _ _ none 0 c 0 0 Tryz.underlying24
  clear h
  go_enter Tryz.func108,Tryz.ntmps108
  go_wp2
  go_ret
  exact⟨_,rfl,World.ownsRow_nil _ _ _ _,own_rows (K:=kCode) (l:=[]) (World.ownsRow_nil _ _ _ _) (by simp) (by intro s hs;cases hs),Below.refl _ _⟩
 | some ad=>
  have HR:=hid (row_cells h)
  have HN:Hid (Below w.heap.size w (w.alloc (.cells #[] 91))∧(w.alloc (.cells #[] 91)).ownsRow w.heap.size 91 8 (.slice (some ⟨w.heap.size,0,none⟩) 0 0) 0 []):=⟨(Below.refl _ _).alloc (Nat.le_refl _) _,own_empty _ _ _ _ _ (Nat.le_refl _) (heap_alloc_new _ _)⟩
  have HR2:Hid (∀ j u,(l.flatMap cellsCode)[j]?=some u→(w.alloc (.cells #[] 91)).cell? (ad.add j)=some u):=fun j u hj=>cell_keep HN.out.1 (HR.out j u hj)
  have HC2:Hid (∀ u∈l.flatMap cellsCode,u.oneCell'=true):=by
   intro u hu
   obtain⟨x,_,hx⟩:=List.mem_flatMap.1 hu
   simp[cellsCode] at hx
   first|(rcases hx with rfl|rfl|rfl|rfl|rfl|rfl|rfl|rfl <;> rfl)|(rcases hx with rfl|rfl <;> rfl)|(subst hx;rfl)
  have HS:Hid (w.heap.size≤(w.alloc (.cells #[] 91)).heap.size):=HN.out.1.size
  have hq:∀ w,(binOp .eql 24 (.slice (some ad) l.length c) (.slice none 0 0)).run Tryz.prog w=.ok (.bool false) w:=fun w=>Lib.run_eql_slice_nil w _ _ (some ad) l.length c 0 0 Tryz.underlying24
  clear h
  go_enter Tryz.func108,Tryz.ntmps108
  go_wp2_with (at_builtin;refine wpList_append_own _ rfl (.tmp 5) (.tmp 6) 24 rfl w.heap.size 91 i0 (.agg #[.int .u8 0,.int .u8 0,.int .i64 0,.int .i64 0,.int .i64 0,.int .u64 0,.int .i64 0,.int .u64 0]) 8 56 Tryz.underlying24 hi hz0 hz1 hz2 rfl (by decide) _ _ _ rfl HN.out.2 ad l.length c (l.flatMap cellsCode) rfl (flat_length cellsCode 8 (fun _=>rfl) l) HR2.out HC2.out (by unfold maxLen;omega) (by omega) HS.out ?_)
  ·intro v' w1 hown' hgrow _
   have hb1:=(HN.out.1).grown hgrow (by show w.heap.size≤_;exact HS.out) (own_row_le HN.out.2)
   go_wp2
   go_ret
   exact⟨_,rfl,hown',own_rows (K:=kCode) hown' hl hok.out,hb1⟩
theorem cloneEv (av:Value) (l:List EvD) (w:World) (h:RdRow kEv none w av l) :
  Calls Tryz.prog 110 #[av] w fun e w'=>∃ v,e=.returned v∧w'.ownsRow w.heap.size 163 2 v l.length (l.flatMap cellsEv)∧RdRow kEv (some (upFrom w.heap.size)) w' v l∧Below w.heap.size w w':=by
 obtain⟨a,c,rfl⟩:=h.is
 obtain⟨i0,hi,hz0,hz1,hz2⟩:=info_parts infoEv
 have hok:Hid (∀ s∈l,kEv.ok s):=h.ok
 have hl:l.length*16≤140737488351232:=h.size
 cases a with
 | none=>
  have hl0:l=[]:=by
   cases l with
   | nil=>rfl
   | cons x r=>
    obtain⟨b,o,e,_⟩:=RdRow.at h (i:=0) (x:=x) rfl
    cases e
  subst hl0
  have hq:∀ w,(binOp .eql 49 (.slice none 0 c) (.slice none 0 0)).run Tryz.prog w=.ok (.bool true) w:=fun w=>Lib.run_eql_slice_nil w _ _ none 0 c 0 0 Tryz.underlying49
  clear h
  go_enter Tryz.func110,Tryz.ntmps110
  go_wp2
  go_ret
  exact⟨_,rfl,World.ownsRow_nil _ _ _ _,own_rows (K:=kEv) (l:=[]) (World.ownsRow_nil _ _ _ _) (by simp) (by intro s hs;cases hs),Below.refl _ _⟩
 | some ad=>
  have HR:=hid (row_cells h)
  have HN:Hid (Below w.heap.size w (w.alloc (.cells #[] 163))∧(w.alloc (.cells #[] 163)).ownsRow w.heap.size 163 2 (.slice (some ⟨w.heap.size,0,none⟩) 0 0) 0 []):=⟨(Below.refl _ _).alloc (Nat.le_refl _) _,own_empty _ _ _ _ _ (Nat.le_refl _) (heap_alloc_new _ _)⟩
  have HR2:Hid (∀ j u,(l.flatMap cellsEv)[j]?=some u→(w.alloc (.cells #[] 163)).cell? (ad.add j)=some u):=fun j u hj=>cell_keep HN.out.1 (HR.out j u hj)
  have HC2:Hid (∀ u∈l.flatMap cellsEv,u.oneCell'=true):=by
   intro u hu
   obtain⟨x,_,hx⟩:=List.mem_flatMap.1 hu
   simp[cellsEv] at hx
   first|(rcases hx with rfl|rfl|rfl|rfl|rfl|rfl|rfl|rfl <;> rfl)|(rcases hx with rfl|rfl <;> rfl)|(subst hx;rfl)
  have HS:Hid (w.heap.size≤(w.alloc (.cells #[] 163)).heap.size):=HN.out.1.size
  have hq:∀ w,(binOp .eql 49 (.slice (some ad) l.length c) (.slice none 0 0)).run Tryz.prog w=.ok (.bool false) w:=fun w=>Lib.run_eql_slice_nil w _ _ (some ad) l.length c 0 0 Tryz.underlying49
  clear h
  go_enter Tryz.func110,Tryz.ntmps110
  go_wp2_with (at_builtin;refine wpList_append_own _ rfl (.tmp 5) (.tmp 6) 49 rfl w.heap.size 163 i0 (.agg #[.int .i64 0,.int .u64 0]) 2 16 Tryz.underlying49 hi hz0 hz1 hz2 rfl (by decide) _ _ _ rfl HN.out.2 ad l.length c (l.flatMap cellsEv) rfl (flat_length cellsEv 2 (fun _=>rfl) l) HR2.out HC2.out (by unfold maxLen;omega) (by omega) HS.out ?_)
  ·intro v' w1 hown' hgrow _
   have hb1:=(HN.out.1).grown hgrow (by show w.heap.size≤_;exact HS.out) (own_row_le HN.out.2)
   go_wp2
   go_ret
   exact⟨_,rfl,hown',own_rows (K:=kEv) hown' hl hok.out,hb1⟩
end Go.Proofs.YtkjkpddajjmloaaGreatDoor
