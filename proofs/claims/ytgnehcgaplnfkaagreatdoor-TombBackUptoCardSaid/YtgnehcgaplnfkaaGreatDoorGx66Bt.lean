/- A text of this seat. -/
import Derived.Test.YtgnehcgaplnfkaaGreatDoorBt1
import Derived.Test.YtgnehcgaplnfkaaGreatDoorBt7
import Derived.Test.YtgnehcgaplnfkaaGreatDoorBt4
namespace Go.Proofs.YtgnehcgaplnfkaaGreatDoor.PAll
open Go.RowKit Go.Proofs.YtgnehcgaplnfkaaGreatDoorW.PrintWords Go.Proofs.YtgnehcgaplnfkaaGreatDoorW.PrintLast Go.Proofs.YtgnehcgaplnfkaaGreatDoorW.PrintMore
attribute [local go_sem] u3r u3t u4c u4b u3n u3o u3u u3s   -- for this text's walks alone
set_option linter.unusedVariables false
set_option linter.unusedSimpArgs false
-- uses dryrotref10_Int dryrotref10_rows dryrotref09_Decode dryrotref10_Can
def u1k.fin (k:Nat) (a:Int) (l:List S59) (m:List S79) (x y z:Int) (q:List Int):Option Int :=
 if q ≠ [] then some 5 else (u2n.f k a l m x y z).bind fun c => some (if c = true then 0 else 5)
def u1k.err (k:Nat):List Int → Option Int
 | [] => some 5
 | c :: r => if c = 1 then (u2u.top k r).bind fun z => match z with
     | none => some 5
     | some y => u1k.fin k 1 y.1 [] 0 0 0 y.2
   else if c = 2 then (u2b.f k r).bind fun z => if z.2.2 ≠ 0 then some 5 else match u1t.int 8 z.2.1 with
    | none => some 5
    | some u => match u1t.int 8 u.2 with
      | none => some 5
      | some v => u1k.fin k 2 [] z.1 u.1 v.1 0 v.2
   else if c = 3 then (match u1t.int 8 r with
    | none => some 5
    | some u => u1k.fin k 3 [] [] 0 0 u.1 u.2)
   else some 5
theorem u1k.err_cons (k:Nat) (c:Int) (r:List Int):u1k.err k (c :: r) = (if c = 1 then (u2u.top k r).bind fun z => match z with
 | none => some 5
 | some y => u1k.fin k 1 y.1 [] 0 0 0 y.2
 else if c = 2 then (u2b.f k r).bind fun z => if z.2.2 ≠ 0 then some 5 else match u1t.int 8 z.2.1 with
  | none => some 5
  | some u => match u1t.int 8 u.2 with
    | none => some 5
    | some v => u1k.fin k 2 [] z.1 u.1 v.1 0 v.2
 else if c = 3 then (match u1t.int 8 r with
  | none => some 5
  | some u => u1k.fin k 3 [] [] 0 0 u.1 u.2)
 else some 5):=rfl
structure u1k.Inv (w W:World) (a:Int) (vR vM:Value) (x y z:Int):Prop where
 below:Below w.heap.size w W
 res:W.heap[w.heap.size]? = some (.cells #[.int .i64 0,.slice none 0 0,.slice none 0 0,.int .i64 0,.int .i64 0,.int .i64 0] 26 (0,0))
 cur:W.heap[w.heap.size + 1]? = some (.cells #[.int .i64 a,vR,vM,.int .i64 x,.int .i64 y,.int .i64 z] 26 (0,0))
theorem u1k.Inv.more {w W W':World} {a x y z:Int} {vR vM:Value} (h:u1k.Inv w W a vR vM x y z) (hb:Below W.heap.size W W'):u1k.Inv w W' a vR vM x y z:=⟨u1c h.below h.below.size hb,u1h h.res hb,u1h h.cur hb⟩
theorem u1k.Inv.store {w W:World} {a x y z:Int} {vR vM:Value} {a' x' y' z':Int} {vR' vM':Value} (h:u1k.Inv w W a vR vM x y z) (i:Nat) (u:Value) (hc:(#[.int .i64 a,vR,vM,.int .i64 x,.int .i64 y,.int .i64 z]:Array Value).setIfInBounds i u = #[.int .i64 a',vR',vM',.int .i64 x',.int .i64 y',.int .i64 z']):u1k.Inv w (W.setCell ⟨w.heap.size + 1,i,none⟩ u) a' vR' vM' x' y' z' :=
 ⟨h.below.setCell (Nat.le_succ _) _,blk_far h.res (by simp) _,by rw [u4f h.cur,hc]⟩
end Go.Proofs.YtgnehcgaplnfkaaGreatDoor.PAll
