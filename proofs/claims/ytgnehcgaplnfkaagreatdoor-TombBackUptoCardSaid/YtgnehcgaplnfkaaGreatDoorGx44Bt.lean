/- A text of this seat. -/
import Derived.Test.YtgnehcgaplnfkaaGreatDoorBt1
import Derived.Test.YtgnehcgaplnfkaaGreatDoorBt3
import Derived.Test.YtgnehcgaplnfkaaGreatDoorBt2
namespace Go.Proofs.YtgnehcgaplnfkaaGreatDoor.PAll
open Go.RowKit Go.Proofs.YtgnehcgaplnfkaaGreatDoorW.PrintWords Go.Proofs.YtgnehcgaplnfkaaGreatDoorW.PrintLast Go.Proofs.YtgnehcgaplnfkaaGreatDoorW.PrintMore
attribute [local go_sem] u3r u3t u4c u4b u3n u3o u3u u3s   -- for this text's walks alone
set_option linter.unusedVariables false
set_option linter.unusedSimpArgs false
-- uses dryrotref07_Name dryrotref07_Value
abbrev u1v.Lb:=S111
def u1v.nm (k:Nat) (x:u1v.Lb):Bool:=(u1o.f k x.f0).getD false
def u1v.vl (x:u1v.Lb):Bool:=(u3q.f x.f1).getD false
def u1v.stepB (k:Nat) (l:List u1v.Lb) (i:Nat):Bool:=u1v.nm k (rd_T111 l (i:Int)) && u1v.vl (rd_T111 l (i:Int)) && (decide (i = 0) || Op.bytesLess (rd_T111 l ((i:Int) - 1)).f0.toList (rd_T111 l (i:Int)).f0.toList)
def u1v.canB (k:Nat) (l:List u1v.Lb):Bool:=decide (1 ≤ l.length) && decide (l.length ≤ 8) && (List.range l.length).all (u1v.stepB k l)
def u1v.okB (k:Nat) (l:List u1v.Lb):Bool:=l.all fun x => (u1o.f k x.f0).isSome && (u3q.f x.f1).isSome
def u1v.f (k:Nat) (l0:List u1v.Lb):Option Bool:=if u1v.okB k l0 = true then some (u1v.canB k l0) else none
end Go.Proofs.YtgnehcgaplnfkaaGreatDoor.PAll
