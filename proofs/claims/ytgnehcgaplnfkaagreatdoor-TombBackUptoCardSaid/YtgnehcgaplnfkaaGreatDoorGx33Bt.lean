/- A text of this seat. -/
import Derived.Test.YtgnehcgaplnfkaaGreatDoorBt1
import Derived.Test.YtgnehcgaplnfkaaGreatDoorBt2
namespace Go.Proofs.YtgnehcgaplnfkaaGreatDoor.PAll
open Go.RowKit Go.Proofs.YtgnehcgaplnfkaaGreatDoorW.PrintWords Go.Proofs.YtgnehcgaplnfkaaGreatDoorW.PrintLast Go.Proofs.YtgnehcgaplnfkaaGreatDoorW.PrintMore
attribute [local go_sem] u3r u3t u4c u4b u3n u3o u3u u3s   -- for this text's walks alone
set_option linter.unusedVariables false
set_option linter.unusedSimpArgs false
-- uses labels_Can
def u1x.one:List Int → Option (ByteArray × List Int)
 | [] => none
 | c :: r => if c ≤ (r.length:Int) then some (strOfNums (r.take c.toNat),r.drop c.toNat) else none
def u1x.all:Nat → List Int → Option (List S111 × List Int)
 | 0,b => some ([],b)
 | n + 1,b => (u1x.one b).bind fun x => (u1x.one x.2).bind fun y => (u1x.all n y.2).map fun z => (⟨x.1,y.1⟩ :: z.1,z.2)
def u1x.okB (l0:List Int):Bool:=decide (l0.length ≤ 140737488355328) && l0.all (fun c => decide (0 ≤ c) && decide (c < 256))
def u1x.f (k:Nat) (l0:List Int):Option (List S111 × List Int × Int):=if u1x.okB l0 = true then (match l0 with
 | [] => some ([],[],3)
 | c :: r => match u1x.all c.toNat r with
   | none => some ([],[],3)
   | some (l,q) => (u3k.f k l).bind fun b => if b = true then some (l,q,0) else some ([],[],5)) else none
theorem u1x.one_cons {mb:Nat} {rb:List Int} (h:mb ≤ rb.length):u1x.one ((mb:Int) :: rb) = some (strOfNums (rb.take mb),rb.drop mb):=by
 simp only [u1x.one]
 rw [if_pos (by omega)]
 rfl
end Go.Proofs.YtgnehcgaplnfkaaGreatDoor.PAll
