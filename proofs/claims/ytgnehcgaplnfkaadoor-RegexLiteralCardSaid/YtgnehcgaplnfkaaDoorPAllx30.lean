-- Written by a program of this seat (wip/tools), out of the translation. Not trusted: Lean checks it.
import Derived.Test.YtgnehcgaplnfkaaDoorPAllx0
import Derived.Test.YtgnehcgaplnfkaaDoorPAllx29
namespace Go.Proofs.YtgnehcgaplnfkaaDoor.PAll
open Go.RowKit Go.Proofs.YtgnehcgaplnfkaaDoorW.PrintWords Go.Proofs.YtgnehcgaplnfkaaDoorW.PrintLast Go.Proofs.YtgnehcgaplnfkaaDoorW.PrintMore
attribute [local go_sem] max2_int min2_int max_two min_two max_three min_three max_four min_four   -- for this text's walks alone
set_option linter.unusedVariables false
set_option linter.unusedSimpArgs false

/-! ### dryrotref08_Check: function 16 -/
-- uses dryrotref08_parse
def dryrotref08_Check.f (a0 : ByteArray) : Option Int := if a0.size ≤ 35184372088830 then (if dryrotref08_parse.early a0 = true then some 5 else none) else none
set_option maxHeartbeats 4000000 in
theorem dryrotref08_Check.calls (p : ByteArray) (r : Int) (w : World) (h : dryrotref08_Check.f p = some r) : Calls Tryd.prog 16 #[.string p] w fun e w' => e = .returned (.int .i64 r) ∧ Below w.heap.size w w' := by
  unfold dryrotref08_Check.f at h
  by_cases hs : p.size ≤ 35184372088830
  · rw [if_pos hs] at h
    by_cases he : dryrotref08_parse.early p = true
    · rw [if_pos he] at h
      obtain rfl := Option.some.inj h
      have HE := Aside0.mk he
      clear he h
      go_enter Tryd.func16, Tryd.ntmps16
      go_wp2_with (go_at_call 33; (with_reducible refine (dryrotref08_parse.early_calls p w hs HE.out).mono ?_); rintro e W1 ⟨rfl, hB1⟩; unfold dryrotref08_parse.zn; have HB1 := Aside0.mk hB1; clear hB1)
      go_ret
      refine ⟨rfl, ?_⟩
      repeat (first | exact HB1.out.alloc HB1.out.size _ | (refine Below.setCell ?_ HB1.out.size _))
    · rw [if_neg he] at h
      cases h
  · rw [if_neg hs] at h
    cases h

end Go.Proofs.YtgnehcgaplnfkaaDoor.PAll
