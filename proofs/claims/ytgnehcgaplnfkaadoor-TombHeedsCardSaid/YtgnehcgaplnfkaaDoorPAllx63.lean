-- Written by a program of this seat (wip/tools), out of the translation. Not trusted: Lean checks it.
import Derived.Test.YtgnehcgaplnfkaaDoorPAllx0
namespace Go.Proofs.YtgnehcgaplnfkaaDoor.PAll
open Go.RowKit Go.Proofs.YtgnehcgaplnfkaaDoorW.PrintWords Go.Proofs.YtgnehcgaplnfkaaDoorW.PrintLast Go.Proofs.YtgnehcgaplnfkaaDoorW.PrintMore
attribute [local go_sem] max2_int min2_int max_two min_two max_three min_three max_four min_four   -- for this text's walks alone
set_option linter.unusedVariables false
set_option linter.unusedSimpArgs false

/-! ### slices_Grow_byte_byte: function 118 -/
def slices_Grow_byte_byte.f (l0 : List Int) (a1 : Int) : Option (List Int) := none
theorem slices_Grow_byte_byte.info : (Tryd.prog.info? 5).map (fun i => (i.zero, i.size, i.bytes)) = some (some (.int .u8 0), 1, 1) := by kernel_rfl
set_option maxHeartbeats 1000000 in
/-- An empty slice grown: an empty slice of the call's own, or nil. -/
theorem slices_Grow_byte_byte.calls_nil (n : Nat) (w : World) (hn : n ≤ 140737488355328) : Calls Tryd.prog 118 #[.slice none 0 0, .int .i64 n] w fun e w' => ∃ v : Value, e = .returned v ∧ Kd.R (Kd.int .u8) 5 w' w.heap.size (fun _ => True) v [] ∧ Below w.heap.size w w' := by
  have HN : Aside0 (Kd.R (Kd.int .u8) 5 w w.heap.size (fun _ => True) (.slice none 0 0) []) := ⟨Kd.R_nil _ _ _ _ _⟩
  have h0 : (0 : Int) ≤ (n : Int) := by omega
  by_cases hz : n = 0
  · subst hz
    go_enter Tryd.func118, Tryd.ntmps118
    go_wp2
    go_ret
    exact ⟨_, rfl, Kd.R_nil _ _ _ _ _, Below.refl _ _⟩
  · have hp : (0 : Int) < (n : Int) := by omega
    go_enter Tryd.func118, Tryd.ntmps118
    go_wp2_with (at_builtin; refine Kd.R_append_zeros (Kd.int .u8) (w0 := w) w.heap.size rfl (.tmp 20) (.tmp 21) 81 3 5 (.int .u8 0) 1 rfl Tryd.underlying81 Tryd.underlying3 slices_Grow_byte_byte.info rfl (by decide) (by decide) _ [] (0 : Int) (n : Int) (fun _ => True) rfl rfl rfl (fun _ _ => trivial) HN.out (by omega) (Below.refl _ _) (Nat.le_refl _) ?_ ?_)
    · simp
      omega
    · intro v1 w1 hR hB _ _
      obtain ⟨A1, c1, e1⟩ : ∃ A1 c1, v1 = .slice A1 n c1 := by
        obtain ⟨A1, c1, e1⟩ := Kd.R_slice hR
        exact ⟨A1, c1, by rw [e1]; simp⟩
      subst e1
      have HR := Aside0.mk (Kd.R_take (m := 0) hR (Nat.zero_le _))
      have HB := Aside0.mk hB
      clear hR hB
      go_wp2
      go_ret
      exact ⟨_, rfl, HR.out, HB.out⟩

end Go.Proofs.YtgnehcgaplnfkaaDoor.PAll
