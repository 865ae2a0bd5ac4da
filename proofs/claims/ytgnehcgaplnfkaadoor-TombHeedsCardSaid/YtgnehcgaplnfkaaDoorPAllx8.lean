-- Written by a program of this seat (wip/tools), out of the translation. Not trusted: Lean checks it.
import Derived.Test.YtgnehcgaplnfkaaDoorPAllx0
import Derived.Test.YtgnehcgaplnfkaaDoorPAllx6
namespace Go.Proofs.YtgnehcgaplnfkaaDoor.PAll
open Go.RowKit Go.Proofs.YtgnehcgaplnfkaaDoorW.PrintWords Go.Proofs.YtgnehcgaplnfkaaDoorW.PrintLast Go.Proofs.YtgnehcgaplnfkaaDoorW.PrintMore
attribute [local go_sem] max2_int min2_int max_two min_two max_three min_three max_four min_four   -- for this text's walks alone
set_option linter.unusedVariables false
set_option linter.unusedSimpArgs false

/-! ### regex_coder_more: function 82 -/
-- uses regex_coder_take
def regex_coder_more.f : Option Int := none
def regex_coder_more.mo (s : regex_coder_take.CS) : Bool := !s.p.isEmpty && !s.bad
set_option maxHeartbeats 2000000 in
set_option maxRecDepth 10000 in
theorem regex_coder_more.calls (w0 W : World) (g gp : Nat) (vc : Value) (s : regex_coder_take.CS) (h : regex_coder_take.St w0 W g gp vc s) :
    Calls Tryd.prog 82 #[.pointer (some ⟨g, 0, none⟩)] W fun e W' => e = .returned (.bool (regex_coder_more.mo s)) ∧ W' = W := by
  obtain ⟨p, code, bad⟩ := s
  obtain ⟨A, c, ⟨h0, h1, h2⟩, ⟨f0, f1, f2⟩, hl, hb, hr⟩ := h.look
  simp only at h0 h1 h2 hl hr
  clear h hb hr
  cases p with
  | nil =>
    go_enter Tryd.func82, Tryd.ntmps82
    go_wp2
    go_ret
    exact ⟨rfl, rfl⟩
  | cons r q =>
    go_enter Tryd.func82, Tryd.ntmps82
    go_wp2
    all_goals
      go_ret
      refine ⟨?_, rfl⟩
      simp_all [regex_coder_more.mo]

end Go.Proofs.YtgnehcgaplnfkaaDoor.PAll
