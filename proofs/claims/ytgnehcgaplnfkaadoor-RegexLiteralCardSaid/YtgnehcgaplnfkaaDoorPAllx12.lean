-- Written by a program of this seat (wip/tools), out of the translation. Not trusted: Lean checks it.
import Derived.Test.YtgnehcgaplnfkaaDoorPAllx0
import Derived.Test.YtgnehcgaplnfkaaDoorPAllx6
namespace Go.Proofs.YtgnehcgaplnfkaaDoor.PAll
open Go.RowKit Go.Proofs.YtgnehcgaplnfkaaDoorW.PrintWords Go.Proofs.YtgnehcgaplnfkaaDoorW.PrintLast Go.Proofs.YtgnehcgaplnfkaaDoorW.PrintMore
attribute [local go_sem] max2_int min2_int max_two min_two max_three min_three max_four min_four   -- for this text's walks alone
set_option linter.unusedVariables false
set_option linter.unusedSimpArgs false

/-! ### regex_coder_next: function 83 -/
-- uses regex_coder_take
def regex_coder_next.f : Option Int := none
def regex_coder_next.nx (s : regex_coder_take.CS) : Int := match s.p with
  | [] => 0
  | r :: _ => r
set_option maxHeartbeats 2000000 in
set_option maxRecDepth 10000 in
theorem regex_coder_next.calls (w0 W : World) (g gp : Nat) (vc : Value) (s : regex_coder_take.CS) (h : regex_coder_take.St w0 W g gp vc s) :
    Calls Tryd.prog 83 #[.pointer (some ⟨g, 0, none⟩)] W fun e W' => e = .returned (.int .i32 (regex_coder_next.nx s)) ∧ W' = W := by
  obtain ⟨p, code, bad⟩ := s
  obtain ⟨A, c, ⟨h0, h1, h2⟩, ⟨f0, f1, f2⟩, hl, hb, hr⟩ := h.look
  simp only at h0 h1 h2 hl hr
  clear h hb
  cases p with
  | nil =>
    clear hr
    go_enter Tryd.func83, Tryd.ntmps83
    go_wp2
    go_ret
    exact ⟨rfl, rfl⟩
  | cons r q =>
    obtain ⟨ad, e, hx⟩ := Kd.at_int (hr.2 W rfl) 0 (by omega) (by simp)
    subst e
    have hx0 : W.cell? ad = some (.int .i32 r) := by simpa [rd, Addr.add] using hx
    clear hx hr
    go_enter Tryd.func83, Tryd.ntmps83
    go_wp2
    all_goals
      go_ret
      exact ⟨rfl, rfl⟩

end Go.Proofs.YtgnehcgaplnfkaaDoor.PAll
