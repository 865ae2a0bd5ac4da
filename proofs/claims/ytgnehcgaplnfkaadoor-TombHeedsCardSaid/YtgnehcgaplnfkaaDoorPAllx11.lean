-- Written by a program of this seat (wip/tools), out of the translation. Not trusted: Lean checks it.
import Derived.Test.YtgnehcgaplnfkaaDoorPAllx0
import Derived.Test.YtgnehcgaplnfkaaDoorPAllx6
import Derived.Test.YtgnehcgaplnfkaaDoorPAllx10
namespace Go.Proofs.YtgnehcgaplnfkaaDoor.PAll
open Go.RowKit Go.Proofs.YtgnehcgaplnfkaaDoorW.PrintWords Go.Proofs.YtgnehcgaplnfkaaDoorW.PrintLast Go.Proofs.YtgnehcgaplnfkaaDoorW.PrintMore
attribute [local go_sem] max2_int min2_int max_two min_two max_three min_three max_four min_four   -- for this text's walks alone
set_option linter.unusedVariables false
set_option linter.unusedSimpArgs false

/-! ### regex_coder_among: function 110 -/
-- uses regex_coder_take strings_IndexByte
def regex_coder_among.f : Option Int := none
/-- Whether there is a next code point, of some marks. -/
def regex_coder_among.am (m : ByteArray) (s : regex_coder_take.CS) : Bool := match s.p with
  | [] => false
  | r :: _ => decide (0 ≤ Lib.indexByte m.data.toList (UInt8.ofNat (r % 256).toNat)) && decide (r < 128)
set_option maxHeartbeats 2000000 in
set_option maxRecDepth 10000 in
theorem regex_coder_among.calls (w0 W : World) (g gp : Nat) (vc : Value) (s : regex_coder_take.CS) (m : ByteArray) (h : regex_coder_take.St w0 W g gp vc s) :
    Calls Tryd.prog 110 #[.pointer (some ⟨g, 0, none⟩), .string m] W fun e W' => e = .returned (.bool (regex_coder_among.am m s)) ∧ W' = W := by
  obtain ⟨p, code, bad⟩ := s
  obtain ⟨A, c, ⟨h0, h1, h2⟩, ⟨f0, f1, f2⟩, hl, hb, hr⟩ := h.look
  simp only at h0 h1 h2 hl hr
  have HS := Aside0.mk h
  clear h hb
  cases p with
  | nil =>
    clear hr
    go_enter Tryd.func110, Tryd.ntmps110
    go_wp2
    go_ret
    exact ⟨rfl, rfl⟩
  | cons r q =>
    obtain ⟨ad, e, hx⟩ := Kd.at_int (hr.2 W rfl) 0 (by omega) (by simp)
    subst e
    have hx0 : W.cell? ad = some (.int .i32 r) := by simpa [rd, Addr.add] using hx
    clear hx hr
    go_enter Tryd.func110, Tryd.ntmps110
    go_wp2_with (go_at_call 34; refine (strings_IndexByte.calls _ _ _).mono ?_; rintro e w' ⟨rfl, hw⟩; rw [hw])
    all_goals
      go_ret
      refine ⟨?_, rfl⟩
      simp_all [regex_coder_among.am]
    all_goals omega

end Go.Proofs.YtgnehcgaplnfkaaDoor.PAll
