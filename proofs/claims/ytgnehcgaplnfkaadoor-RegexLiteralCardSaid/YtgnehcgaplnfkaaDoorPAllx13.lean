-- Written by a program of this seat (wip/tools), out of the translation. Not trusted: Lean checks it.
import Derived.Test.YtgnehcgaplnfkaaDoorPAllx0
import Derived.Test.YtgnehcgaplnfkaaDoorPAllx6
import Derived.Test.YtgnehcgaplnfkaaDoorPAllx11
namespace Go.Proofs.YtgnehcgaplnfkaaDoor.PAll
open Go.RowKit Go.Proofs.YtgnehcgaplnfkaaDoorW.PrintWords Go.Proofs.YtgnehcgaplnfkaaDoorW.PrintLast Go.Proofs.YtgnehcgaplnfkaaDoorW.PrintMore
attribute [local go_sem] max2_int min2_int max_two min_two max_three min_three max_four min_four   -- for this text's walks alone
set_option linter.unusedVariables false
set_option linter.unusedSimpArgs false

/-! ### regex_coder_member: function 129 -/
-- uses regex_coder_take regex_coder_among
def regex_coder_member.f : Option Int := none
/-- A code point of a class is taken. -/
def regex_coder_member.mem (s : regex_coder_take.CS) : Int × regex_coder_take.CS :=
  let s0 : regex_coder_take.CS := { s with bad := s.bad || regex_coder_among.am ⟨#[93, 45]⟩ s }
  let x := regex_coder_take.step s0
  if x.1 = 92 then regex_coder_take.step x.2 else x
set_option maxHeartbeats 2000000 in
set_option maxRecDepth 10000 in
theorem regex_coder_member.calls (w0 W : World) (g gp : Nat) (vc : Value) (s : regex_coder_take.CS) (h : regex_coder_take.St w0 W g gp vc s) :
    Calls Tryd.prog 129 #[.pointer (some ⟨g, 0, none⟩)] W fun e W' => e = .returned (.int .i32 (regex_coder_member.mem s).1) ∧ regex_coder_take.St w0 W' g gp vc (regex_coder_member.mem s).2 ∧ regex_coder_take.Kp W W' g := by
  obtain ⟨s0, hs0⟩ : ∃ s0 : regex_coder_take.CS, Aside0 (s0 = { s with bad := s.bad || regex_coder_among.am ⟨#[93, 45]⟩ s }) := ⟨_, ⟨rfl⟩⟩
  have HM : Aside0 (regex_coder_member.mem s = if (regex_coder_take.step s0).1 = 92 then regex_coder_take.step (regex_coder_take.step s0).2 else regex_coder_take.step s0) := ⟨by rw [hs0.out]; rfl⟩
  obtain ⟨A, c, ⟨h0, h1, h2⟩, ⟨f0, f1, f2⟩, hl, hb, hr⟩ := h.look
  have HS := Aside0.mk h
  have HB : Aside0 (regex_coder_among.am ⟨#[93, 45]⟩ s = true → regex_coder_take.St w0 (W.setCell ⟨g, 2, none⟩ (.bool true)) g gp vc s0) := ⟨fun hm => by
    rw [hs0.out, hm, Bool.or_true]
    exact h.set hb rfl hl hr rfl⟩
  have HC : Aside0 (regex_coder_among.am ⟨#[93, 45]⟩ s = false → regex_coder_take.St w0 W g gp vc s0) := ⟨fun hm => by
    rw [hs0.out, hm, Bool.or_false]
    exact h⟩
  clear h hb hr hl hs0
  obtain ⟨am, ham⟩ : ∃ am, Aside0 (regex_coder_among.am ⟨#[93, 45]⟩ s = am) := ⟨_, ⟨rfl⟩⟩
  rw [ham.out] at HB HC
  obtain ⟨x1, hx1⟩ : ∃ x1, Aside0 (regex_coder_take.step s0 = x1) := ⟨_, ⟨rfl⟩⟩
  obtain ⟨x2, hx2⟩ : ∃ x2, Aside0 (regex_coder_take.step x1.2 = x2) := ⟨_, ⟨rfl⟩⟩
  rw [hx1.out, hx2.out] at HM
  obtain ⟨r1, s1⟩ := x1
  obtain ⟨r2, s2⟩ := x2
  go_enter Tryd.func129, Tryd.ntmps129
  go_wp2_with (first
    | (go_at_call 110; (with_reducible refine (regex_coder_among.calls w0 _ g gp vc s _ HS.out).mono ?_); rintro e W0 ⟨rfl, hW0⟩; rw [hW0, ham.out])
    | (go_at_call 84; (with_reducible refine (regex_coder_take.calls w0 _ g gp vc s0 (by first | exact HB.out (by assumption) | exact HC.out (by assumption))).mono ?_); rintro e W1 ⟨rfl, hS1, hK1⟩; rw [hx1.out] at hS1 ⊢; have HS1 := Aside0.mk hS1; have HK1 := Aside0.mk hK1; clear hS1 hK1)
    | (go_at_call 84; (with_reducible refine (regex_coder_take.calls w0 _ g gp vc s1 HS1.out).mono ?_); rintro e W2 ⟨rfl, hS2, hK2⟩; rw [hx2.out] at hS2 ⊢; have HS2 := Aside0.mk hS2; have HK2 := Aside0.mk hK2; clear hS2 hK2))
  all_goals
    go_ret
    rw [HM.out]
    first
      | (have h9 : (r1 == 92) = true := by assumption
         rw [if_pos (by simpa using h9)]
         first
           | exact ⟨rfl, HS2.out, HK1.out.trans HK2.out⟩
           | exact ⟨rfl, HS2.out, (regex_coder_take.Kp.set _ _ _ _).trans (HK1.out.trans HK2.out)⟩)
      | (have h9 : (r1 == 92) = false := by assumption
         rw [if_neg (by simpa using h9)]
         first
           | exact ⟨rfl, HS1.out, HK1.out⟩
           | exact ⟨rfl, HS1.out, (regex_coder_take.Kp.set _ _ _ _).trans HK1.out⟩)

end Go.Proofs.YtgnehcgaplnfkaaDoor.PAll
