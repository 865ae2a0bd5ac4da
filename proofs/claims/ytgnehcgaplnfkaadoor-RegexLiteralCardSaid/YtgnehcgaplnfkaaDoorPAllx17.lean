-- Written by a program of this seat (wip/tools), out of the translation. Not trusted: Lean checks it.
import Derived.Test.YtgnehcgaplnfkaaDoorPAllx0
import Derived.Test.YtgnehcgaplnfkaaDoorPAllx4
import Derived.Test.YtgnehcgaplnfkaaDoorPAllx5
import Derived.Test.YtgnehcgaplnfkaaDoorPAllx6
import Derived.Test.YtgnehcgaplnfkaaDoorPAllx7
import Derived.Test.YtgnehcgaplnfkaaDoorPAllx8
import Derived.Test.YtgnehcgaplnfkaaDoorPAllx9
import Derived.Test.YtgnehcgaplnfkaaDoorPAllx12
import Derived.Test.YtgnehcgaplnfkaaDoorPAllx15
import Derived.Test.YtgnehcgaplnfkaaDoorPAllx16
namespace Go.Proofs.YtgnehcgaplnfkaaDoor.PAll
open Go.RowKit Go.Proofs.YtgnehcgaplnfkaaDoorW.PrintWords Go.Proofs.YtgnehcgaplnfkaaDoorW.PrintLast Go.Proofs.YtgnehcgaplnfkaaDoorW.PrintMore
attribute [local go_sem] max2_int min2_int max_two min_two max_three min_three max_four min_four   -- for this text's walks alone
set_option linter.unusedVariables false
set_option linter.unusedSimpArgs false

/-! ### regex_coder_alternatives: function 53 -/
-- uses regex_coder_pieces regex_coder_atom
def regex_coder_alternatives.f : Option Int := none
theorem regex_coder_alternatives.calls0 (hP : regex_coder_atom.Sp 81 1 0) : regex_coder_atom.Sp 53 2 0 := by
  intro w0 W g gp vc s d h hd hneed hsz hk
  clear hk
  have hbad : s.bad = true := hneed.resolve_right (by unfold regex_coder_atom.need; omega)
  obtain ⟨Ac, cc, ev⟩ := Kd.R_slice h.code
  subst ev
  obtain ⟨A0, c0, ⟨j0, j1, j2⟩, ⟨p0, p1, p2⟩, jl, jb, jr⟩ := h.look
  have HS := Aside0.mk h
  have HMO : Aside0 (regex_coder_more.mo s = false) := ⟨by unfold regex_coder_more.mo; rw [hbad]; simp⟩
  have HPN : Aside0 (s.bad = true ∨ regex_coder_atom.need 1 s.p.length ≤ 0) := ⟨Or.inl hbad⟩
  have HZ := Aside0.mk hsz
  obtain ⟨s1, hs1⟩ : ∃ s1, Aside0 (regex_coder_atom.M 0 1 d s = s1) := ⟨_, ⟨rfl⟩⟩
  have hss : Aside0 (s1 = s) := ⟨hs1.out.symm⟩
  rw [← hss.out] at HMO
  clear h jl jb jr j0 p0 hbad hneed hsz
  go_enter Tryd.func53, Tryd.ntmps53
  go_wp2_with (first
        | (go_at_call 81; have hPd := hP w0 W g gp (.slice Ac s.code.length cc) s d HS.out hd HPN.out HZ.out (fun h => absurd h (by decide)); (with_reducible refine hPd.mono ?_); clear hPd; rintro e W1 ⟨rfl, vc1, hS1⟩
           rw [hs1.out] at hS1
           have HS1 := Aside0.mk hS1
           clear hS1)
        | (go_at_call 82; (with_reducible refine (regex_coder_more.calls w0 W1 g gp vc1 s1 HS1.out).mono ?_); rintro e W0 ⟨rfl, hW0⟩; rw [hW0, HMO.out]))
  (try simp only [Exit.inBlock, Exit.then]); refine bodyPost_ret (results_none rfl _ _ _) rfl ?_
  exact ⟨rfl, _, by rw [show regex_coder_atom.M 0 2 d s = s1 from hss.out.symm]; exact HS1.out⟩
/-- A cell of the coder's own row is written, behind a draw. -/
theorem regex_coder_alternatives.aimed {w0 W : World} {g gp gb n c j : Nat} {u : Value} {p : List Int} {code code' : List S62} {bad : Bool} (h : regex_coder_take.St w0 W g gp (.slice (some ⟨gb, 0, none⟩) n c) ⟨p, code, bad⟩)
    (hr : Kd.R k62 62 (W.setCell ⟨gb, j, none⟩ u) w0.heap.size (fun _ => True) (.slice (some ⟨gb, 0, none⟩) n c) code') : regex_coder_take.St w0 (W.drew.setCell ⟨gb, j, none⟩ u) g gp (.slice (some ⟨gb, 0, none⟩) n c) ⟨p, code', bad⟩ := by
  obtain ⟨A, k, h1, h2, h3⟩ := h.cells
  obtain ⟨cz, hcz⟩ := h3.1
  have hg : g ≠ gb := fun he => Kd.R_ne h.code h1 (by decide) (by rw [he]; rfl)
  have hgp : gp ≠ gb := fun he => Kd.R_ne h.code hcz (by decide) (by rw [he]; rfl)
  have hgb : w0.heap.size ≤ gb := by
    rcases Kd.R_base2 h.code with h9 | ⟨k, h9, h8⟩
    · cases h9
    · have : gb = k := by simpa [Value.ownBlock] using h9
      omega
  have hb : Below w0.heap.size w0 W.drew := ⟨h.below.os, h.below.tape, h.below.output, h.below.size, h.below.block⟩
  exact ⟨hb.setCell hgb _, h.base, ⟨A, k, (Below.heap_setCell W.drew ⟨gb, j, none⟩ u g hg).trans h1, h2, h3.move (Below.heap_setCell W.drew ⟨gb, j, none⟩ u gp hgp)⟩, Kd.R_step hr (fun _ _ _ => rfl)⟩
set_option maxHeartbeats 4000000 in
set_option maxRecDepth 10000 in
theorem regex_coder_alternatives.calls1 (f : Nat) (hP : regex_coder_atom.Sp 81 1 f) (hL : regex_coder_atom.Sp 53 2 f) : regex_coder_atom.Sp 53 2 (f + 1) := by
  intro w0 W g gp vc s d h hd hneed hsz hk
  clear hk
  obtain ⟨Ac, cc, ev⟩ := Kd.R_slice h.code
  subst ev
  obtain ⟨A0, c0, ⟨j0, j1, j2⟩, ⟨p0, p1, p2⟩, jl, jb, jr⟩ := h.look
  have HS := Aside0.mk h
  have HZ := Aside0.mk hsz
  have hN : s.bad = true ∨ 4 * s.p.length + 3 ≤ f + 1 := by
    rcases hneed with h9 | h9
    · exact Or.inl h9
    · exact Or.inr (by unfold regex_coder_atom.need at h9; omega)
  have HPN : Aside0 (s.bad = true ∨ regex_coder_atom.need 1 s.p.length ≤ f) := ⟨by
    rcases hN with h9 | h9
    · exact Or.inl h9
    · exact Or.inr (by unfold regex_coder_atom.need; omega)⟩
  obtain ⟨s1, hs1⟩ : ∃ s1, Aside0 (regex_coder_atom.M f 1 d s = s1) := ⟨_, ⟨rfl⟩⟩
  obtain ⟨mo, HMO⟩ : ∃ mo, Aside0 (regex_coder_more.mo s1 = mo) := ⟨_, ⟨rfl⟩⟩
  obtain ⟨nx, HNX⟩ : ∃ nx, Aside0 (regex_coder_next.nx s1 = nx) := ⟨_, ⟨rfl⟩⟩
  obtain ⟨⟨d1, d2, d3⟩, _⟩ := regex_coder_atom.M_dec f 1 d s (fun h => absurd h (by decide))
  rw [hs1.out] at d1 d2 d3
  by_cases hcond : mo = true ∧ nx = 124
  · obtain ⟨rfl, rfl⟩ := hcond
    obtain ⟨hpne, hbad⟩ := regex_coder_atom.mo_ne HMO.out
    obtain ⟨a1, a2, a3⟩ := regex_coder_atom.step_ne hpne
    obtain ⟨x2, hx2⟩ : ∃ x2, Aside0 (regex_coder_take.step s1 = x2) := ⟨_, ⟨rfl⟩⟩
    obtain ⟨r2, s2⟩ := x2
    rw [hx2.out] at a1 a2 a3
    simp only at a1 a2 a3
    obtain ⟨dr, hdr⟩ : ∃ dr, Aside0 (s2.code.drop s.code.length = dr) := ⟨_, ⟨rfl⟩⟩
    have hdl : dr.length = s1.code.length - s.code.length := by rw [← hdr.out, a3]; exact List.length_drop
    have HD2 : Aside0 (s.code.length ≤ s2.code.length ∧ s2.code.length ≤ 1000000) := ⟨by rw [a3]; omega⟩
    have hdl2 : dr.length ≤ 1000 := by omega
    have hcl : s.code.length ≤ 1000 := by omega
    obtain ⟨s6, hs6⟩ : ∃ s6 : regex_coder_take.CS, Aside0 ((⟨s2.p, s2.code.take s.code.length ++ [⟨2, [], false, (s.code.length : Int) + 1, (s.code.length : Int) + (dr.length : Int) + 2⟩] ++ dr.map (regex_shifted.sh 1), s2.bad⟩ : regex_coder_take.CS) = s6) := ⟨_, ⟨rfl⟩⟩
    obtain ⟨jn, hjn⟩ : ∃ jn, s.code.length + 1 + dr.length = jn := ⟨_, rfl⟩
    have HJ : Aside0 (s6.code.length = jn) := ⟨by
      rw [← hs6.out]
      simp only [List.length_append, List.length_take, List.length_map, List.length_cons, List.length_nil]
      have := HD2.out.1
      omega⟩
    have HJ6 : Aside0 (s6.code.length + 1 ≤ 1000000) := ⟨by rw [HJ.out]; omega⟩
    obtain ⟨s7, hs7⟩ : ∃ s7 : regex_coder_take.CS, Aside0 ((⟨s6.p, s6.code ++ [⟨3, [], false, 0, 0⟩], s6.bad⟩ : regex_coder_take.CS) = s7) := ⟨_, ⟨rfl⟩⟩
    have hbar : Aside0 (regex_coder_atom.bar s.code.length s1 = s7) := ⟨by
      rw [← hs7.out, ← hs6.out]
      unfold regex_coder_atom.bar regex_coder_atom.put
      rw [hx2.out]
      dsimp only
      rw [← a3, hdr.out]⟩
    obtain ⟨⟨b1, b2, b3⟩, b4, b5⟩ := regex_coder_atom.bar_dec d2 hpne
    rw [hbar.out] at b1 b2 b3 b4 b5
    have HLN : Aside0 (s7.bad = true ∨ regex_coder_atom.need 2 s7.p.length ≤ f) := ⟨by
      rcases hN with h9 | h9
      · exfalso
        have h8 : s.bad = true := h9
        have h7 : regex_coder_atom.M f 1 d s = s := by
          cases f with
          | zero => rfl
          | succ f =>
            simp only [regex_coder_atom.M]
            rw [if_neg (by unfold regex_coder_more.mo; rw [h8]; simp)]
        rw [hs1.out] at h7
        rw [h7, h8] at hbad
        cases hbad
      · exact Or.inr (by unfold regex_coder_atom.need; omega)⟩
    have HLZ : Aside0 (s7.code.length + 2 * s7.p.length ≤ 1000) := ⟨by omega⟩
    obtain ⟨s8, hs8⟩ : ∃ s8, Aside0 (regex_coder_atom.M f 2 d s7 = s8) := ⟨_, ⟨rfl⟩⟩
    obtain ⟨⟨g1, g2, g3⟩, _⟩ := regex_coder_atom.M_dec f 2 d s7 (fun h => absurd h (by decide))
    rw [hs8.out] at g1 g2 g3
    obtain ⟨n8, HLEN8⟩ : ∃ n8, Aside0 (s8.code.length = n8) := ⟨_, ⟨rfl⟩⟩
    rw [HLEN8.out] at g2 g3
    have hjn8 : jn < n8 := by omega
    have hn8 : n8 ≤ 1000 := by omega
    obtain ⟨x8, HX8⟩ : ∃ x8, Aside0 (s8.code[jn]? = some x8) := ⟨s8.code[jn]'(by rw [HLEN8.out]; exact hjn8), ⟨List.getElem?_eq_getElem (by rw [HLEN8.out]; exact hjn8)⟩⟩
    have HFIN : Aside0 (regex_coder_atom.M (f + 1) 2 d s = ⟨s8.p, s8.code.set jn ⟨x8.f0, x8.f1, x8.f2, (n8 : Int), x8.f4⟩, s8.bad⟩) := ⟨by
      simp only [regex_coder_atom.M]
      rw [hs1.out, if_pos ⟨HMO.out, HNX.out⟩, hbar.out, hs8.out, ← a3, hdr.out, hjn]
      unfold regex_coder_atom.aim
      rw [HX8.out]
      dsimp only
      rw [HLEN8.out]⟩
    clear h jl jb jr j0 p0 hneed hsz hN d1 d2 d3 hpne hbad a1 a2 a3 b1 b2 b3 b4 b5 g1 g2 g3 hbar hdl
    go_enter Tryd.func53, Tryd.ntmps53
    go_wp2_with (first
        | (go_at_call 81; have hPd := hP w0 W g gp (.slice Ac s.code.length cc) s d HS.out hd HPN.out HZ.out (fun h => absurd h (by decide)); (with_reducible refine hPd.mono ?_); clear hPd; rintro e W1 ⟨rfl, vc1, hS1⟩
           rw [hs1.out] at hS1
           have HS1 := Aside0.mk hS1
           clear hS1)
        | (go_at_call 82; (with_reducible refine (regex_coder_more.calls w0 W1 g gp vc1 s1 HS1.out).mono ?_); rintro e W0 ⟨rfl, hW0⟩; rw [hW0, HMO.out])
        | (go_at_call 83; (with_reducible refine (regex_coder_next.calls w0 W1 g gp vc1 s1 HS1.out).mono ?_); rintro e W0 ⟨rfl, hW0⟩; rw [hW0, HNX.out])
        | (go_at_call 84; (with_reducible refine (regex_coder_take.calls w0 W1 g gp vc1 s1 HS1.out).mono ?_); rintro e W2 ⟨rfl, hS2, hK2⟩
           rw [hx2.out] at hS2 ⊢
           have HS2 := Aside0.mk hS2
           clear hS2 hK2)
        | (go_at_call 85; (with_reducible refine (regex_coder_part.calls w0 W2 g gp vc1 s2 s.code.length HS2.out HD2.out.1 HD2.out.2).mono ?_); rintro e W3 ⟨v3, vc3, rfl, hR3, hS3, hN3⟩
           rw [hdr.out] at hR3
           obtain ⟨Av, cv, ev⟩ := Kd.R_slice hR3
           subst ev
           have hcv : dr.length ≤ cv := (Kd.R_reads' hR3).2.1
           have HH3 : Aside0 (regex_coder_pieces.Held w0 W3 vc3 (.slice Av dr.length cv) dr) := ⟨⟨hR3, hN3⟩⟩
           have HS3 := Aside0.mk hS3
           clear hS3 hR3 hN3)
        | (go_at_call 54; (with_reducible refine (regex_coder_put.put1a rfl HS3.out (Kd.R_nil _ _ _ _ _) (by have := HD2.out.2; simp only [List.length_take]; omega)).mono ?_); rintro e W4 ⟨rfl, vc4, hS4, hF4⟩
           have HH4 := Aside0.mk (HH3.out.fr HS3.out hF4)
           have HS4 := Aside0.mk hS4
           clear hS4 hF4)
        | (go_at_call 86; (with_reducible refine (regex_shifted.calls w0 W4 Av cv dr 1 HS4.out.below HH4.out.reads hcv (by omega)).mono ?_); rintro e W5 ⟨v5, rfl, hR5, hB5, hN5⟩
           have HS5 := Aside0.mk (regex_coder_part.St_below HS4.out hB5)
           have HR5 := Aside0.mk hR5
           clear hR5 hB5 hN5)
        | (go_at_call 54; (with_reducible refine (regex_coder_put.calls w0 W5 g gp vc4 v5 _ _ HS5.out HR5.out (by have := HD2.out.2; simp only [List.length_append, List.length_map, List.length_cons, List.length_nil, List.length_take]; omega)).mono ?_); rintro e W6 ⟨rfl, vc6, hS6, hF6⟩
           simp only at hS6
           rw [hs6.out] at hS6
           obtain ⟨A6, c6, e6⟩ := Kd.R_slice hS6.code
           rw [HJ.out] at e6
           subst e6
           obtain ⟨B6, b6, ⟨k0, k1, k2⟩, ⟨q0, q1, q2⟩, kl, kb, kr⟩ := hS6.look
           have HS6 := Aside0.mk hS6
           clear hS6 hF6 kl kb kr k0 q0)
        | (go_at_call 54; (with_reducible refine (regex_coder_put.put1a rfl HS6.out (Kd.R_nil _ _ _ _ _) HJ6.out).mono ?_); rintro e W7 ⟨rfl, vc7, hS7, hF7⟩
           rw [hs7.out] at hS7
           have HS7 := Aside0.mk hS7
           clear hS7 hF7)
        | (go_at_call 53; have hLd := hL w0 W7 g gp vc7 s7 d HS7.out hd HLN.out HLZ.out (fun h => absurd h (by decide)); (with_reducible refine hLd.mono ?_); clear hLd; rintro e W8 ⟨rfl, vc8, hS8⟩
           rw [hs8.out] at hS8
           obtain ⟨A8, c8, e8⟩ := Kd.R_slice hS8.code
           rw [HLEN8.out] at e8
           subst e8
           obtain ⟨gb, eg⟩ := regex_inst.form hS8.code (by omega)
           subst eg
           obtain ⟨B8, b8, ⟨z0, z1, z2⟩, ⟨y0, y1, y2⟩, zl, zb, zr⟩ := hS8.look
           obtain ⟨t1, t2, t3, t4⟩ := regex_inst.store (w0 := w0) jn 3 (n8 : Int) (Or.inl rfl) hS8.code x8 HX8.out ⟨x8.f0, x8.f1, x8.f2, (n8 : Int), x8.f4⟩ rfl
           simp only [if_true] at t1
           have HS8 := Aside0.mk hS8
           have HT3 := Aside0.mk t3
           have HT4 := Aside0.mk t4
           clear hS8 zl zb zr z0 y0 t3 t4))
    go_still_tail 12, (by kernel_rfl)
    have u1 : W8.drew.frozen? ⟨gb, jn * 5 + 3, none⟩ = false := t2
    have u2 : W8.drew.cell? ⟨gb, jn * 5 + 3, none⟩ = some (.int .i64 x8.f3) := t1
    change wpList _ _ _ _ _ W8.drew
    generalize hW9 : W8.drew = W9 at u1 u2 ⊢
    have HW9 := Aside0.mk hW9
    clear hW9
    go_wp2
    go_end0
    refine ⟨rfl, .slice (some ⟨gb, 0, none⟩) n8 c8, ?_⟩
    rw [HFIN.out, ← HW9.out]
    exact regex_coder_alternatives.aimed HS8.out HT3.out
  · have HFIN : Aside0 (regex_coder_atom.M (f + 1) 2 d s = s1) := ⟨by
      simp only [regex_coder_atom.M]
      rw [hs1.out, HMO.out, HNX.out, if_neg hcond]⟩
    clear h jl jb jr j0 p0 hneed hsz hN d1 d2 d3
    cases mo with
    | false =>
      clear hcond
      go_enter Tryd.func53, Tryd.ntmps53
      go_wp2_with (first
        | (go_at_call 81; have hPd := hP w0 W g gp (.slice Ac s.code.length cc) s d HS.out hd HPN.out HZ.out (fun h => absurd h (by decide)); (with_reducible refine hPd.mono ?_); clear hPd; rintro e W1 ⟨rfl, vc1, hS1⟩
           rw [hs1.out] at hS1
           have HS1 := Aside0.mk hS1
           clear hS1)
        | (go_at_call 82; (with_reducible refine (regex_coder_more.calls w0 W1 g gp vc1 s1 HS1.out).mono ?_); rintro e W0 ⟨rfl, hW0⟩; rw [hW0, HMO.out])
        | (go_at_call 83; (with_reducible refine (regex_coder_next.calls w0 W1 g gp vc1 s1 HS1.out).mono ?_); rintro e W0 ⟨rfl, hW0⟩; rw [hW0, HNX.out]))
      (try simp only [Exit.inBlock, Exit.then]); refine bodyPost_ret (results_none rfl _ _ _) rfl ?_
      exact ⟨rfl, _, by rw [HFIN.out]; exact HS1.out⟩
    | true =>
      have hnx : (nx != 124) = true := by
        have : nx ≠ 124 := fun h9 => hcond ⟨rfl, h9⟩
        simpa using this
      clear hcond
      go_enter Tryd.func53, Tryd.ntmps53
      go_wp2_with (first
        | (go_at_call 81; have hPd := hP w0 W g gp (.slice Ac s.code.length cc) s d HS.out hd HPN.out HZ.out (fun h => absurd h (by decide)); (with_reducible refine hPd.mono ?_); clear hPd; rintro e W1 ⟨rfl, vc1, hS1⟩
           rw [hs1.out] at hS1
           have HS1 := Aside0.mk hS1
           clear hS1)
        | (go_at_call 82; (with_reducible refine (regex_coder_more.calls w0 W1 g gp vc1 s1 HS1.out).mono ?_); rintro e W0 ⟨rfl, hW0⟩; rw [hW0, HMO.out])
        | (go_at_call 83; (with_reducible refine (regex_coder_next.calls w0 W1 g gp vc1 s1 HS1.out).mono ?_); rintro e W0 ⟨rfl, hW0⟩; rw [hW0, HNX.out]))
      (try simp only [Exit.inBlock, Exit.then]); refine bodyPost_ret (results_none rfl _ _ _) rfl ?_
      exact ⟨rfl, _, by rw [HFIN.out]; exact HS1.out⟩
/-- All walks of the coder that call one another. -/
theorem regex_coder_alternatives.all (f : Nat) : (∀ f', f' ≤ f → regex_coder_atom.Sp 111 0 f') ∧ (∀ f', f' ≤ f → regex_coder_atom.Sp 81 1 f') ∧ (∀ f', f' ≤ f → regex_coder_atom.Sp 53 2 f') := by
  induction f with
  | zero =>
    have ha : regex_coder_atom.Sp 111 0 0 := by
      intro w0 W g gp vc s d h hd hneed hsz hk
      exfalso
      rcases hneed with h9 | h9
      · rw [(hk rfl).1] at h9
        cases h9
      · unfold regex_coder_atom.need at h9
        omega
    have hp : regex_coder_atom.Sp 81 1 0 := regex_coder_pieces.calls 0 (fun f' hf => absurd hf (by omega))
    refine ⟨fun f' hf => ?_, fun f' hf => ?_, fun f' hf => ?_⟩
    · obtain rfl : f' = 0 := by omega
      exact ha
    · obtain rfl : f' = 0 := by omega
      exact hp
    · obtain rfl : f' = 0 := by omega
      exact regex_coder_alternatives.calls0 hp
  | succ f ih =>
    obtain ⟨ia, ip, il⟩ := ih
    have ha : regex_coder_atom.Sp 111 0 (f + 1) := regex_coder_atom.calls f (il f (Nat.le_refl _))
    have hp : regex_coder_atom.Sp 81 1 (f + 1) := regex_coder_pieces.calls (f + 1) (fun f' hf => ia f' (by omega))
    have hl : regex_coder_atom.Sp 53 2 (f + 1) := regex_coder_alternatives.calls1 f (ip f (Nat.le_refl _)) (il f (Nat.le_refl _))
    refine ⟨fun f' hf => ?_, fun f' hf => ?_, fun f' hf => ?_⟩
    · rcases Nat.lt_or_ge f f' with h9 | h9
      · obtain rfl : f' = f + 1 := by omega
        exact ha
      · exact ia f' h9
    · rcases Nat.lt_or_ge f f' with h9 | h9
      · obtain rfl : f' = f + 1 := by omega
        exact hp
      · exact ip f' h9
    · rcases Nat.lt_or_ge f f' with h9 | h9
      · obtain rfl : f' = f + 1 := by omega
        exact hl
      · exact il f' h9

end Go.Proofs.YtgnehcgaplnfkaaDoor.PAll
