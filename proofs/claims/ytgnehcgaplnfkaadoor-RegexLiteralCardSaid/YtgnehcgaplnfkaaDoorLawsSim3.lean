/- Plain law: the parse's simulation, whole. No program runs in it. -/
import Derived.Test.YtgnehcgaplnfkaaDoorLawsSim2
namespace Go.Proofs.YtgnehcgaplnfkaaDoor.PAll
open Go.RowKit Go.Proofs.YtgnehcgaplnfkaaDoorW.PrintWords Go.Proofs.YtgnehcgaplnfkaaDoorW.PrintLast
set_option linter.unusedVariables false
set_option linter.unusedSimpArgs false
namespace Sim
open regex_coder_atom (M put need close)
theorem atom_is (alts : Nat → CS → CS) (d : Nat) (r : Int) (q : List Int) (c : List I) : regex_coder_atom.atomM alts d ⟨r :: q, c, false⟩ =
    if am ⟨#[42, 43, 63, 124, 41, 93]⟩ ⟨r :: q, c, false⟩ = true then ⟨r :: q, c, true⟩
    else if r = 46 then ⟨q, c ++ [⟨1, [], true, 0, 0⟩], false⟩
    else if r = 91 then cls ⟨q, c, false⟩
    else if r = 40 then (if (false : Bool) = true ∨ 10 ≤ d then ⟨q, c, true⟩ else close (alts (d + 1) ⟨q, c, false⟩))
    else if r = 92 then put (step ⟨q, c, false⟩).2 [⟨1, [⟨(step ⟨q, c, false⟩).1, (step ⟨q, c, false⟩).1⟩], false, 0, 0⟩]
    else ⟨q, c ++ [⟨1, [⟨r, r⟩], false, 0, 0⟩], false⟩ := rfl
theorem close_good {s : CS} (h : (close s).bad = false) : ∃ q c, s = ⟨41 :: q, c, false⟩ := by
  obtain ⟨p, c, b⟩ := s
  cases p with
  | nil => cases h
  | cons r q =>
    have h1 : (b || (r != 41)) = false := h
    rw [Bool.or_eq_false_iff] at h1
    have h2 : r = 41 := by simpa using h1.2
    rw [h2, h1.1]
    exact ⟨q, c, rfl⟩
theorem close_is (q : List Int) (c : List I) : close ⟨41 :: q, c, false⟩ = ⟨q, c, false⟩ := rfl
theorem piece_is (f d : Nat) (s : CS) : M (f + 1) 1 d s = if mo s = true ∧ am ⟨#[124, 41]⟩ s = false then M f 1 d (regex_coder_atom.qual s.code.length (M f 0 d s)) else s := rfl
theorem alts_is (f d : Nat) (s : CS) : M (f + 1) 2 d s = if mo (M f 1 d s) = true ∧ nx (M f 1 d s) = 124 then regex_coder_atom.aim (s.code.length + 1 + ((M f 1 d s).code.drop s.code.length).length) (M f 2 d (regex_coder_atom.bar s.code.length (M f 1 d s))) else M f 1 d s := rfl
theorem good_qual {n : Nat} {s : CS} (h : (regex_coder_atom.qual n s).bad = false) : s.bad = false := by
  cases hb : s.bad with
  | false => rfl
  | true =>
    unfold regex_coder_atom.qual at h
    rw [if_neg (by rw [hb]; simp), hb] at h
    cases h
theorem mo_cons (r : Int) (q : List Int) (c : List I) : mo ⟨r :: q, c, false⟩ = true := rfl
theorem mo_nil (c : List I) (b : Bool) : mo ⟨[], c, b⟩ = false := rfl
set_option maxHeartbeats 1000000 in
theorem sim (f : Nat) : ∀ (f' k d d' : Nat) (p : List Int) (c c' : List I) (t : List Int), k ≤ 2 → (k = 0 → p ≠ []) → need k p.length ≤ f → need k (p ++ 41 :: t).length ≤ f' → c.length + 2 * p.length ≤ 1000 → c'.length + 2 * (p ++ 41 :: t).length ≤ 1000 →
    (M f k d ⟨p, c, false⟩).bad = false → (M f' k d' ⟨p ++ 41 :: t, c', false⟩).bad = false → Sm t c c' (M f k d ⟨p, c, false⟩) (M f' k d' ⟨p ++ 41 :: t, c', false⟩) := by
  induction f with
  | zero => exact fun f' k d d' p c c' t _ _ h => absurd h (by simp only [need]; omega)
  | succ f ih =>
    intro f' k d d' p c c' t hk hp0 hf hf' hz hz' hb hb'
    obtain ⟨f', rfl⟩ : ∃ f2, f' = f2 + 1 := ⟨f' - 1, by simp only [need] at hf'; omega⟩
    simp only [need] at hf hf'
    have hpl : (p ++ 41 :: t).length = p.length + (t.length + 1) := by simp
    match k, hk with
    | 0, _ =>
      cases p with
      | nil => exact absurd rfl (hp0 rfl)
      | cons r q =>
        have e1 : M (f + 1) 0 d ⟨r :: q, c, false⟩ = _ := atom_is (fun d' s' => M f 2 d' s') d r q c
        have e2 : M (f' + 1) 0 d' ⟨r :: q ++ 41 :: t, c', false⟩ = _ := atom_is (fun d' s' => M f' 2 d' s') d' r (q ++ 41 :: t) c'
        have ha : am ⟨#[42, 43, 63, 124, 41, 93]⟩ ⟨r :: (q ++ 41 :: t), c', false⟩ = am ⟨#[42, 43, 63, 124, 41, 93]⟩ ⟨r :: q, c, false⟩ := rfl
        rw [e1] at hb
        rw [e2] at hb'
        rw [e1, e2]
        rw [ha] at hb' ⊢
        by_cases h1 : am ⟨#[42, 43, 63, 124, 41, 93]⟩ ⟨r :: q, c, false⟩ = true
        · rw [if_pos h1] at hb
          cases hb
        rw [if_neg h1] at hb hb' ⊢
        rw [if_neg h1]
        by_cases h2 : r = 46
        · rw [if_pos h2, if_pos h2]
          exact ⟨q, _, _, rfl, rfl, Rel.one (R.rune _ _ _)⟩
        rw [if_neg h2] at hb hb' ⊢
        rw [if_neg h2]
        by_cases h3 : r = 91
        · rw [if_pos h3] at hb
          rw [if_pos h3, if_pos h3]
          obtain ⟨q', l, no, g1, g2⟩ := cls_sim q c c' t hb
          rw [g1, g2]
          exact ⟨q', _, _, rfl, rfl, Rel.one (R.rune _ _ _)⟩
        rw [if_neg h3] at hb hb' ⊢
        rw [if_neg h3]
        by_cases h4 : r = 40
        · rw [if_pos h4] at hb hb' ⊢
          rw [if_pos h4]
          by_cases h5 : (false : Bool) = true ∨ 10 ≤ d
          · rw [if_pos h5] at hb
            cases hb
          by_cases h6 : (false : Bool) = true ∨ 10 ≤ d'
          · rw [if_pos h6] at hb'
            cases hb'
          rw [if_neg h5] at hb ⊢
          rw [if_neg h6] at hb' ⊢
          obtain ⟨q1, c1, g1⟩ := close_good hb
          obtain ⟨q2, c2, g2⟩ := close_good hb'
          simp only [List.length_cons] at hf hf' hz hz' hpl
          obtain ⟨q3, n, n', k1, k2, k3⟩ := ih f' 2 (d + 1) (d' + 1) q c c' t (Nat.le_refl _) (fun h => absurd h (by decide)) (by simp only [need]; omega) (by simp only [need, List.length_append, List.length_cons] at hf' ⊢; omega) (by omega) (by simp only [List.length_append, List.length_cons] at hz' ⊢; omega) (by rw [g1]) (by rw [g2])
          have e3 : q3 = 41 :: q1 := by
            have := k1.symm.trans g1
            injection this
          subst e3
          rw [k1, k2]
          exact ⟨q1, n, n', rfl, rfl, k3⟩
        rw [if_neg h4] at hb hb' ⊢
        rw [if_neg h4]
        by_cases h5 : r = 92
        · rw [if_pos h5] at hb ⊢
          rw [if_pos h5]
          cases q with
          | nil => cases hb
          | cons x q => exact ⟨q, _, _, rfl, rfl, Rel.one (R.rune _ _ _)⟩
        · rw [if_neg h5, if_neg h5]
          exact ⟨q, _, _, rfl, rfl, Rel.one (R.rune _ _ _)⟩
    | 1, _ =>
      rw [piece_is] at hb hb'
      rw [piece_is, piece_is]
      cases p with
      | nil =>
        rw [if_neg (by rw [mo_nil]; simp), if_neg (by rw [List.nil_append, am41_stop]; simp)]
        exact ⟨[], [], [], by simp, by simp, Rel.nil _⟩
      | cons r q =>
        have ha : am ⟨#[124, 41]⟩ ⟨r :: q ++ 41 :: t, c', false⟩ = am ⟨#[124, 41]⟩ ⟨r :: q, c, false⟩ := rfl
        by_cases hc : mo ⟨r :: q, c, false⟩ = true ∧ am ⟨#[124, 41]⟩ ⟨r :: q, c, false⟩ = false
        · have hc2 : mo ⟨r :: q ++ 41 :: t, c', false⟩ = true ∧ am ⟨#[124, 41]⟩ ⟨r :: q ++ 41 :: t, c', false⟩ = false := ⟨rfl, hc.2⟩
          rw [if_pos hc] at hb ⊢
          rw [if_pos hc2] at hb' ⊢
          have hg := good_qual (good_of (by decide) hb)
          have hg' := good_qual (good_of (by decide) hb')
          obtain ⟨dc, dl⟩ := regex_coder_atom.M_dec f 0 d ⟨r :: q, c, false⟩ (fun _ => by simp)
          obtain ⟨dc', dl'⟩ := regex_coder_atom.M_dec f' 0 d' ⟨r :: q ++ 41 :: t, c', false⟩ (fun _ => by simp)
          have hs := ih f' 0 d d' (r :: q) c c' t (by decide) (fun _ => by simp) (by simp only [need]; omega) (by simp only [need]; omega) hz hz' hg hg'
          have hdl : (M f 0 d ⟨r :: q, c, false⟩).p.length + 1 ≤ (r :: q).length := by
            rcases dl rfl (by simp only [List.length_cons] at hf; omega) with h9 | h9
            · rw [hg] at h9
              cases h9
            · exact h9
          have hdl' : (M f' 0 d' ⟨r :: q ++ 41 :: t, c', false⟩).p.length + 1 ≤ (r :: q ++ 41 :: t).length := by
            rcases dl' rfl (by simp only [List.length_cons, List.length_append] at hf'; omega) with h9 | h9
            · rw [hg'] at h9
              cases h9
            · exact h9
          have hcl := dc.both
          have hcl' := dc'.both
          have hcc := dc.code
          have hcc' := dc'.code
          simp only [List.length_append, List.length_cons] at hcl hcl' hcc hcc' hdl hdl' hf hf' hz hz'
          obtain ⟨w1, w2, w3, _⟩ := regex_coder_atom.qual_dec dc.code
          obtain ⟨w1', w2', w3', _⟩ := regex_coder_atom.qual_dec dc'.code
          have hq := qual_sim hs (by omega) (by omega) (by omega)
          obtain ⟨q1, n, n', k1, k2, k3⟩ := hq
          simp only at w1 w3 w1' w3'
          rw [show (⟨r :: q, c, false⟩ : CS).code.length = c.length from rfl, k1] at hb ⊢
          rw [show (⟨r :: q ++ 41 :: t, c', false⟩ : CS).code.length = c'.length from rfl, k2] at hb' ⊢
          rw [k1] at w1 w3
          rw [k2] at w1' w3'
          simp only [List.length_append, List.length_cons] at w1 w3 w1' w3'
          obtain ⟨q2, m, m', l1, l2, l3⟩ := ih f' 1 d d' q1 (c ++ n) (c' ++ n') t (by decide) (fun h => absurd h (by decide)) (by simp only [need]; omega) (by simp only [need, List.length_append, List.length_cons]; omega) (by simp only [List.length_append]; omega) (by simp only [List.length_append, List.length_cons]; omega) hb hb'
          have hlen : (((c' ++ n').length : Int) - (c ++ n).length) = (c'.length : Int) - c.length := by
            have := k3.1
            simp only [List.length_append]
            omega
          rw [hlen] at l3
          exact ⟨q2, n ++ m, n' ++ m', by rw [l1, List.append_assoc], by rw [l2, List.append_assoc], k3.append l3⟩
        · have hc2 : ¬ (mo ⟨r :: q ++ 41 :: t, c', false⟩ = true ∧ am ⟨#[124, 41]⟩ ⟨r :: q ++ 41 :: t, c', false⟩ = false) := fun h9 => hc ⟨rfl, h9.2⟩
          rw [if_neg hc, if_neg hc2]
          exact ⟨r :: q, [], [], by simp, by simp, Rel.nil _⟩
    | 2, _ =>
      rw [alts_is] at hb hb'
      rw [alts_is, alts_is]
      have hg : (M f 1 d ⟨p, c, false⟩).bad = false := by
        by_cases hc : mo (M f 1 d ⟨p, c, false⟩) = true ∧ nx (M f 1 d ⟨p, c, false⟩) = 124
        · exact (regex_coder_atom.mo_ne hc.1).2
        · rw [if_neg hc] at hb
          exact hb
      have hg' : (M f' 1 d' ⟨p ++ 41 :: t, c', false⟩).bad = false := by
        by_cases hc : mo (M f' 1 d' ⟨p ++ 41 :: t, c', false⟩) = true ∧ nx (M f' 1 d' ⟨p ++ 41 :: t, c', false⟩) = 124
        · exact (regex_coder_atom.mo_ne hc.1).2
        · rw [if_neg hc] at hb'
          exact hb'
      have hs := ih f' 1 d d' p c c' t (by decide) (fun h => absurd h (by decide)) (by simp only [need]; omega) (by simp only [need]; omega) hz hz' hg hg'
      have dc := (regex_coder_atom.M_dec f 1 d ⟨p, c, false⟩ (fun h => absurd h (by decide))).1
      have dc' := (regex_coder_atom.M_dec f' 1 d' ⟨p ++ 41 :: t, c', false⟩ (fun h => absurd h (by decide))).1
      obtain ⟨q, n, n', k1, k2, k3⟩ := hs
      have b1 := dc.both
      have b2 := dc.p
      have b1' := dc'.both
      have b2' := dc'.p
      rw [show regex_coder_atom.M f 1 d ⟨p, c, false⟩ = _ from k1] at b1 b2
      rw [show regex_coder_atom.M f' 1 d' ⟨p ++ 41 :: t, c', false⟩ = _ from k2] at b1' b2'
      simp only [List.length_append] at b1 b2 b1' b2'
      rw [k1] at hb ⊢
      rw [k2] at hb' ⊢
      have hn := k3.1
      cases q with
      | nil =>
        rw [if_neg (by rw [mo_nil]; simp), if_neg (fun h9 => absurd h9.2 (show ¬ (41 : Int) = 124 by decide))]
        exact ⟨[], n, n', rfl, rfl, k3⟩
      | cons r q =>
        by_cases hc : mo ⟨r :: q, c ++ n, false⟩ = true ∧ nx ⟨r :: q, c ++ n, false⟩ = 124
        · have hc2 : mo ⟨r :: q ++ 41 :: t, c' ++ n', false⟩ = true ∧ nx ⟨r :: q ++ 41 :: t, c' ++ n', false⟩ = 124 := ⟨rfl, hc.2⟩
          rw [if_pos hc] at hb ⊢
          rw [if_pos hc2] at hb' ⊢
          have hd : ((⟨r :: q, c ++ n, false⟩ : CS).code.drop (⟨p, c, false⟩ : CS).code.length).length = n.length := by simp
          have hd' : ((⟨r :: q ++ 41 :: t, c' ++ n', false⟩ : CS).code.drop (⟨p ++ 41 :: t, c', false⟩ : CS).code.length).length = n'.length := by simp
          rw [hd, show (⟨p, c, false⟩ : CS).code.length = c.length from rfl, bar_is] at hb ⊢
          rw [hd', show (⟨p ++ 41 :: t, c', false⟩ : CS).code.length = c'.length from rfl, List.cons_append, bar_is] at hb' ⊢
          rw [(regex_coder_atom.aim_len _ _).2.2] at hb hb'
          simp only [List.length_cons] at b1 b2 b1' b2'
          obtain ⟨q2, m, m', l1, l2, l3⟩ := ih f' 2 d d' q (c ++ barred c.length n 0) (c' ++ barred c'.length n' 0) t (Nat.le_refl _) (fun h => absurd h (by decide)) (by simp only [need]; omega) (by simp only [need]; simp only [List.length_append, List.length_cons] at *; omega) (by simp only [List.length_append, barred_len]; omega) (by simp only [List.length_append, barred_len, List.length_cons] at *; omega) hb hb'
          have hm := (regex_coder_atom.M_dec f 2 d ⟨q, c ++ barred c.length n 0, false⟩ (fun h => absurd h (by decide))).1.both
          rw [show regex_coder_atom.M f 2 d ⟨q, c ++ barred c.length n 0, false⟩ = _ from l1] at hm
          simp only [List.length_append, barred_len] at hm
          have hlen : (((c' ++ barred c'.length n' 0).length : Int) - (c ++ barred c.length n 0).length) = (c'.length : Int) - c.length := by
            simp only [List.length_append, barred_len]
            omega
          rw [hlen] at l3
          have hml := l3.1
          rw [l1, l2, List.append_assoc, List.append_assoc, aim_is, aim_is]
          refine ⟨q2, _, _, rfl, rfl, Rel.append ?_ l3⟩
          rw [hml]
          exact barred_rel k3 (by omega) (by omega) (by omega) m.length (by omega)
        · have hc2 : ¬ (mo ⟨r :: q ++ 41 :: t, c' ++ n', false⟩ = true ∧ nx ⟨r :: q ++ 41 :: t, c' ++ n', false⟩ = 124) := fun h9 => hc ⟨rfl, h9.2⟩
          rw [if_neg hc, if_neg hc2]
          exact ⟨r :: q, n, n', rfl, rfl, k3⟩
end Sim
end Go.Proofs.YtgnehcgaplnfkaaDoor.PAll
