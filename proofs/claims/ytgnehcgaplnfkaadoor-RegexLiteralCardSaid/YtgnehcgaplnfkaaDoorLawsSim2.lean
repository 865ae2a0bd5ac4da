/- Plain law: the parse's simulation (see LawsSim), for atoms, pieces, alternatives. No program runs in it. -/
import Derived.Test.YtgnehcgaplnfkaaDoorLawsSim
namespace Go.Proofs.YtgnehcgaplnfkaaDoor.PAll
open Go.RowKit Go.Proofs.YtgnehcgaplnfkaaDoorW.PrintWords Go.Proofs.YtgnehcgaplnfkaaDoorW.PrintLast
set_option linter.unusedVariables false
set_option linter.unusedSimpArgs false
namespace Sim
open regex_coder_atom (M put need close)
/-- An instruction, its places d further. -/
structure R (d : Int) (x y : I) : Prop where
  f0 : y.f0 = x.f0
  f1 : y.f1 = x.f1
  f2 : y.f2 = x.f2
  two : x.f0 = 2 → y.f3 = wrap64 (x.f3 + d) ∧ y.f4 = wrap64 (x.f4 + d)
  three : x.f0 = 3 → y.f3 = wrap64 (x.f3 + d)
def Rel (d : Int) (n n' : List I) : Prop := n'.length = n.length ∧ ∀ (i : Nat) (x : I), n[i]? = some x → ∃ y, n'[i]? = some y ∧ R d x y
theorem Rel.nil (d : Int) : Rel d [] [] := ⟨rfl, fun i x h => by simp at h⟩
theorem Rel.one {d : Int} {x y : I} (h : R d x y) : Rel d [x] [y] := ⟨rfl, fun i z hz => by
  cases i with
  | zero => exact ⟨y, rfl, by have := Option.some.inj hz; rw [← this]; exact h⟩
  | succ i => simp at hz⟩
theorem R.rune (d : Int) (l : List S95) (no : Bool) : R d ⟨1, l, no, 0, 0⟩ ⟨1, l, no, 0, 0⟩ := ⟨rfl, rfl, rfl, fun h => absurd h (show ¬ (1 : Int) = 2 by decide), fun h => absurd h (show ¬ (1 : Int) = 3 by decide)⟩
theorem Rel.append {d : Int} {a a' b b' : List I} (h : Rel d a a') (h2 : Rel d b b') : Rel d (a ++ b) (a' ++ b') := by
  refine ⟨by rw [List.length_append, List.length_append, h.1, h2.1], fun i x hx => ?_⟩
  rcases Nat.lt_or_ge i a.length with hi | hi
  · rw [List.getElem?_append_left hi] at hx
    rw [List.getElem?_append_left (by rw [h.1]; exact hi)]
    exact h.2 i x hx
  · rw [List.getElem?_append_right hi] at hx
    rw [List.getElem?_append_right (by rw [h.1]; exact hi), h.1]
    exact h2.2 _ x hx
theorem wrap_add (a b c : Int) : wrap64 (wrap64 (a + b) + c) = wrap64 (wrap64 (a + c) + b) := by
  unfold wrap64
  omega
theorem R.sh {d : Int} {x y : I} (h : R d x y) : R d (regex_shifted.sh 1 x) (regex_shifted.sh 1 y) := by
  refine ⟨h.f0, h.f1, h.f2, fun h9 => ?_, fun h9 => ?_⟩
  · obtain ⟨e1, e2⟩ := h.two h9
    exact ⟨by show wrap64 (y.f3 + 1) = wrap64 (wrap64 (x.f3 + 1) + d); rw [e1, wrap_add], by show wrap64 (y.f4 + 1) = wrap64 (wrap64 (x.f4 + 1) + d); rw [e2, wrap_add]⟩
  · have e1 := h.three h9
    show wrap64 (y.f3 + 1) = wrap64 (wrap64 (x.f3 + 1) + d)
    rw [e1, wrap_add]
theorem Rel.sh {d : Int} {a a' : List I} (h : Rel d a a') : Rel d (a.map (regex_shifted.sh 1)) (a'.map (regex_shifted.sh 1)) := by
  refine ⟨by rw [List.length_map, List.length_map, h.1], fun i x hx => ?_⟩
  rw [List.getElem?_map] at hx
  obtain ⟨x0, h1, rfl⟩ := Option.map_eq_some_iff.1 hx
  obtain ⟨y0, h2, h3⟩ := h.2 i x0 h1
  exact ⟨regex_shifted.sh 1 y0, by rw [List.getElem?_map, h2]; rfl, h3.sh⟩
theorem Rel.set {d : Int} {a a' : List I} (h : Rel d a a') (j : Nat) {x y : I} (hx : R d x y) : Rel d (a.set j x) (a'.set j y) := by
  refine ⟨by rw [List.length_set, List.length_set, h.1], fun i z hz => ?_⟩
  have hi : i < a.length := by
    have := (List.getElem?_eq_some_iff.1 hz).1
    rwa [List.length_set] at this
  by_cases hij : j = i
  · subst hij
    rw [List.getElem?_set_self hi] at hz
    refine ⟨y, by rw [List.getElem?_set_self (by rw [h.1]; exact hi)], ?_⟩
    rw [← Option.some.inj hz]
    exact hx
  · rw [List.getElem?_set_ne hij] at hz
    rw [List.getElem?_set_ne hij]
    exact h.2 i z hz
/-- The two runs' states. -/
def Sm (t : List Int) (c c' : List I) (s s' : CS) : Prop := ∃ q n n', s = ⟨q, c ++ n, false⟩ ∧ s' = ⟨q ++ 41 :: t, c' ++ n', false⟩ ∧ Rel ((c'.length : Int) - c.length) n n'
theorem M_bad (f : Nat) : ∀ (k d : Nat) (s : CS), k ≠ 0 → s.bad = true → (M f k d s).bad = true := by
  induction f with
  | zero => exact fun k d s _ h => h
  | succ f ih =>
    intro k d s hk h
    match k with
    | 0 => exact absurd rfl hk
    | 1 =>
      show (if mo s = true ∧ am ⟨#[124, 41]⟩ s = false then M f 1 d (regex_coder_atom.qual s.code.length (M f 0 d s)) else s).bad = true
      rw [if_neg (fun h9 => by have := (regex_coder_atom.mo_ne h9.1).2; rw [h] at this; cases this)]
      exact h
    | k + 2 =>
      have h1 := ih 1 d s (by decide) h
      show (if mo (M f 1 d s) = true ∧ nx (M f 1 d s) = 124 then regex_coder_atom.aim (s.code.length + 1 + ((M f 1 d s).code.drop s.code.length).length) (M f 2 d (regex_coder_atom.bar s.code.length (M f 1 d s))) else M f 1 d s).bad = true
      rw [if_neg (fun h9 => by have := (regex_coder_atom.mo_ne h9.1).2; rw [h1] at this; cases this)]
      exact h1
theorem good_of {f k d : Nat} {s : CS} (hk : k ≠ 0) (h : (M f k d s).bad = false) : s.bad = false := by
  cases hb : s.bad with
  | false => rfl
  | true => rw [M_bad f k d s hk hb] at h; cases h
theorem wrap_small (x : Int) (h : -1000000 ≤ x) (h2 : x ≤ 1000000) : wrap64 x = x := by
  unfold wrap64
  omega
theorem qual_sim {t : List Int} {c c' : List I} {s s' : CS} (h : Sm t c c' s s') (hc : c.length ≤ 1000) (hc' : c'.length ≤ 1000) (hl : s.code.length ≤ 1000) :
    Sm t c c' (regex_coder_atom.qual c.length s) (regex_coder_atom.qual c'.length s') := by
  obtain ⟨q, n, n', rfl, rfl, hr⟩ := h
  have hn := hr.1
  simp only [List.length_append] at hl
  have ht : (c ++ n).take c.length = c := by simp
  have hd : (c ++ n).drop c.length = n := by simp
  have ht' : (c' ++ n').take c'.length = c' := by simp
  have hd' : (c' ++ n').drop c'.length = n' := by simp
  cases q with
  | nil =>
    have e1 : regex_coder_atom.qual c.length ⟨[], c ++ n, false⟩ = ⟨[], c ++ n, false⟩ := by
      unfold regex_coder_atom.qual
      rw [if_neg (fun h9 => by have h8 := h9.2; rw [show regex_coder_among.am ⟨#[42, 43, 63]⟩ ⟨[], c ++ n, false⟩ = false from rfl] at h8; cases h8)]
    have e2 : regex_coder_atom.qual c'.length ⟨[] ++ 41 :: t, c' ++ n', false⟩ = ⟨[] ++ 41 :: t, c' ++ n', false⟩ := by
      unfold regex_coder_atom.qual
      rw [if_neg (fun h9 => by have h8 := h9.2; rw [show regex_coder_among.am ⟨#[42, 43, 63]⟩ ⟨[] ++ 41 :: t, c' ++ n', false⟩ = false from am41_qual t _ _] at h8; cases h8)]
    rw [e1, e2]
    exact ⟨[], n, n', rfl, rfl, hr⟩
  | cons r q =>
    have ha : regex_coder_among.am ⟨#[42, 43, 63]⟩ ⟨r :: q ++ 41 :: t, c' ++ n', false⟩ = regex_coder_among.am ⟨#[42, 43, 63]⟩ ⟨r :: q, c ++ n, false⟩ := rfl
    have hs : regex_coder_take.step { (⟨r :: q, c ++ n, false⟩ : CS) with code := (⟨r :: q, c ++ n, false⟩ : CS).code.take c.length } = (r, ⟨q, c, false⟩) := by
      show regex_coder_take.step ⟨r :: q, (c ++ n).take c.length, false⟩ = _
      rw [ht]
      rfl
    have hs' : regex_coder_take.step { (⟨r :: q ++ 41 :: t, c' ++ n', false⟩ : CS) with code := (⟨r :: q ++ 41 :: t, c' ++ n', false⟩ : CS).code.take c'.length } = (r, ⟨q ++ 41 :: t, c', false⟩) := by
      show regex_coder_take.step ⟨r :: q ++ 41 :: t, (c' ++ n').take c'.length, false⟩ = _
      rw [ht']
      rfl
    unfold regex_coder_atom.qual
    rw [ha]
    by_cases hq : (⟨r :: q, c ++ n, false⟩ : CS).bad = false ∧ regex_coder_among.am ⟨#[42, 43, 63]⟩ ⟨r :: q, c ++ n, false⟩ = true
    · rw [if_pos hq, if_pos (show (⟨r :: q ++ 41 :: t, c' ++ n', false⟩ : CS).bad = false ∧ _ from ⟨rfl, hq.2⟩), hs, hs']
      simp only [hd, hd']
      by_cases h42 : r = 42
      · rw [if_pos h42, if_pos h42]
        refine ⟨q, [⟨2, [], false, (c.length : Int) + 1, (c.length : Int) + (n.length : Int) + 2⟩] ++ n.map (regex_shifted.sh 1) ++ [⟨3, [], false, c.length, 0⟩], [⟨2, [], false, (c'.length : Int) + 1, (c'.length : Int) + (n'.length : Int) + 2⟩] ++ n'.map (regex_shifted.sh 1) ++ [⟨3, [], false, c'.length, 0⟩], ?_, ?_, ((Rel.one ?_).append hr.sh).append (Rel.one ?_)⟩
        · simp [regex_coder_atom.put]
        · simp [regex_coder_atom.put]
        · refine ⟨rfl, rfl, rfl, fun _ => ⟨?_, ?_⟩, fun h9 => absurd h9 (show ¬ (2 : Int) = 3 by decide)⟩
          · show (c'.length : Int) + 1 = wrap64 ((c.length : Int) + 1 + ((c'.length : Int) - c.length))
            rw [wrap_small _ (by omega) (by omega)]
            omega
          · show (c'.length : Int) + (n'.length : Int) + 2 = wrap64 ((c.length : Int) + (n.length : Int) + 2 + ((c'.length : Int) - c.length))
            rw [wrap_small _ (by omega) (by omega)]
            omega
        · refine ⟨rfl, rfl, rfl, fun h9 => absurd h9 (show ¬ (3 : Int) = 2 by decide), fun _ => ?_⟩
          show (c'.length : Int) = wrap64 ((c.length : Int) + ((c'.length : Int) - c.length))
          rw [wrap_small _ (by omega) (by omega)]
          omega
      · rw [if_neg h42, if_neg h42]
        by_cases h43 : r = 43
        · rw [if_pos h43, if_pos h43]
          refine ⟨q, n ++ [⟨2, [], false, c.length, (c.length : Int) + (n.length : Int) + 1⟩], n' ++ [⟨2, [], false, c'.length, (c'.length : Int) + (n'.length : Int) + 1⟩], ?_, ?_, hr.append (Rel.one ?_)⟩
          · simp [regex_coder_atom.put]
          · simp [regex_coder_atom.put]
          · refine ⟨rfl, rfl, rfl, fun _ => ⟨?_, ?_⟩, fun h9 => absurd h9 (show ¬ (2 : Int) = 3 by decide)⟩
            · show (c'.length : Int) = wrap64 ((c.length : Int) + ((c'.length : Int) - c.length))
              rw [wrap_small _ (by omega) (by omega)]
              omega
            · show (c'.length : Int) + (n'.length : Int) + 1 = wrap64 ((c.length : Int) + (n.length : Int) + 1 + ((c'.length : Int) - c.length))
              rw [wrap_small _ (by omega) (by omega)]
              omega
        · rw [if_neg h43, if_neg h43]
          refine ⟨q, [⟨2, [], false, (c.length : Int) + 1, (c.length : Int) + (n.length : Int) + 1⟩] ++ n.map (regex_shifted.sh 1), [⟨2, [], false, (c'.length : Int) + 1, (c'.length : Int) + (n'.length : Int) + 1⟩] ++ n'.map (regex_shifted.sh 1), ?_, ?_, (Rel.one ?_).append hr.sh⟩
          · simp [regex_coder_atom.put]
          · simp [regex_coder_atom.put]
          · refine ⟨rfl, rfl, rfl, fun _ => ⟨?_, ?_⟩, fun h9 => absurd h9 (show ¬ (2 : Int) = 3 by decide)⟩
            · show (c'.length : Int) + 1 = wrap64 ((c.length : Int) + 1 + ((c'.length : Int) - c.length))
              rw [wrap_small _ (by omega) (by omega)]
              omega
            · show (c'.length : Int) + (n'.length : Int) + 1 = wrap64 ((c.length : Int) + (n.length : Int) + 1 + ((c'.length : Int) - c.length))
              rw [wrap_small _ (by omega) (by omega)]
              omega
    · rw [if_neg hq, if_neg (show ¬ ((⟨r :: q ++ 41 :: t, c' ++ n', false⟩ : CS).bad = false ∧ _) from fun h9 => hq ⟨rfl, h9.2⟩)]
      exact ⟨r :: q, n, n', rfl, rfl, hr⟩
/-- What stands for an alternative, and its jump to a place. -/
def barred (z : Int) (n : List I) (x : Int) : List I := [⟨2, [], false, z + 1, z + (n.length : Int) + 2⟩] ++ n.map (regex_shifted.sh 1) ++ [⟨3, [], false, x, 0⟩]
theorem bar_is (r : Int) (q : List Int) (c n : List I) : regex_coder_atom.bar c.length ⟨r :: q, c ++ n, false⟩ = ⟨q, c ++ barred c.length n 0, false⟩ := by
  have ht : (c ++ n).take c.length = c := by simp
  have hd : (c ++ n).drop c.length = n := by simp
  unfold regex_coder_atom.bar
  simp only [ht, hd]
  simp [regex_coder_atom.put, barred, regex_coder_take.step]
theorem barred_len (z : Int) (n : List I) (x : Int) : (barred z n x).length = n.length + 2 := by simp [barred]
theorem set_app (y : I) : ∀ (c m : List I) (j : Nat), (c ++ m).set (c.length + j) y = c ++ m.set j y
  | [], m, j => by simp
  | x :: c, m, j => by
    have := set_app y c m j
    have e : (x :: c).length + j = (c.length + j) + 1 := by simp only [List.length_cons]; omega
    rw [e, List.cons_append, List.set_cons_succ, this, List.cons_append]
theorem get_app : ∀ (c m : List I) (j : Nat), (c ++ m)[c.length + j]? = m[j]?
  | [], m, j => by simp
  | x :: c, m, j => by
    have := get_app c m j
    have e : (x :: c).length + j = (c.length + j) + 1 := by simp only [List.length_cons]; omega
    rw [e, List.cons_append, List.getElem?_cons_succ, this]
theorem aim_is (q : List Int) (c n m : List I) (z : Int) : regex_coder_atom.aim (c.length + 1 + n.length) ⟨q, c ++ (barred z n 0 ++ m), false⟩ = ⟨q, c ++ (barred z n ((c.length + n.length + 2 + m.length : Nat) : Int) ++ m), false⟩ := by
  have e0 : ∀ x, c ++ (barred z n x ++ m) = (c ++ ([⟨2, [], false, z + 1, z + (n.length : Int) + 2⟩] ++ n.map (regex_shifted.sh 1))) ++ (⟨3, [], false, x, 0⟩ :: m) := fun x => by simp [barred]
  have el : c.length + 1 + n.length = (c ++ ([(⟨2, [], false, z + 1, z + (n.length : Int) + 2⟩ : I)] ++ n.map (regex_shifted.sh 1))).length + 0 := by
    simp only [List.length_append, List.length_cons, List.length_nil, List.length_map]
    omega
  have hg : (c ++ (barred z n 0 ++ m))[c.length + 1 + n.length]? = some ⟨3, [], false, 0, 0⟩ := by
    rw [e0, el, get_app]
    rfl
  have hs : ∀ x, (c ++ (barred z n 0 ++ m)).set (c.length + 1 + n.length) ⟨3, [], false, x, 0⟩ = c ++ (barred z n x ++ m) := fun x => by
    rw [e0, e0, el, set_app]
    rfl
  have hlen : (c ++ (barred z n 0 ++ m)).length = c.length + n.length + 2 + m.length := by
    rw [List.length_append, List.length_append, barred_len]
    omega
  unfold regex_coder_atom.aim
  simp only [hg, hs, hlen]
theorem barred_rel {c c' n n' : List I} (hr : Rel ((c'.length : Int) - c.length) n n') (hc : c.length ≤ 1000) (hc' : c'.length ≤ 1000) (hl : n.length ≤ 1000) (k : Nat) (hk : k ≤ 1000) :
    Rel ((c'.length : Int) - c.length) (barred c.length n ((c.length + n.length + 2 + k : Nat) : Int)) (barred c'.length n' ((c'.length + n'.length + 2 + k : Nat) : Int)) := by
  have hn := hr.1
  refine ((Rel.one ?_).append hr.sh).append (Rel.one ?_)
  · refine ⟨rfl, rfl, rfl, fun _ => ⟨?_, ?_⟩, fun h9 => absurd h9 (show ¬ (2 : Int) = 3 by decide)⟩
    · show (c'.length : Int) + 1 = wrap64 ((c.length : Int) + 1 + ((c'.length : Int) - c.length))
      rw [wrap_small _ (by omega) (by omega)]
      omega
    · show (c'.length : Int) + (n'.length : Int) + 2 = wrap64 ((c.length : Int) + (n.length : Int) + 2 + ((c'.length : Int) - c.length))
      rw [wrap_small _ (by omega) (by omega)]
      omega
  · refine ⟨rfl, rfl, rfl, fun h9 => absurd h9 (show ¬ (3 : Int) = 2 by decide), fun _ => ?_⟩
    show ((c'.length + n'.length + 2 + k : Nat) : Int) = wrap64 (((c.length + n.length + 2 + k : Nat) : Int) + ((c'.length : Int) - c.length))
    rw [wrap_small _ (by omega) (by omega)]
    omega
end Sim
end Go.Proofs.YtgnehcgaplnfkaaDoor.PAll
