/- Plain law: MatchNot. No program runs in it. -/
import Derived.Test.YtgnehcgaplnfkaaDoorPAllx58
import Derived.Test.YtgnehcgaplnfkaaDoorBase
namespace Go.Proofs.YtgnehcgaplnfkaaDoor.PAll
open Go.RowKit Go.Proofs.YtgnehcgaplnfkaaDoorW.PrintWords Go.Proofs.YtgnehcgaplnfkaaDoorW.PrintLast
set_option linter.unusedVariables false
set_option linter.unusedSimpArgs false
namespace Mno
theorem dec_not (P Q : Prop) (h : P ↔ ¬ Q) : (regex_Match.dec P != regex_Match.dec Q) = true := by
  have hP := regex_Match.dec_iff P
  have hQ := regex_Match.dec_iff Q
  cases hp : regex_Match.dec P <;> cases hq : regex_Match.dec Q
  · rw [hp] at hP
    rw [hq] at hQ
    have h1 : ¬ P := fun h9 => by have := hP.2 h9; cases this
    have h2 : ¬ Q := fun h9 => by have := hQ.2 h9; cases this
    exact absurd (h.2 h2) h1
  · rfl
  · rfl
  · have h1 := hP.1 hp
    have h2 := hQ.1 hq
    exact absurd h2 (h.1 h1)
theorem flip12 (v x : ByteArray) : match_One.OneP 1 v x ↔ ¬ match_One.OneP 2 v x := by
  have e1 : match_One.OneP 1 v x ↔ x = v := ⟨fun h => by
    rcases h with ⟨_, h⟩ | ⟨h, _⟩ | ⟨h, _⟩ | ⟨h, _⟩
    · exact h
    · exact absurd h (by decide)
    · exact absurd h (by decide)
    · exact absurd h (by decide), fun h => Or.inl ⟨rfl, h⟩⟩
  have e2 : match_One.OneP 2 v x ↔ x ≠ v := ⟨fun h => by
    rcases h with ⟨h, _⟩ | ⟨_, h⟩ | ⟨h, _⟩ | ⟨h, _⟩
    · exact absurd h (by decide)
    · exact h
    · exact absurd h (by decide)
    · exact absurd h (by decide), fun h => Or.inr (Or.inl ⟨rfl, h⟩)⟩
  rw [e1, e2]
  exact Classical.not_not.symm
theorem flip34 (v x : ByteArray) : match_One.OneP 3 v x ↔ ¬ match_One.OneP 4 v x := by
  have e1 : match_One.OneP 3 v x ↔ match_One.Fits v x := ⟨fun h => by
    rcases h with ⟨h, _⟩ | ⟨h, _⟩ | ⟨_, h⟩ | ⟨h, _⟩
    · exact absurd h (by decide)
    · exact absurd h (by decide)
    · exact h
    · exact absurd h (by decide), fun h => Or.inr (Or.inr (Or.inl ⟨rfl, h⟩))⟩
  have e2 : match_One.OneP 4 v x ↔ ¬ match_One.Fits v x := ⟨fun h => by
    rcases h with ⟨h, _⟩ | ⟨h, _⟩ | ⟨h, _⟩ | ⟨_, h⟩
    · exact absurd h (by decide)
    · exact absurd h (by decide)
    · exact absurd h (by decide)
    · exact h, fun h => Or.inr (Or.inr (Or.inr ⟨rfl, h⟩))⟩
  rw [e1, e2]
  exact Classical.not_not.symm
theorem can_one (k : Int) (n v : ByteArray) : match_Can.CanB [⟨k, n, v⟩] = match_can.canB k n v := by
  simp [match_Can.CanB, match_Can.okB]
theorem not_row (a0 a1 : ByteArray) (l2 : List S42) (a3 : Bool) (_ : a0.size ≤ 140737488351232) (_ : a1.size ≤ 140737488351232) (_ : l2.length * 32 ≤ 140737488351232 ∧ ∀ y ∈ l2, (y.f0.size ≤ 140737488351232 ∧ y.f1.size ≤ 140737488351232)) (_ : True) : Ev (fun k => dryrotlaw09_MatchNot.f k a0 a1 l2 a3) true := by
  cases a3
  · refine Ev.step (f := fun _ => some true) (fun k => ?_) (Ev.now true)
    have w2 : wrap64 ((1 : Int) + 1) = 2 := by unfold wrap64; omega
    have e : match_can.canB 1 a0 a1 = match_can.canB 2 a0 a1 := by rw [match_can.of_pair (Or.inl rfl), match_can.of_pair (Or.inr rfl)]
    simp only [dryrotlaw09_MatchNot.f, dryrotlaw09_MatchNot.j0, w2, match_One.f, match_Can.f, dryrotlaw09_awake.f, Option.bind_some, if_true, Bool.false_eq_true, if_false]
    rw [if_pos (show (match_One.ans 1 a0 a1 l2 != match_One.ans 2 a0 a1 l2) = true from dec_not _ _ (flip12 _ _)), can_one, can_one, e]
    simp
  · refine Ev.step (f := fun _ => some true) (fun k => ?_) (Ev.now true)
    have w2 : wrap64 ((3 : Int) + 1) = 4 := by unfold wrap64; omega
    have e : match_can.canB 3 a0 a1 = match_can.canB 4 a0 a1 := by rw [match_can.of_like (Or.inl rfl), match_can.of_like (Or.inr rfl)]
    simp only [dryrotlaw09_MatchNot.f, dryrotlaw09_MatchNot.j0, w2, match_One.f, match_Can.f, dryrotlaw09_awake.f, Option.bind_some, if_true, Bool.false_eq_true, if_false]
    rw [if_pos (show (match_One.ans 3 a0 a1 l2 != match_One.ans 4 a0 a1 l2) = true from dec_not _ _ (flip34 _ _)), can_one, can_one, e]
    simp
end Mno
end Go.Proofs.YtgnehcgaplnfkaaDoor.PAll
