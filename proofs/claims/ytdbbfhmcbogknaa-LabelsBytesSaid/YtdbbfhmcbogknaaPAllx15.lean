-- Written by a program of this seat (wip/tools), out of the translation. Not trusted: Lean checks it.
import Derived.Test.YtdbbfhmcbogknaaPAllx0
namespace Go.Proofs.Ytdbbfhmcbogknaa.PAll
open Go.RowKit Go.Proofs.YtdbbfhmcbogknaaW.PrintWords Go.Proofs.YtdbbfhmcbogknaaW.PrintLast Go.Proofs.YtdbbfhmcbogknaaW.PrintMore
attribute [local go_sem] max2_int min2_int max_two min_two max_three min_three max_four min_four   -- for this text's walks alone
set_option linter.unusedVariables false
set_option linter.unusedSimpArgs false

/-! ### strings_Join: function 53 -/
def strings_Join.f (l0 : List ByteArray) (a1 : ByteArray) : Option ByteArray :=
  if (Lib.join (l0.map (·.data.toList)) a1.data.toList).length ≤ 140737488355328 then (if l0.length ≤ 140737488355328 then some ⟨(Lib.join (l0.map (·.data.toList)) a1.data.toList).toArray⟩ else none) else none
theorem strings_Join.calls (A0 : Option Addr) (c0 : Nat) (l0 : List ByteArray) (a1 : ByteArray) (r : ByteArray) (w : World) (hr0 : Kd.C Kd.string w A0 l0.length l0) (hc0 : l0.length ≤ c0) (h : strings_Join.f l0 a1 = some r) :
    Calls Try.prog 53 #[.slice A0 l0.length c0, .string a1] w fun e w' => e = .returned (.string r) ∧ Below w.heap.size w w' := by
  unfold strings_Join.f at h
  by_cases h1 : (Lib.join (l0.map (·.data.toList)) a1.data.toList).length ≤ 140737488355328
  · rw [if_pos h1] at h
    by_cases h2 : l0.length ≤ 140737488355328
    · rw [if_pos h2] at h
      obtain rfl := Option.some.inj h
      clear h
      cases hl : l0 with
      | nil =>
        refine (Any.strings_Join_none Try.lays156 Try.Builder_Extra_156 A0 c0 a1 w).mono ?_
        rintro e w' ⟨rfl, rfl⟩
        exact ⟨rfl, Below.refl _ _⟩
      | cons x q =>
        rw [← hl]
        have hp : 0 < l0.length := by rw [hl]; simp
        have hcell : ∀ j : Nat, j < l0.length → ∃ ad, A0 = some ad ∧ w.cell? (ad.add j) = some (.string (l0.getD j ByteArray.empty)) := by
          intro j hj
          obtain ⟨ad, e, hc⟩ := Kd.at_string hr0 (j : Int) (by omega) (by omega)
          exact ⟨ad, e, by simpa [rdOf] using hc⟩
        obtain ⟨ad, e, hc⟩ := hcell 0 hp
        have hs : ad.spot = none := by
          have h3 : w.cell? ad = some (.string (l0.getD 0 ByteArray.empty)) := by simpa [Addr.add] using hc
          unfold World.cell? at h3
          split at h3
          · split at h3
            · cases h3
            · rename_i hn
              cases hsp : ad.spot with
              | none => rfl
              | some k => rw [hsp] at hn; simp at hn
          · cases h3
        obtain ⟨bk, o, sp⟩ := ad
        simp only at hs
        subst hs
        subst e
        refine (Try.strings_Join bk o c0 l0 a1 w ?_ ?_ h2 hc0 h1).mono ?_
        · intro j y hj
          obtain ⟨hjl, hy⟩ := List.getElem?_eq_some_iff.1 hj
          obtain ⟨ad, e, hc⟩ := hcell j hjl
          cases e
          have ha : (⟨bk, o, none⟩ : Addr).add j = ⟨bk, o + j, none⟩ := by unfold Addr.add; split <;> simp_all
          rw [ha] at hc
          rw [hc]
          simp [List.getD_eq_getElem?_getD, hjl, hy]
        · have := World.block_lt_of_cell? w _ hc
          simpa [Addr.add] using this
        · rintro e w' ⟨rfl, hb⟩
          exact ⟨rfl, hb⟩
    · rw [if_neg h2] at h
      exact absurd h (by simp)
  · rw [if_neg h1] at h
    exact absurd h (by simp)

end Go.Proofs.Ytdbbfhmcbogknaa.PAll
