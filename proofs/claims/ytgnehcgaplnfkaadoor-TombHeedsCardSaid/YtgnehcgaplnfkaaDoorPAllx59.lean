-- Written by a program of this seat (wip/tools), out of the translation. Not trusted: Lean checks it.
import Derived.Test.YtgnehcgaplnfkaaDoorPAllx0
namespace Go.Proofs.YtgnehcgaplnfkaaDoor.PAll
open Go.RowKit Go.Proofs.YtgnehcgaplnfkaaDoorW.PrintWords Go.Proofs.YtgnehcgaplnfkaaDoorW.PrintLast Go.Proofs.YtgnehcgaplnfkaaDoorW.PrintMore
attribute [local go_sem] max2_int min2_int max_two min_two max_three min_three max_four min_four   -- for this text's walks alone
set_option linter.unusedVariables false
set_option linter.unusedSimpArgs false

/-! ### slices_Min_int_int: function 43 -/
/-- The least of some. -/
def slices_Min_int_int.least : List Int → Int → Int
  | [], m => m
  | x :: r, m => slices_Min_int_int.least r (if x < m then x else m)
def slices_Min_int_int.f (l0 : List Int) : Option Int := match l0 with
  | [] => none
  | x :: r => if l0.length ≤ 4611686018427387904 then some (slices_Min_int_int.least r x) else none
set_option maxHeartbeats 1000000 in
theorem slices_Min_int_int.calls (A0 : Option Addr) (c0 : Nat) (l0 : List Int) (r : Int) (w : World) (hr0 : Kd.C (Kd.int .i64) w A0 l0.length l0) (hc0 : l0.length ≤ c0) (h : slices_Min_int_int.f l0 = some r) :
    Calls Tryd.prog 43 #[.slice A0 l0.length c0] w fun e w' => e = .returned (.int .i64 r) ∧ ∃ m, w' = w.drewN m := by
  cases l0 with
  | nil => cases h
  | cons x q =>
    simp only [slices_Min_int_int.f] at h
    split at h
    · rename_i hl
      have H := Aside0.mk (Option.some.inj h)
      clear h
      have HR := Aside0.mk hr0
      obtain ⟨ad, e, hx⟩ := Kd.at_int hr0 0 (by omega) (by simp)
      subst e
      have hx0 : w.cell? ad = some (.int .i64 x) := by simpa [rd, Addr.add] using hx
      clear hx hr0
      simp only [List.length_cons] at hl hc0
      go_enter Tryd.func43, Tryd.ntmps43
      go_wp2
      go_loopg [3, 4] (q.length + 1) (fun kq v3 v4 wr => ∃ (i : Nat) (m : Int) (rest : List Int), i ≤ q.length + 1 ∧ v4 = .int .i64 i ∧ v3 = .int .i64 m ∧ Aside0 ((x :: q).drop i = rest ∧ slices_Min_int_int.least rest m = r) ∧ q.length + 1 ≤ kq + i ∧ wr = w)
      case atStart => exact ⟨1, x, q, by omega, rfl, rfl, ⟨rfl, H.out⟩, by omega, rfl⟩
      case round =>
        obtain ⟨i, m, rest, hi, rfl, rfl, HA, hk, rfl⟩ := hrel
        by_cases hlt : i < q.length + 1
        · obtain ⟨g1, rfl⟩ : ∃ g1, gk = g1 + 1 := ⟨gk - 1, by omega⟩
          obtain ⟨ad2, e2, hx2⟩ := Kd.at_int HR.out (i : Int) (by omega) (by simp; omega)
          injection e2 with e2
          subst e2
          obtain ⟨y, rest2, hy⟩ : ∃ y rest2, Aside0 (rest = y :: rest2 ∧ rd (x :: q) (i : Int) = y) := by
            have h1 := HA.out.1
            rw [List.drop_eq_getElem_cons (by simpa using hlt)] at h1
            exact ⟨_, _, ⟨h1.symm, by simp [rd, List.getD_eq_getElem?_getD, hlt]⟩⟩
          have hy0 : wr.cell? (ad.add i) = some (.int .i64 y) := by simpa [hy.out.2] using hx2
          have HA2 : Aside0 ((x :: q).drop (i + 1) = rest2 ∧ slices_Min_int_int.least rest2 (if y < m then y else m) = r) := ⟨by
            have h1 := HA.out
            rw [hy.out.1] at h1
            refine ⟨?_, h1.2⟩
            rw [← List.drop_drop, h1.1]
            rfl⟩
          clear hx2 hy HA
          have hcase : y < m ∨ m ≤ y := by omega
          rcases hcase with hym | hym
          · have HA3 : Aside0 ((x :: q).drop (i + 1) = rest2 ∧ slices_Min_int_int.least rest2 y = r) := ⟨by have h1 := HA2.out; rw [if_pos hym] at h1; exact h1⟩
            clear HA2
            go_wp2
            all_goals (try (exfalso; omega))
            go_roundg g1
            case rel => exact ⟨i + 1, y, rest2, by omega, by go_num, rfl, HA3, by omega, rfl⟩
            case measure => omega
          · have HA3 : Aside0 ((x :: q).drop (i + 1) = rest2 ∧ slices_Min_int_int.least rest2 m = r) := ⟨by have h1 := HA2.out; rw [if_neg (by omega)] at h1; exact h1⟩
            clear HA2
            go_wp2
            all_goals (try (exfalso; omega))
            go_roundg g1
            case rel => exact ⟨i + 1, m, rest2, by omega, by go_num, rfl, HA3, by omega, rfl⟩
            case measure => omega
        · have hr : Aside0 (m = r) := ⟨by
            have h1 := HA.out
            rw [List.drop_eq_nil_of_le (by simp; omega)] at h1
            rw [← h1.1] at h1
            exact h1.2⟩
          go_wp2
          go_ret
          exact ⟨by rw [hr.out]; rfl, 0, rfl⟩
    · cases h

end Go.Proofs.YtgnehcgaplnfkaaDoor.PAll
