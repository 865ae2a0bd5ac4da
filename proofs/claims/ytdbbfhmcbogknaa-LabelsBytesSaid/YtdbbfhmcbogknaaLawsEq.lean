/- Plain laws: whether two slices of labels are alike. No program runs in it. -/
import Derived.Test.YtdbbfhmcbogknaaLaws1
import Derived.Test.YtdbbfhmcbogknaaPAllx31
namespace Go.Proofs.Ytdbbfhmcbogknaa.Laws
open Go.RowKit Go.Proofs.Ytdbbfhmcbogknaa.PAll Go.Proofs.YtdbbfhmcbogknaaW.PrintWords Go.Proofs.YtdbbfhmcbogknaaW.PrintLast
set_option linter.unusedVariables false
set_option linter.unusedSimpArgs false

/-! ### alike -/
def eqL : List S41 → List S41 → Bool
  | [], [] => true
  | x :: r, y :: q => (x.f0.data.toList == y.f0.data.toList && x.f1.data.toList == y.f1.data.toList) && eqL r q
  | _, _ => false
theorem eqL_self : ∀ l : List S41, eqL l l = true
  | [] => rfl
  | x :: r => by simp [eqL, eqL_self r]
theorem eqL_len : ∀ (a b : List S41), a.length ≠ b.length → eqL a b = false := by
  intro a
  induction a with
  | nil => intro b h; cases b with
    | nil => exact absurd rfl h
    | cons y q => rfl
  | cons x r ih => intro b h; cases b with
    | nil => rfl
    | cons y q =>
      have := ih q (by simpa using h)
      simp [eqL, this]
theorem wrap_far (i : Nat) (h : i < 9223372036854775807) : wrap64 ((i : Int) + 1) = ((i + 1 : Nat) : Int) := by
  unfold wrap64
  omega
theorem same_l0 (a b : List S41) (ha : a.length ≤ 9223372036854775807) (hab : a.length = b.length) : ∀ (r q : List S41) (i : Nat), a.drop i = r → b.drop i = q →
    Ev (fun k => api_Label.l0 k a b (a.length : Int) (i : Int)) (eqL r q) := by
  intro r
  induction r with
  | nil =>
    intro q i h1 h2
    have hi : a.length ≤ i := List.drop_eq_nil_iff.1 h1
    have hq : q = [] := by rw [← h2]; exact List.drop_eq_nil_iff.2 (by omega)
    subst hq
    refine Ev.step (f := fun _ => some true) (fun k => ?_) (Ev.now _)
    simp only [api_Label.l0]
    rw [if_neg (by omega)]
  | cons x r ih =>
    intro q i h1 h2
    obtain ⟨hx, hi, hr⟩ := rd_drop a i x r h1
    cases q with
    | nil =>
      have : b.length ≤ i := List.drop_eq_nil_iff.1 h2
      omega
    | cons y q =>
      obtain ⟨hy, hi2, hq⟩ := rd_drop b i y q h2
      have hw : wrap64 ((i : Int) + 1) = ((i + 1 : Nat) : Int) := wrap_far i (by omega)
      have ih2 := ih q (i + 1) hr hq
      cases hc : (x.f0.data.toList == y.f0.data.toList && x.f1.data.toList == y.f1.data.toList) with
      | true =>
        have he : eqL (x :: r) (y :: q) = eqL r q := by simp only [eqL, hc, Bool.true_and]
        rw [he]
        simp only [Bool.and_eq_true] at hc
        refine Ev.step (fun k => ?_) ih2
        simp only [api_Label.l0]
        rw [if_pos (by omega), if_pos (by omega), if_pos (by omega), if_pos (by omega), hx, hy, hw, if_neg (by simp [ByteArray.toList_eq, hc.1, hc.2])]
      | false =>
        have he : eqL (x :: r) (y :: q) = false := by simp only [eqL, hc, Bool.false_and]
        rw [he]
        refine Ev.step (f := fun _ => some false) (fun k => ?_) (Ev.now _)
        simp only [api_Label.l0]
        rw [if_pos (by omega), if_pos (by omega), if_pos (by omega), if_pos (by omega), hx, hy, if_pos (by simp only [ByteArray.toList_eq]; rw [← Bool.not_and, hc]; rfl)]
theorem same_ev (a b : List S41) (ha : a.length ≤ 9223372036854775807) : Ev (fun k => api_Label.f k a b) (eqL a b) := by
  by_cases h : a.length = b.length
  · refine Ev.congr (fun k => ?_) (same_l0 a b ha h a b 0 rfl rfl)
    simp only [api_Label.f]
    rw [if_pos (by omega)]
    rfl
  · rw [eqL_len a b h]
    refine Ev.congr (fun k => ?_) (Ev.now _)
    simp only [api_Label.f]
    rw [if_neg (by omega)]

end Go.Proofs.Ytdbbfhmcbogknaa.Laws
