/- Plain law: what the program's pruning leaves of deletes. No program runs in it. -/
import Derived.Test.YtgnehcgaplnfkaaDoorPAllx60
namespace Go.Proofs.YtgnehcgaplnfkaaDoor.Laws
open Go.RowKit Go.Proofs.YtgnehcgaplnfkaaDoor.PAll Go.Proofs.YtgnehcgaplnfkaaDoorW.PrintWords Go.Proofs.YtgnehcgaplnfkaaDoorW.PrintLast
set_option linter.unusedVariables false
set_option linter.unusedSimpArgs false

theorem wrap_up (i : Nat) (h : i < 9223372036854775807) : wrap64 ((i : Int) + 1) = ((i + 1 : Nat) : Int) := by
  unfold wrap64
  omega
/-- A delete that blocks of some ranks still heed. -/
def heed (b : List Int) (x : S77) : Bool := b.any fun r => decide (r ≤ x.f3)
def prune (b : List Int) (a : List S77) : List S77 := a.filter (heed b)
def fits (a : List S77) : Prop := a.length ≤ 20 ∧ ∀ x ∈ a, x.f0.length * 40 ≤ 140737488351232
theorem least_le : ∀ (q : List Int) (m t : Int), slices_Min_int_int.least q m ≤ t ↔ (m ≤ t ∨ q.any (fun r => decide (r ≤ t)) = true)
  | [], m, t => by simp [slices_Min_int_int.least]
  | x :: q, m, t => by
    simp only [slices_Min_int_int.least]
    rw [least_le q]
    simp only [List.any_cons, Bool.or_eq_true, decide_eq_true_eq]
    split <;> constructor <;> intro h <;> rcases h with h | h <;> first | (left; omega) | (right; left; omega) | (right; right; exact h) | (right; exact h) | (rcases h with h | h <;> first | (left; omega) | (right; exact h)) | omega
theorem rd_drop (l : List S77) (i : Nat) (x : S77) (r : List S77) (h : l.drop i = x :: r) : rd_T77 l (i : Int) = x ∧ i < l.length ∧ l.drop (i + 1) = r := by
  have hlt : i < l.length := by
    rcases Nat.lt_or_ge i l.length with h1 | h1
    · exact h1
    · rw [List.drop_eq_nil_of_le h1] at h
      cases h
  rw [List.drop_eq_getElem_cons hlt] at h
  obtain ⟨h1, h2⟩ := List.cons.inj h
  refine ⟨?_, hlt, h2⟩
  simp [rd_T77, List.getD_eq_getElem?_getD, hlt, h1]
theorem prune_l0 (a : List S77) (b : List Int) (ha : fits a) (hb : b.length ≤ 20) : ∀ (r : List S77) (i : Nat) (acc : List S77), a.drop i = r → acc.length ≤ i →
    Ev (fun k => tomb_Prune.l0 k b acc a (a.length : Int) (i : Int)) (acc ++ prune b r) := by
  intro r
  induction r with
  | nil =>
    intro i acc h hac
    have hi : a.length ≤ i := List.drop_eq_nil_iff.1 h
    refine Ev.step (f := fun _ => some acc) (fun k => ?_) (by simpa [prune] using Ev.now acc)
    simp only [tomb_Prune.l0]
    rw [if_neg (by omega)]
  | cons x r ih =>
    intro i acc h hac
    obtain ⟨hx, hi, hr⟩ := rd_drop a i x r h
    have hl := ha.1
    have hw := wrap_up i (by omega)
    have hxm : x ∈ a := List.mem_of_mem_drop (by rw [h]; simp)
    have hx40 := ha.2 x hxm
    have hclone : ∃ z, api_Matcher_22.f x.f0 = some z ∧ (⟨z, x.f1, x.f2, x.f3⟩ : S77) = x := ⟨x.f0, by unfold api_Matcher_22.f; rw [if_pos (by omega)], rfl⟩
    obtain ⟨z, hz1, hz2⟩ := hclone
    cases b with
    | nil =>
      have e : acc ++ prune [] (x :: r) = acc ++ prune [] r := by simp [prune, heed]
      rw [e]
      refine Ev.step (fun k => ?_) (ih (i + 1) acc hr (by omega))
      simp only [tomb_Prune.l0]
      rw [if_pos (by omega), if_pos (by omega), if_pos (by omega), if_neg (by simp), hw]
    | cons y q =>
      have hmin : slices_Min_int_int.f (y :: q) = some (slices_Min_int_int.least q y) := by
        simp only [slices_Min_int_int.f]
        rw [if_pos (by simp at hb ⊢; omega)]
      by_cases hle : slices_Min_int_int.least q y ≤ x.f3
      · have hh : heed (y :: q) x = true := by
          have := (least_le q y x.f3).1 hle
          simpa [heed] using this
        have e : acc ++ prune (y :: q) (x :: r) = (acc ++ [x]) ++ prune (y :: q) r := by simp [prune, hh]
        rw [e]
        refine Ev.step (fun k => ?_) (ih (i + 1) (acc ++ [x]) hr (by simp; omega))
        simp only [tomb_Prune.l0]
        rw [if_pos (by omega), if_pos (by omega), if_pos (by omega), if_pos (by simp), hmin]
        simp only [Option.bind_some]
        rw [hx, if_pos hle, hz1]
        simp only [Option.bind_some]
        rw [if_pos (by omega), hw, hz2]
      · have hh : heed (y :: q) x = false := by
          have := mt (least_le q y x.f3).2 hle
          simpa [heed] using this
        have e : acc ++ prune (y :: q) (x :: r) = acc ++ prune (y :: q) r := by simp [prune, hh]
        rw [e]
        refine Ev.step (fun k => ?_) (ih (i + 1) acc hr (by omega))
        simp only [tomb_Prune.l0]
        rw [if_pos (by omega), if_pos (by omega), if_pos (by omega), if_pos (by simp), hmin]
        simp only [Option.bind_some]
        rw [hx, if_neg hle, hw]
theorem prune_ev (a : List S77) (b : List Int) (ha : fits a) (hb : b.length ≤ 20) : Ev (fun k => tomb_Prune.f k a b) (prune b a) := prune_l0 a b ha hb a 0 [] rfl (by simp)
theorem rd_drop_int (l : List Int) (i : Nat) (x : Int) (r : List Int) (h : l.drop i = x :: r) : rd l (i : Int) = x ∧ i < l.length ∧ l.drop (i + 1) = r := by
  have hi : i < l.length := by
    rcases Nat.lt_or_ge i l.length with h1 | h1
    · exact h1
    · rw [List.drop_eq_nil_of_le h1] at h
      cases h
  rw [List.drop_eq_getElem_cons hi] at h
  obtain ⟨h1, h2⟩ := List.cons.inj h
  refine ⟨?_, hi, h2⟩
  simp [rd, List.getD_eq_getElem?_getD, hi, h1]
end Go.Proofs.YtgnehcgaplnfkaaDoor.Laws
