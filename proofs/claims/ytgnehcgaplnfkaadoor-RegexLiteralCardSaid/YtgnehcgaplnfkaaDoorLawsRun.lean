/- Plain law: the code points of a text and of one behind it. No program runs in it. -/
import Derived.Test.YtgnehcgaplnfkaaDoorPAllx3
import Derived.Test.YtgnehcgaplnfkaaDoorBas2
import Derived.Lib.TrimUEq
namespace Go.Proofs.YtgnehcgaplnfkaaDoor.PAll
open Go.RowKit Go.Proofs.YtgnehcgaplnfkaaDoorW.PrintWords Go.Proofs.YtgnehcgaplnfkaaDoorW.PrintLast
set_option linter.unusedVariables false
set_option linter.unusedSimpArgs false
namespace Run
theorem decodeN_more {n n' b0 b1 b2 b3 c1 c2 c3 : Nat} (hn : n ≤ n') (h1 : 1 < n → c1 = b1) (h2 : 2 < n → c2 = b2) (h3 : 3 < n → c3 = b3) (hv : Lib.decodeN n b0 b1 b2 b3 ≠ (65533, 1)) : Lib.decodeN n' b0 c1 c2 c3 = Lib.decodeN n b0 b1 b2 b3 := by
  unfold Lib.decodeN at hv ⊢
  by_cases a0 : b0 < 128
  · rw [if_pos a0, if_pos a0]
  rw [if_neg a0] at hv
  rw [if_neg a0, if_neg a0]
  by_cases a1 : b0 / 32 = 6 ∧ (1 < n ∧ b1 / 64 = 2)
  · have e := h1 a1.2.1
    subst e
    rw [if_pos a1, if_pos ⟨a1.1, by omega, a1.2.2⟩]
  rw [if_neg a1] at hv
  by_cases a2 : b0 / 16 = 14 ∧ (1 < n ∧ b1 / 64 = 2) ∧ (2 < n ∧ b2 / 64 = 2)
  · have e := h1 a2.2.1.1
    have e2 := h2 a2.2.2.1
    subst e
    subst e2
    rw [if_neg a1, if_pos a2, if_neg (by omega), if_pos ⟨a2.1, ⟨by omega, a2.2.1.2⟩, by omega, a2.2.2.2⟩]
  rw [if_neg a2] at hv
  by_cases a3 : b0 / 8 = 30 ∧ (1 < n ∧ b1 / 64 = 2) ∧ (2 < n ∧ b2 / 64 = 2) ∧ (3 < n ∧ b3 / 64 = 2)
  · have e := h1 a3.2.1.1
    have e2 := h2 a3.2.2.1.1
    have e3 := h3 a3.2.2.2.1
    subst e
    subst e2
    subst e3
    rw [if_neg a1, if_neg a2, if_pos a3, if_neg (by omega), if_neg (by omega), if_pos ⟨a3.1, ⟨by omega, a3.2.1.2⟩, ⟨by omega, a3.2.2.1.2⟩, by omega, a3.2.2.2.2⟩]
  rw [if_neg a3] at hv
  exact absurd rfl hv
theorem decodeL_app (l m : List UInt8) (hl : l ≠ []) (hv : Lib.decodeL l ≠ (65533, 1)) : Lib.decodeL (l ++ m) = Lib.decodeL l := by
  rw [Lib.decodeL_N] at hv
  rw [Lib.decodeL_N, Lib.decodeL_N]
  have hlen : 0 < l.length := by
    cases l with
    | nil => exact absurd rfl hl
    | cons _ _ => simp
  have hg : ∀ i, i < l.length → (l ++ m).getD i 0 = l.getD i 0 := fun i hi => by
    rw [List.getD_eq_getElem?_getD, List.getD_eq_getElem?_getD, List.getElem?_append_left hi]
  rw [hg 0 hlen]
  exact decodeN_more (by rw [List.length_append]; omega) (fun h => by rw [hg 1 h]) (fun h => by rw [hg 2 h]) (fun h => by rw [hg 3 h]) hv
theorem app_list (a b : ByteArray) : (a ++ b).data.toList = a.data.toList ++ b.data.toList := by simp [ByteArray.data_append]
theorem decode_left (a b : ByteArray) (pos : Nat) (h : pos < a.size) (hv : Utf8.decode a pos ≠ (65533, 1)) : Utf8.decode (a ++ b) pos = Utf8.decode a pos := by
  have hs := Base.size_list a
  rw [← Lib.decodeL_drop] at hv
  rw [← Lib.decodeL_drop, ← Lib.decodeL_drop, app_list, List.drop_append_of_le_length (by omega)]
  refine decodeL_app _ _ (fun h9 => ?_) hv
  have := List.drop_eq_nil_iff.1 h9
  omega
theorem decode_right (a b : ByteArray) (i : Nat) : Utf8.decode (a ++ b) (a.size + i) = Utf8.decode b i := by
  have hs := Base.size_list a
  rw [← Lib.decodeL_drop, ← Lib.decodeL_drop, app_list, List.drop_append, List.drop_eq_nil_of_le (by omega), List.nil_append, show a.size + i - a.data.toList.length = i by omega]
theorem from_eq (s : ByteArray) : ∀ (f pos : Nat), s.size - pos ≤ f → Base.runesFrom s f pos = Base.runesFrom s (s.size - pos) pos := by
  intro f
  induction f with
  | zero =>
    intro pos h
    rw [show s.size - pos = 0 by omega]
  | succ f ih =>
    intro pos h
    rcases Nat.lt_or_ge (s.size - pos) (f + 1) with h1 | h1
    · rw [Base.runesFrom_enough s f f pos (by omega) (by omega), ih pos (by omega)]
    · rw [show f + 1 = s.size - pos by omega]
theorem right_run (a b : ByteArray) : ∀ (f i : Nat), Base.runesFrom (a ++ b) f (a.size + i) = Base.runesFrom b f i := by
  intro f
  induction f with
  | zero => exact fun i => rfl
  | succ f ih =>
    intro i
    by_cases h : i < b.size
    · rw [Base.runesFrom_step _ f _ (by rw [ByteArray.size_append]; omega), Base.runesFrom_step _ f _ h, decode_right, Nat.add_assoc, ih]
    · rw [Base.runesFrom_end _ _ _ (by rw [ByteArray.size_append]; omega), Base.runesFrom_end _ _ _ h]
theorem left_run (a b : ByteArray) : ∀ (f pos : Nat), a.size - pos ≤ f → pos ≤ a.size → strings_ToValidUTF8.badFrom a f pos = false → ∀ F, (a ++ b).size - pos ≤ F → Base.runesFrom (a ++ b) F pos = Base.runesFrom a f pos ++ Base.runesOf b := by
  intro f
  induction f with
  | zero =>
    intro pos hf hp hb F hF
    have e : pos = a.size + 0 := by omega
    rw [ByteArray.size_append] at hF
    rw [e, right_run, from_eq b F 0 (by omega)]
    rfl
  | succ f ih =>
    intro pos hf hp hb F hF
    rw [ByteArray.size_append] at hF
    by_cases h : pos < a.size
    · have h9 : (decide (Utf8.decode a pos = (65533, 1)) || strings_ToValidUTF8.badFrom a f (pos + (Utf8.decode a pos).2)) = false := by
        have h8 : (if pos < a.size then (decide (Utf8.decode a pos = (65533, 1)) || strings_ToValidUTF8.badFrom a f (pos + (Utf8.decode a pos).2)) else false) = false := hb
        rw [if_pos h] at h8
        exact h8
      rw [Bool.or_eq_false_iff] at h9
      have hv := of_decide_eq_false h9.1
      have hw := Base.width_pos a pos h
      have hw2 := strings_ToValidUTF8.width_le a pos h
      obtain ⟨F, rfl⟩ : ∃ F', F = F' + 1 := ⟨F - 1, by omega⟩
      rw [Base.runesFrom_step _ F _ (by rw [ByteArray.size_append]; omega), Base.runesFrom_step _ f _ h, decode_left a b pos h hv, ih _ (by omega) hw2 h9.2 F (by rw [ByteArray.size_append]; omega)]
      rfl
    · rw [Base.runesFrom_end a _ _ h]
      have e : pos = a.size + 0 := by omega
      rw [e, right_run, from_eq b F 0 (by omega)]
      rfl
theorem runes_app (a b : ByteArray) (h : strings_ToValidUTF8.badW a = false) : Base.runesOf (a ++ b) = Base.runesOf a ++ Base.runesOf b :=
  left_run a b a.size 0 (by omega) (by omega) h _ (by omega)
end Run
end Go.Proofs.YtgnehcgaplnfkaaDoor.PAll
