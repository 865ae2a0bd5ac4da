/- Plain law: LabelsCan. No program runs in it. -/
import Derived.Test.YtdbbfhmcbogknaaLawsNam
import Derived.Test.YtdbbfhmcbogknaaPAllx41
import Derived.Test.YtdbbfhmcbogknaaPAllx40
namespace Go.Proofs.Ytdbbfhmcbogknaa.Laws
open Go.RowKit Go.Proofs.Ytdbbfhmcbogknaa.PAll Go.Proofs.YtdbbfhmcbogknaaW.PrintWords Go.Proofs.YtdbbfhmcbogknaaW.PrintLast
set_option linter.unusedVariables false
set_option linter.unusedSimpArgs false
theorem rget_l0 (l : List S41) (a : ByteArray) (hl : l.length ≤ 9223372036854775807) : ∀ (r : List S41) (i : Nat), l.drop i = r → Ev (fun k => dryrotref07_Get.l0 k a l (l.length : Int) (i : Int)) (labels_Get.get a r) := by
  intro r
  induction r with
  | nil =>
    intro i h
    have hi : l.length ≤ i := List.drop_eq_nil_iff.1 h
    refine Ev.step (f := fun _ => some (⟨#[]⟩ : ByteArray)) (fun k => ?_) (by simpa [labels_Get.get] using Ev.now (⟨#[]⟩ : ByteArray))
    simp only [dryrotref07_Get.l0]
    rw [if_neg (by omega)]
  | cons x r ih =>
    intro i h
    obtain ⟨hx, hi, hr⟩ := rd_drop l i x r h
    have hw := wrap_up i (by omega)
    by_cases he : x.f0.toList = a.toList
    · have e : labels_Get.get a (x :: r) = x.f1 := by rw [labels_Get.get, if_pos he]
      rw [e]
      refine Ev.step (f := fun _ => some x.f1) (fun k => ?_) (Ev.now _)
      simp only [dryrotref07_Get.l0]
      rw [if_pos (by omega), if_pos (by omega), if_pos (by omega), hx, if_pos he]
    · have e : labels_Get.get a (x :: r) = labels_Get.get a r := by rw [labels_Get.get, if_neg he]
      rw [e]
      refine Ev.step (fun k => ?_) (ih (i + 1) hr)
      simp only [dryrotref07_Get.l0]
      rw [if_pos (by omega), if_pos (by omega), if_pos (by omega), hx, if_neg he, hw]
theorem can_row (a b : List S41) (s : ByteArray) (ha : a.length ≤ maxLen ∧ ∀ y ∈ a, y.f0.size ≤ maxLen ∧ y.f1.size ≤ maxLen) (hb : b.length ≤ maxLen ∧ ∀ y ∈ b, y.f0.size ≤ maxLen ∧ y.f1.size ≤ maxLen) (hs : s.size ≤ 140737488351232) :
    Ev (fun k => dryrotlaw07_LabelsCan.f k a b s) true := by
  obtain ⟨K1, h1⟩ := can_ev a
  obtain ⟨K2, h2⟩ := rcan_ev a ha.2
  obtain ⟨K3, h3⟩ := rget_l0 a s (Nat.le_trans ha.1 (by decide)) a 0 rfl
  obtain ⟨K4, h4⟩ := rname_ev s (by omega)
  obtain ⟨K5, h5⟩ := awake_ev
  refine ⟨max K1 (max K2 (max K3 (max K4 K5))), fun k hk => ?_⟩
  have e1 : labels_Can.f k a = _ := h1 k (by omega)
  have e2 : dryrotref07_Can.f k a = _ := h2 k (by omega)
  have e3 : dryrotref07_Get.f k a s = _ := h3 k (by omega)
  have e4 : dryrotref07_Name.f k s = _ := h4 k (by omega)
  have e5 : dryrotlaw07_awake.f k = _ := h5 k (by omega)
  simp only [dryrotlaw07_LabelsCan.f, e1, e2, e3, e4, e5, labels_Compare.f, dryrotref07_Compare.f, labels_Get.f, labels_Name.f, labels_Value.f, rvalue_is, Option.bind_some]
  simp
end Go.Proofs.Ytdbbfhmcbogknaa.Laws
