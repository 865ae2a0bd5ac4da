/- Plain law: RegexLiteral. No program runs in it. -/
import Derived.Test.YtgnehcgaplnfkaaDoorLawsLit
import Derived.Test.YtgnehcgaplnfkaaDoorLawsAwk
import Derived.Test.YtgnehcgaplnfkaaDoorPAllx32
namespace Go.Proofs.YtgnehcgaplnfkaaDoor.PAll
open Go.RowKit Go.Proofs.YtgnehcgaplnfkaaDoorW.PrintWords Go.Proofs.YtgnehcgaplnfkaaDoorW.PrintLast
set_option linter.unusedVariables false
set_option linter.unusedSimpArgs false
namespace Lit
theorem mn_ok (n : Nat) (m : Int) (hm : 0 ≤ m) : 0 ≤ mn (n : Int) m ∧ mn (n : Int) m ≤ (n : Int) ∧ mn (n : Int) m ≤ m := by
  unfold mn
  split <;> omega
theorem short_some (t : ByteArray) : ∃ u, dryrotlaw08_short.f t = some u := by
  have h := mn_ok t.size 60 (by decide)
  unfold dryrotlaw08_short.f
  rw [if_pos h.1, if_pos h.2.1]
  exact ⟨_, rfl⟩
theorem same_iff (a b : ByteArray) : (a.toList == b.toList) = true ↔ a = b := by
  rw [beq_iff_eq]
  constructor
  · intro h
    rw [ByteArray.toList_eq, ByteArray.toList_eq] at h
    exact Base.ext_data h
  · rintro rfl
    rfl
theorem literal_true (a0 a1 : ByteArray) : dryrotlaw08_RegexLiteral.f a0 a1 = some true := by
  have h15 := mn_ok a0.size 15 (by decide)
  obtain ⟨u, hu⟩ := short_some a1
  obtain ⟨s, hs⟩ : ∃ s, a0.extract 0 (mn (a0.size : Int) 15).toNat = s := ⟨_, rfl⟩
  have hsz : s.size ≤ 15 := by
    rw [← hs, ByteArray.size_extract]
    have := h15.2.2
    omega
  unfold dryrotlaw08_RegexLiteral.f
  rw [if_pos h15.1, if_pos h15.2.1, hu, hs]
  simp only [Option.bind_some]
  have hq : dryrotlaw08_quoted.f s = some (q0 (Base.runesOf s)) := by
    unfold dryrotlaw08_quoted.f
    rw [if_pos (by omega)]
    rfl
  rw [hq]
  simp only [Option.bind_some]
  by_cases hn : (65533 : Int) ∈ Base.runesOf s
  · have hp := parse_no s hn
    have he := early_yes s hn
    have hl : (q0 (Base.runesOf s)).size ≤ 35184372088830 := by
      have h1 := q0_size (Base.runesOf s)
      have h2 := regex_parse.runes_len s
      have h3 := runesBytes_size_le (Base.runesOf s)
      omega
    have hc : regex_Check.f (q0 (Base.runesOf s)) = some 5 := by
      unfold regex_Check.f
      rw [hp]
      rfl
    have hr : dryrotref08_Check.f (q0 (Base.runesOf s)) = some 5 := by
      unfold dryrotref08_Check.f
      rw [if_pos hl, if_pos he]
    rw [hc]
    simp only [Option.bind_some]
    rw [if_neg (by decide), hr]
    simp only [Option.bind_some]
    rw [if_pos trivial, Awk.awake8]
    rfl
  · have hp := parse_yes s hsz hn
    have hc : regex_Check.f (q0 (Base.runesOf s)) = some 0 := by
      unfold regex_Check.f
      rw [hp]
      rfl
    have hl : regex_Literal.f (q0 (Base.runesOf s)) = some (s, true) := by
      unfold regex_Literal.f
      rw [lit_is s hsz hn]
    have hm : ∀ t : ByteArray, regex_Match.f (q0 (Base.runesOf s)) t = some (regex_Match.dec (t = s), 0) := by
      intro t
      unfold regex_Match.f regex_Match.ans
      rw [hp]
      simp only
      congr 2
      exact Bool.eq_iff_iff.2 ((regex_Match.dec_iff _).trans (((acc_lit (Base.runesOf s) (Base.runesOf t)).trans (same_text s t hn)).trans (regex_Match.dec_iff _).symm))
    have h1 : regex_Match.f (q0 (Base.runesOf s)) s = some (true, 0) := by
      rw [hm s, (regex_Match.dec_iff (s = s)).2 rfl]
    have h2 : regex_Match.f (q0 (Base.runesOf s)) u = some (u.toList == s.toList, 0) := by
      rw [hm u]
      congr 2
      exact Bool.eq_iff_iff.2 ((regex_Match.dec_iff _).trans (same_iff u s).symm)
    rw [hc]
    simp only [Option.bind_some]
    rw [if_pos trivial, hl, h1, h2]
    simp
theorem literal_walk (a0 a1 : ByteArray) (w : World) (hG : strings_ToValidUTF8.Gd w) : Calls Tryd.prog 5 #[.string a0, .string a1] w fun e w' => e = .returned (.bool true) ∧ Below w.heap.size w w' :=
  dryrotlaw08_RegexLiteral.calls a0 a1 true w hG (literal_true a0 a1)
end Lit
end Go.Proofs.YtgnehcgaplnfkaaDoor.PAll
