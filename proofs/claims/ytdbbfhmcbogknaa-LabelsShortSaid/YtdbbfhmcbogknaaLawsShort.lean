/- Plain law: LabelsShort. No program runs in it. -/
import Derived.Test.YtdbbfhmcbogknaaLawsEnc
import Derived.Test.YtdbbfhmcbogknaaPAllx25
namespace Go.Proofs.Ytdbbfhmcbogknaa.Laws
open Go.RowKit Go.Proofs.Ytdbbfhmcbogknaa.PAll Go.Proofs.YtdbbfhmcbogknaaW.PrintWords Go.Proofs.YtdbbfhmcbogknaaW.PrintLast
set_option linter.unusedVariables false
set_option linter.unusedSimpArgs false

theorem short_row (l : List S41) (n : Int) (hl : l.length ≤ maxLen ∧ ∀ y ∈ l, y.f0.size ≤ maxLen ∧ y.f1.size ≤ maxLen) (hn : (Lit.int .i64 n).wf = true) :
    Ev (fun k => dryrotlaw07_LabelsShort.f k l n) true := by
  refine Ev.bind (encode_ev l) ?_
  cases hc : canB l with
  | false =>
    have h1 := rcan_ev l hl.2
    rw [hc] at h1
    refine Ev.congr (f := fun k => dryrotlaw07_LabelsShort.j0 k l n [] true) (fun k => by simp) ?_
    refine Ev.step (f := fun k => ((dryrotref07_Can.f k l).bind fun t145 => (if t145 = true then (some false) else ((dryrotlaw07_awake.f k).bind fun t146 => (some t146))))) (fun k => ?_) ?_
    · simp only [dryrotlaw07_LabelsShort.j0]
      first | rw [if_pos rfl] | rw [if_pos trivial]
    · refine Ev.bind h1 ?_
      refine Ev.congr (f := fun k => (dryrotlaw07_awake.f k).bind fun t146 => (some t146)) (fun k => by simp) ?_
      exact Ev.bind awake_ev (Ev.now _)
  | true =>
    obtain ⟨he, he1⟩ := enc_le hc
    have e0 : ((labels_Encode.enc l).length : Int) ≠ 0 := by omega
    refine Ev.congr (f := fun k => dryrotlaw07_LabelsShort.j0 k l n (labels_Encode.enc l) false) (fun k => by simp only [if_true]; rw [show (((labels_Encode.enc l).length : Int) == 0) = false from beq_false_of_ne e0]) ?_
    have hL : IntKind.u64.wrap (((labels_Encode.enc l).length : Int)) = ((labels_Encode.enc l).length : Int) := by
      show ((labels_Encode.enc l).length : Int) % 18446744073709551616 = _
      omega
    have hx : ∃ x : Nat, IntKind.u64.wrap n = (x : Int) := by
      have h0 : 0 ≤ IntKind.u64.wrap n := by
        show 0 ≤ n % 18446744073709551616
        omega
      exact ⟨(IntKind.u64.wrap n).toNat, by omega⟩
    obtain ⟨x, hx⟩ := hx
    have hm : wrap64 (Int.tmod (IntKind.u64.wrap n) (IntKind.u64.wrap (((labels_Encode.enc l).length : Int)))) = ((x % (labels_Encode.enc l).length : Nat) : Int) := by
      rw [hL, hx, Int.tmod_eq_emod_of_nonneg (by omega)]
      have h2 : x % (labels_Encode.enc l).length < (labels_Encode.enc l).length := Nat.mod_lt _ (by omega)
      rw [← Int.natCast_emod]
      unfold wrap64
      omega
    have h2 : x % (labels_Encode.enc l).length < (labels_Encode.enc l).length := Nat.mod_lt _ (by omega)
    refine Ev.step (f := fun k => (labels_Decode.f k ((labels_Encode.enc l).take (x % (labels_Encode.enc l).length))).bind fun bt151 => (if bt151.2.2 = 3 then (some ((wrap64 ((bt151.1.length : Int) + (bt151.2.1.length : Int))) == 0)) else (some false))) (fun k => ?_) ?_
    · simp only [dryrotlaw07_LabelsShort.j0]
      rw [if_neg (by simp), hm, hL, if_neg (by omega), if_pos (by omega), if_pos (by omega)]
      rfl
    · exact Ev.bind (decode_short l hc _ h2) (Ev.congr (fun k => by simp [wrap64]) (Ev.now true))
end Go.Proofs.Ytdbbfhmcbogknaa.Laws
