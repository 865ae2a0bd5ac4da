/- The row of the law LabelsBytes: for every input the law returns true, and what came in reads as it read before. -/
import Derived.Test.YtdbbfhmcbogknaaRows
import Derived.Test.YtdbbfhmcbogknaaOpen
import Derived.Test.YtdbbfhmcbogknaaLawsByt
import Derived.Test.YtdbbfhmcbogknaaPAllx32
import Derived.Test.YtdbbfhmcbogknaaWSized
import Derived.WalkKit
import Derived.ProofKit
import Derived.OpenShut
import Derived.ShutString
import Derived.ChangeOld
import Derived.Below
import Derived.SizedLaws
import Derived.Carry
import Derived.JoinedCond
namespace Go.Proofs.Ytdbbfhmcbogknaa.labelsBytes
open Go.ChangeShapes Go.WideShapes Go.ChangeAt Go.RowKit Go.Proofs.Ytdbbfhmcbogknaa.PAll Go.Proofs.YtdbbfhmcbogknaaW.PrintWords Go.Proofs.YtdbbfhmcbogknaaW.PrintLast
open Go.ChangeMaps (open_string shut_string)
set_option linter.unusedVariables false
theorem own : ownKnob Try.prog.godebug = none := by kernel_rfl
theorem laidOut : laidOutB Try.prog = true := by kernel_rfl
theorem walk (A0 : Option Addr) (c0 : Nat) (a0 : List S41) (A1 : Option Addr) (c1 : Nat) (a1 : List Int) (w : World) (hr0 : Kd.C k41 w A0 a0.length a0) (hc0 : a0.length ≤ c0) (hr1 : Kd.C (Kd.int .u8) w A1 a1.length a1) (hc1 : a1.length ≤ c1) (b0 : a0.length ≤ maxLen ∧ ∀ y ∈ a0, y.f0.size ≤ maxLen ∧ y.f1.size ≤ maxLen) (b1 : a1.length ≤ 140737488351232 ∧ ∀ y ∈ a1, 0 ≤ y ∧ y < 256) :
    Calls Try.prog 5 #[.slice A0 a0.length c0, .slice A1 a1.length c1] w fun e w' => e = .returned (.bool true) ∧ Below w.heap.size w w' := by
  obtain ⟨k, h⟩ := (Laws.bytes_row a0 a1 b0 b1).rounds
  exact dryrotlaw07_LabelsBytes.calls k A0 c0 a0 A1 c1 a1 true w hr0 hc0 hr1 hc1 h
set_option maxRecDepth 100000 in
theorem lifted (os : Os) (started : os.Started) (H : Type) (enc : TypeId × Value → H) :
    ReturnsInHanded {} Try.checked os 5 .any (Rows.labelsBytesSpec.pre6 enc Try.prog Try.f5 Rows.labelsBytesRow.domain false) (Rows.labelsBytesSpec.post enc Try.prog Try.f5 false true false false) := by
  refine returnsInHanded_of_change_sized (C := Try.checked) own started (by kernel_rfl) Try.func5
    (ChangeSpec.witness6 (enc := enc) (C := Try.checked) false ⟨#[], #[.slice none 0 0, .slice none 0 0], []⟩ 8 (by kernel_rfl) (by kernel_rfl) (by kernel_rfl) (by kernel_rfl)) ?_
  intro W base args ds gs before hval0 hW hcnd hsz0 _
  have hsz : (DataW.weightsEach Try.prog (Try.f5.params.toList ++ Rows.labelsBytesSpec.plain.varTypes Try.prog) (ds ++ gs)).all (· ≤ reachBytes) = true := hsz0
  have hval : ∀ (j : Nat) t v, Try.f5.params[j]? = some t → args[j]? = some v → Value.okWide Try.prog W .any base t v := hval0
  have hW' := hW
  obtain ⟨p, q, hA0, hV, rfl, hfz, hnd⟩ := hW
  have hA : DataW.TrodAll enc Try.prog W 0 (fun _ => true) true Try.f5.params.toList args.toList ds p := hA0
  rw [Try.params5] at hA hval hsz
  obtain ⟨v0, vs0, d0, ds0, p0, q0, hargs, rfl, rfl, h0, r0⟩ := trodAll_cons hA
  obtain ⟨v1, vs1, d1, ds1, p1, q1, rfl, rfl, rfl, h1, r1⟩ := trodAll_cons r0
  obtain ⟨rfl, rfl, rfl⟩ := trodAll_nil r1
  obtain rfl : args = #[v0, v1] := by cases args; simp_all
  obtain ⟨rfl, rfl⟩ := trodVars_none hV
  have k0 := h0
  have lt0 : ∀ x ∈ p0, x.block < W.heap.size := by obtain ⟨m, hm⟩ := k0; exact DataW.trod_lt m _ _ _ hm
  obtain ⟨A0, c0, a0, rfl, hc0, hm0, hr0, hq0⟩ := Opens.open_slice_arg Opens.opens_label Try.underlying28 (by kernel_rfl) (hval 0 28 v0 rfl rfl) h0
  have k1 := h1
  have lt1 : ∀ x ∈ p1, x.block < W.heap.size := by obtain ⟨m, hm⟩ := k1; exact DataW.trod_lt m _ _ _ hm
  obtain ⟨A1, c1, a1, rfl, hc1, hm1, hr1, hq1⟩ := Opens.open_slice_arg Opens.opens_u8 Try.underlying29 (by kernel_rfl) (hval 1 29 v1 rfl rfl) h1
  have y1 : a1.length ≤ 140737488351232 := by have z := sized_ints (B := 1) hsz (j := 1) (t := 29) rfl rfl Try.underlying29 Try.underlying5 (by kernel_rfl) (by kernel_rfl) h1; omega
  clear hA0 hval0 hsz0 hsz
  refine (walk A0 c0 a0 A1 c1 a1 W hr0 hc0 hr1 hc1 ⟨Nat.le_trans hc0 hm0, hq0⟩ ⟨y1, hq1⟩).mono fun e W' ⟨he, bel⟩ => ?_
  subst he
  exact ⟨_, rfl, _, _, _, [], _, [], hW', trodAll_mk1 (shut_bool Try.underlying4 _), (trodAll_cons_mk (Below.trod laidOut (by kernel_rfl) (of_decide_eq_true (by kernel_rfl)) k0 bel lt0) (trodAll_cons_mk (Below.trod laidOut (by kernel_rfl) (of_decide_eq_true (by kernel_rfl)) k1 bel lt1) trodAll_mk0)), rfl, bel.frame _, fun h => by cases h⟩
theorem proved : Rows.LabelsBytesSaid :=
  OpenClaim.holds_of_wide 5 Try.f5 rfl rfl rfl rfl rfl rfl rfl ⟨rfl, rfl, rfl, rfl, rfl⟩ rfl rfl rfl rfl rfl (by kernel_rfl) Try.func5 (by kernel_rfl)
    (of_decide_eq_true (by kernel_rfl)) (by unfold Func.isWrapper; first | (rw [if_pos (by decide +kernel)]; kernel_rfl) | (rw [if_neg (by decide +kernel)]; exact ⟨rfl, rfl⟩))
    (fun os started H enc _ => lifted os started H enc)
end Go.Proofs.Ytdbbfhmcbogknaa.labelsBytes
namespace Go.Proofs.Ytdbbfhmcbogknaa
theorem labelsBytes_holds : Rows.LabelsBytesSaid := labelsBytes.proved
end Go.Proofs.Ytdbbfhmcbogknaa
