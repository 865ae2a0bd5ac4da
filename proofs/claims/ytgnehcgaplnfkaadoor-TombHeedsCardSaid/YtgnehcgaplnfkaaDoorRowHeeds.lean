/- The row of the law TombHeeds, and its tied card: for every input the law returns true, and what came in reads as it read before. The package-level variables that the row lists (two tables of unicode/utf8) are tied to the program's text by the given tie. -/
import Derived.Test.YtgnehcgaplnfkaaDoorCards
import Derived.Test.YtgnehcgaplnfkaaDoorTie
import Derived.Test.YtgnehcgaplnfkaaDoorOpenM
import Derived.Test.YtgnehcgaplnfkaaDoorLawsHds
import Derived.Test.YtgnehcgaplnfkaaDoorOpenG
import Derived.WalkKit
import Derived.ProofKit
import Derived.OpenShut
import Derived.ShutString
import Derived.ChangeOld
import Derived.Below
import Derived.SizedLaws
import Derived.Carry
import Derived.JoinedCond
import Derived.LaidMore
import Derived.Lay
import Derived.SevenTiedAt
import Derived.Stop.Joined
import Derived.Handed
namespace Go.Proofs.YtgnehcgaplnfkaaDoor.tombHeeds
open Go.ChangeShapes Go.WideShapes Go.ChangeAt Go.RowKit Go.Proofs.YtgnehcgaplnfkaaDoor.PAll Go.Proofs.YtgnehcgaplnfkaaDoorW.PrintWords Go.Proofs.YtgnehcgaplnfkaaDoorW.PrintLast
open Go.ChangeMaps (open_string shut_string)
set_option linter.unusedVariables false
theorem own : ownKnob Tryd.prog.godebug = none := by kernel_rfl
theorem laidOut : laidOutB Tryd.prog = true := by kernel_rfl
theorem walk (A0 : Option Addr) (c0 : Nat) (a0 : List S77) (A1 : Option Addr) (c1 : Nat) (a1 : List Int) (A2 : Option Addr) (c2 : Nat) (a2 : List S42) (a3 : Int) (w : World) (hr0 : Kd.C k77 w A0 a0.length a0) (hc0 : a0.length ≤ c0) (hr1 : Kd.C (Kd.int .i64) w A1 a1.length a1) (hc1 : a1.length ≤ c1) (hr2 : Kd.C k42 w A2 a2.length a2) (hc2 : a2.length ≤ c2) (hG : strings_ToValidUTF8.Gd w) (b0 : a0.length * 48 ≤ 140737488351232 ∧ ∀ y ∈ a0, ((y.f0.length * 40 ≤ 140737488351232 ∧ ∀ z ∈ y.f0, (Lit.int .i64 z.f0).wf = true ∧ z.f1.size ≤ 140737488351232 ∧ z.f2.size ≤ 140737488351232) ∧ (Lit.int .i64 y.f1).wf = true ∧ (Lit.int .i64 y.f2).wf = true ∧ (Lit.int .i64 y.f3).wf = true)) (b1 : a1.length * 8 ≤ 140737488351232 ∧ ∀ y ∈ a1, (Lit.int .i64 y).wf = true) (b2 : a2.length * 32 ≤ 140737488351232 ∧ ∀ y ∈ a2, (y.f0.size ≤ 140737488351232 ∧ y.f1.size ≤ 140737488351232)) (b3 : (Lit.int .i64 a3).wf = true) :
    Calls Tryd.prog 9 #[.slice A0 a0.length c0, .slice A1 a1.length c1, .slice A2 a2.length c2, .int .i64 a3] w fun e w' => e = .returned (.bool true) ∧ Below w.heap.size w w' :=
  PAll.Hds.heeds_walk A0 c0 a0 A1 c1 a1 A2 c2 a2 a3 w hG hr0 hc0 hr1 hc1 hr2 hc2 b0 b1 b2 b3
set_option maxRecDepth 100000 in
theorem lifted (os : Os) (started : os.Started) (H : Type) (enc : TypeId × Value → H) :
    ReturnsInHanded {} Tryd.checked os 9 .any (fun w args => (Rows.tombHeedsSpec.pre enc Tryd.prog Tryd.f9 Rows.tombHeedsRow.domain false w args ∧ laidMetH Tryd.prog Rows.tombHeedsRow.laid w) ∧ sizedMet enc Tryd.prog Tryd.f9 (OpenSpec.ofChange Rows.tombHeedsSpec) false w args)
      (Rows.tombHeedsSpec.post enc Tryd.prog Tryd.f9 false true false false) := by
  refine Opens.returns_listed_shaped (C := Tryd.checked) (X := fun w _ => laidMetH Tryd.prog Rows.tombHeedsRow.laid w) (fun _ _ _ hh h => h.of_heap hh) own started (by kernel_rfl) Tryd.func9
    (ChangeSpec.witness_shaped (enc := enc) (C := Tryd.checked) (os := os) (X := fun w _ => laidMetH Tryd.prog Rows.tombHeedsRow.laid w) false (World.laidAll Tryd.prog os Rows.tombHeedsRow.laid) #[.slice none 0 0, .slice none 0 0, .slice none 0 0, .int .i64 0] 8 (World.laidAll_os _ _ _)
      (World.shaped_of_ZipB (by kernel_rfl) (by kernel_rfl)) (by kernel_rfl) (by kernel_rfl) (by kernel_rfl)
      (by rw [MakeChecks.laidMetH_plain _ _ _ (by kernel_rfl)]; exact laidMet_laidAll _ (by kernel_rfl) (by kernel_rfl))) ?_
  intro W base args ds gs before hval0 hW hcnd hsz0 hLaid hShaped
  have hsz : (DataW.weightsEach Tryd.prog (Tryd.f9.params.toList ++ Rows.tombHeedsSpec.plain.varTypes Tryd.prog) (ds ++ gs)).all (· ≤ reachBytes) = true := hsz0
  have hval : ∀ (j : Nat) t v, Tryd.f9.params[j]? = some t → args[j]? = some v → Value.okWide Tryd.prog W .any base t v := hval0
  have hW' := hW
  obtain ⟨p, q, hA0, hV, rfl, hfz, hnd⟩ := hW
  have hA : DataW.TrodAll enc Tryd.prog W 0 (fun _ => true) true Tryd.f9.params.toList args.toList ds p := hA0
  rw [Tryd.params9] at hA hval hsz
  obtain ⟨v0, vs0, d0, ds0, p0, q0, hargs, rfl, rfl, h0, r0⟩ := trodAll_cons hA
  obtain ⟨v1, vs1, d1, ds1, p1, q1, rfl, rfl, rfl, h1, r1⟩ := trodAll_cons r0
  obtain ⟨v2, vs2, d2, ds2, p2, q2, rfl, rfl, rfl, h2, r2⟩ := trodAll_cons r1
  obtain ⟨v3, vs3, d3, ds3, p3, q3, rfl, rfl, rfl, h3, r3⟩ := trodAll_cons r2
  obtain ⟨rfl, rfl, rfl⟩ := trodAll_nil r3
  obtain rfl : args = #[v0, v1, v2, v3] := by cases args; simp_all
  obtain ⟨rfl, rfl⟩ := trodVars_none hV
  have k0 := h0
  have lt0 : ∀ x ∈ p0, x.block < W.heap.size := by obtain ⟨m, hm⟩ := k0; exact DataW.trod_lt m _ _ _ hm
  obtain ⟨A0, c0, a0, rfl, hc0, hm0, hr0, hq0⟩ := Opens.open_slice_arg (B := 48) (j := 0) Opens.opens_delete Tryd.underlying49 (by kernel_rfl) (by kernel_rfl) hsz rfl rfl (hval 0 49 v0 rfl rfl) h0
  have k1 := h1
  have lt1 : ∀ x ∈ p1, x.block < W.heap.size := by obtain ⟨m, hm⟩ := k1; exact DataW.trod_lt m _ _ _ hm
  obtain ⟨A1, c1, a1, rfl, hc1, hm1, hr1, hq1⟩ := Opens.open_slice_arg (B := 8) (j := 1) Opens.opens_i64 Tryd.underlying50 (by kernel_rfl) (by kernel_rfl) hsz rfl rfl (hval 1 50 v1 rfl rfl) h1
  have k2 := h2
  have lt2 : ∀ x ∈ p2, x.block < W.heap.size := by obtain ⟨m, hm⟩ := k2; exact DataW.trod_lt m _ _ _ hm
  obtain ⟨A2, c2, a2, rfl, hc2, hm2, hr2, hq2⟩ := Opens.open_slice_arg (B := 32) (j := 2) Opens.opens_label Tryd.underlying33 (by kernel_rfl) (by kernel_rfl) hsz rfl rfl (hval 2 33 v2 rfl rfl) h2
  obtain ⟨a3, rfl, rfl, rfl, w3⟩ := open_int Tryd.underlying3 (hval 3 3 v3 rfl rfl) h3
  clear hA0 hval0 hsz0 hsz
  refine (walk A0 c0 a0 A1 c1 a1 A2 c2 a2 a3 W hr0 hc0 hr1 hc1 hr2 hc2 (Opens.gd_of_row hLaid (by kernel_rfl) hShaped (by first | exact .head _ | exact .tail _ (.head _) | exact .tail _ (.tail _ (.head _))) (by first | exact .head _ | exact .tail _ (.head _) | exact .tail _ (.tail _ (.head _)))) hq0 hq1 hq2 w3).mono fun e W' ⟨he, bel⟩ => ?_
  subst he
  exact ⟨_, rfl, _, _, _, [], _, [], hW', trodAll_mk1 (shut_bool Tryd.underlying4 _), (trodAll_cons_mk (Below.trod laidOut (by kernel_rfl) (of_decide_eq_true (by kernel_rfl)) k0 bel lt0) (trodAll_cons_mk (Below.trod laidOut (by kernel_rfl) (of_decide_eq_true (by kernel_rfl)) k1 bel lt1) (trodAll_cons_mk (Below.trod laidOut (by kernel_rfl) (of_decide_eq_true (by kernel_rfl)) k2 bel lt2) (trodAll_cons_mk (shut_int Tryd.underlying3 w3) trodAll_mk0)))), rfl, bel.frame _, fun h => by cases h⟩
theorem proved : Rows.TombHeedsSaid :=
  OpenClaim.holds_of_wide 9 Tryd.f9 rfl rfl rfl rfl rfl rfl rfl ⟨rfl, rfl, rfl, rfl, rfl⟩ rfl rfl rfl rfl rfl (by kernel_rfl) Tryd.func9 (by kernel_rfl)
    (of_decide_eq_true (by kernel_rfl)) (by unfold Func.isWrapper; first | (rw [if_pos (by decide +kernel)]; kernel_rfl) | (rw [if_neg (by decide +kernel)]; exact ⟨rfl, rfl⟩))
    (fun os started H enc _ => lifted os started H enc)
theorem card : Rows.TombHeedsCardSaid :=
  Claim7.holds_tied_plain_at .later [] [.data, .pinned] true (true, "67746eaf485441d39ba168656b825128ec06c6280b8af34b7b596d1029876884") true proved (fun _ h => by cases h) (by kernel_rfl) (fun _ h => by cases h) tombHeeds_row_tie rfl ⟨rfl, rfl⟩ (by kernel_rfl) rfl
    (fun f fn hf hfn => by
      obtain rfl : f = 9 := Option.some.inj ((show Tryd.prog.funcNamed "dryrot/dryrotlaw14.TombHeeds" = some 9 by kernel_rfl).symm.trans hf) |>.symm
      obtain rfl : fn = Tryd.f9 := (Option.some.inj (Tryd.func9.symm.trans hfn)).symm
      exact ⟨by kernel_rfl, fun j t ht => by
        rw [Tryd.params9] at ht
        have hm : t ∈ [49, 50, 33, 3] := by simpa using Array.mem_of_getElem? ht
        have hall : ([49, 50, 33, 3].all fun u => !Tryd.prog.wantsStandIn u) = true := by kernel_rfl
        exact (show Tryd.prog.wantsStandIn t = false by simpa using List.all_eq_true.1 hall t hm)⟩)
    (by kernel_rfl)
end Go.Proofs.YtgnehcgaplnfkaaDoor.tombHeeds
namespace Go.Proofs.YtgnehcgaplnfkaaDoor
theorem tombHeeds_holds : Rows.TombHeedsCardSaid := tombHeeds.card
end Go.Proofs.YtgnehcgaplnfkaaDoor
