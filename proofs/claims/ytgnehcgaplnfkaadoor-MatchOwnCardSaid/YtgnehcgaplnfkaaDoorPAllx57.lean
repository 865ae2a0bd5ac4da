-- Written by a program of this seat (wip/tools), out of the translation. Not trusted: Lean checks it.
import Derived.Test.YtgnehcgaplnfkaaDoorPAllx0
import Derived.Test.YtgnehcgaplnfkaaDoorPAllx3
import Derived.Test.YtgnehcgaplnfkaaDoorPAllx18
import Derived.Test.YtgnehcgaplnfkaaDoorPAllx19
import Derived.Test.YtgnehcgaplnfkaaDoorPAllx41
import Derived.Test.YtgnehcgaplnfkaaDoorPAllx42
import Derived.Test.YtgnehcgaplnfkaaDoorPAllx49
import Derived.Test.YtgnehcgaplnfkaaDoorPAllx50
import Derived.Test.YtgnehcgaplnfkaaDoorPAllx56
namespace Go.Proofs.YtgnehcgaplnfkaaDoor.PAll
open Go.RowKit Go.Proofs.YtgnehcgaplnfkaaDoorW.PrintWords Go.Proofs.YtgnehcgaplnfkaaDoorW.PrintLast Go.Proofs.YtgnehcgaplnfkaaDoorW.PrintMore
attribute [local go_sem] max2_int min2_int max_two min_two max_three min_three max_four min_four   -- for this text's walks alone
set_option linter.unusedVariables false
set_option linter.unusedSimpArgs false

/-! ### dryrotlaw09_awake: function 20 -/
-- uses match_Parse match_All
def dryrotlaw09_awake.lab : List S42 := [⟨⟨#[97]⟩, ⟨#[120]⟩⟩]
theorem dryrotlaw09_awake.pat : regex_parse.parseM ⟨#[121, 46, 42]⟩ = some [⟨1, [⟨121, 121⟩], false, 0, 0⟩, ⟨2, [], false, 2, 4⟩, ⟨1, [], true, 1, 1⟩, ⟨3, [], false, 1, 0⟩, ⟨4, [], false, 0, 0⟩] := by kernel_rfl
theorem dryrotlaw09_awake.fits_not : ¬ match_One.Fits ⟨#[121, 46, 42]⟩ ⟨#[]⟩ := by
  rintro ⟨code, hc, ha⟩
  rw [dryrotlaw09_awake.pat] at hc
  injection hc with hc
  subst hc
  have hr : regex_follow.Reach [(⟨1, [⟨121, 121⟩], false, 0, 0⟩ : S62), ⟨2, [], false, 2, 4⟩, ⟨1, [], true, 1, 1⟩, ⟨3, [], false, 1, 0⟩, ⟨4, [], false, 0, 0⟩] 0 4 := ha
  obtain ⟨n, hn⟩ := hr
  have h0 : ∀ n j, regex_follow.RN [(⟨1, [⟨121, 121⟩], false, 0, 0⟩ : S62), ⟨2, [], false, 2, 4⟩, ⟨1, [], true, 1, 1⟩, ⟨3, [], false, 1, 0⟩, ⟨4, [], false, 0, 0⟩] n 0 j → j = 0 := by
    intro n
    induction n with
    | zero => exact fun j h => (show (0 : Nat) = j from h).symm
    | succ n ih =>
      rintro j ⟨k, h1, x, h2, h3⟩
      rw [ih k h1] at h2
      have h4 : (⟨1, [⟨121, 121⟩], false, 0, 0⟩ : S62) = x := Option.some.inj h2
      subst h4
      rcases h3 with ⟨h5, _⟩ | ⟨h5, _⟩
      · exact absurd h5 (show ¬ (1 : Int) = 2 by decide)
      · exact absurd h5 (show ¬ (1 : Int) = 3 by decide)
  exact absurd (h0 n 4 hn) (by decide)
theorem dryrotlaw09_awake.all_two : ∀ x, x ∈ match_Parse.two → match_All.P dryrotlaw09_awake.lab x := by
  intro x hx
  have h : x = ⟨1, ⟨#[97]⟩, ⟨#[120]⟩⟩ ∨ x = ⟨4, ⟨#[98]⟩, ⟨#[121, 46, 42]⟩⟩ := by simpa [match_Parse.two] using hx
  rcases h with rfl | rfl
  · exact Or.inl ⟨rfl, by kernel_rfl⟩
  · refine Or.inr (Or.inr (Or.inr ⟨rfl, ?_⟩))
    have hg : labels_Get.get ⟨#[98]⟩ dryrotlaw09_awake.lab = ⟨#[]⟩ := by kernel_rfl
    show ¬ match_One.Fits ⟨#[121, 46, 42]⟩ (labels_Get.get ⟨#[98]⟩ dryrotlaw09_awake.lab)
    rw [hg]
    exact dryrotlaw09_awake.fits_not
theorem dryrotlaw09_awake.lab_row (W : World) : Kd.C k42 (W.alloc (.cells #[.string ⟨#[97]⟩, .string ⟨#[120]⟩] 42)) (some ⟨W.heap.size, 0, none⟩) 1 dryrotlaw09_awake.lab := by
  have hn := blk_new W (.cells #[.string ⟨#[97]⟩, .string ⟨#[120]⟩] 42)
  refine ⟨rfl, by decide, fun _ => ⟨⟨W.heap.size, 0, none⟩, rfl, fun j p hj => ?_⟩⟩
  cases j with
  | zero =>
    have hp : (⟨⟨#[97]⟩, ⟨#[120]⟩⟩ : S42) = p := Option.some.inj hj
    subst hp
    refine ⟨[.string ⟨#[97]⟩, .string ⟨#[120]⟩], rfl, k42_mk _ ⟨⟨#[97]⟩, ⟨#[120]⟩⟩, fun i u hu => ?_⟩
    match i, hu with
    | 0, hu =>
      have h9 := blk_cell hn 0
      simp only [List.getElem?_cons_zero, Option.some.injEq] at hu
      subst hu
      exact h9
    | 1, hu =>
      have h9 := blk_cell hn 1
      simp only [List.getElem?_cons_succ, List.getElem?_cons_zero, Option.some.injEq] at hu
      subst hu
      exact h9
    | i + 2, hu => simp at hu
  | succ j => simp [dryrotlaw09_awake.lab] at hj
set_option maxRecDepth 20000 in
set_option maxHeartbeats 4000000 in
theorem dryrotlaw09_awake.calls (w : World) (hG : strings_ToValidUTF8.Gd w) : Calls Tryd.prog 20 #[] w fun e w' => e = .returned (.bool true) ∧ Below w.heap.size w w' := by
  have HG := Aside0.mk hG
  clear hG
  go_enter Tryd.func20, Tryd.ntmps20
  go_wp2_with (first
    | (go_at_call 39; (with_reducible refine (match_Parse.told w HG.out).mono ?_); rintro e W1 ⟨⟨v, rfl, hR1⟩, hB1⟩
       obtain ⟨A1, c1, e1⟩ := Kd.R_slice hR1
       subst e1
       have hC1 := (Kd.R_reads' hR1).2.2
       have hc1 : (2 : Nat) ≤ c1 := (Kd.R_reads' hR1).2.1
       obtain ⟨gb, eg⟩ : ∃ gb, A1 = some ⟨gb, 0, none⟩ := by
         obtain ⟨_, inner, ho, _⟩ := hR1
         rcases ho.2 with ⟨hv, h0⟩ | ⟨g, cap, cur, hv, _⟩
         · exact absurd h0 (by decide)
         · injection hv with h1
           exact ⟨g, h1⟩
       subst eg
       obtain ⟨ad, ea, hk0, _, _⟩ := match_Can.elem hC1 1 (by decide)
       injection ea with ea
       subst ea
       have hkind : W1.cell? ⟨gb, 3, none⟩ = some (.int .i64 4) := hk0
       have HC1 := Aside0.mk hC1
       have HB1 := Aside0.mk hB1
       have HG1 := Aside0.mk (HG.out.below hB1)
       clear hR1 hC1 hB1 hk0)
    | (go_at_call 23
       have hall := match_All.calls (some ⟨gb, 0, none⟩) c1 match_Parse.two (some ⟨W1.heap.size, 0, none⟩) 1 dryrotlaw09_awake.lab (W1.alloc (.cells #[.string ⟨#[97]⟩, .string ⟨#[120]⟩] 42)) (Kd.C_below HC1.out (below_alloc (Below.refl _ _) _)) hc1 (dryrotlaw09_awake.lab_row W1) (Nat.le_refl _) (HG1.out.below (below_alloc (Below.refl _ _) _))
       refine hall.mono ?_
       clear hall
       rintro e W2 ⟨⟨b, rfl, hb⟩, hB2⟩
       have hbt : b = true := hb.2 dryrotlaw09_awake.all_two
       subst hbt
       have HB2 := Aside0.mk hB2
       clear hB2 hb))
  go_ret
  exact ⟨rfl, below_then (HB1.out.alloc HB1.out.size _) ((HB1.out.alloc HB1.out.size _).size) HB2.out⟩
-- in the form of the print
def dryrotlaw09_awake.f : Option Bool := some true
theorem dryrotlaw09_awake.callsP (r : Bool) (w : World) (hG : strings_ToValidUTF8.Gd w) (h : dryrotlaw09_awake.f = some r) : Calls Tryd.prog 20 #[] w fun e w' => e = .returned (.bool r) ∧ Below w.heap.size w w' := by
  obtain rfl := Option.some.inj h
  exact dryrotlaw09_awake.calls w hG

end Go.Proofs.YtgnehcgaplnfkaaDoor.PAll
