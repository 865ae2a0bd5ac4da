/- What the patterns '.*' and '[^a]*' fit, and the walk of the law RegexAny. -/
import Derived.Test.YtgnehcgaplnfkaaDoorPAllx22
import Derived.Test.YtgnehcgaplnfkaaDoorPAllx20
import Derived.Test.YtgnehcgaplnfkaaDoorPAllx2
import Derived.Test.YtgnehcgaplnfkaaDoorBase
namespace Go.Proofs.YtgnehcgaplnfkaaDoor.PAll
open Go.RowKit Go.Proofs.YtgnehcgaplnfkaaDoorW.PrintWords Go.Proofs.YtgnehcgaplnfkaaDoorW.PrintLast Go.Proofs.YtgnehcgaplnfkaaDoorW.PrintMore
set_option linter.unusedVariables false
set_option linter.unusedSimpArgs false
namespace Rxa
abbrev I := S62
/-- A rune's instruction, any number of times. -/
def star (no : Bool) (l : List S95) : List I := [⟨2, [], false, 1, 3⟩, ⟨1, l, no, 1, 1⟩, ⟨3, [], false, 0, 0⟩, ⟨4, [], false, 0, 0⟩]
theorem any_parse : regex_parse.parseM ⟨#[46, 42]⟩ = some (star true []) := by kernel_rfl
theorem not_parse : regex_parse.parseM ⟨#[91, 94, 97, 93, 42]⟩ = some (star true [⟨97, 97⟩]) := by kernel_rfl
theorem star_01 (no : Bool) (l : List S95) : regex_follow.Reach (star no l) 0 1 := (regex_follow.Reach.refl _ 0).step ⟨_, rfl, Or.inl ⟨rfl, Or.inl rfl⟩⟩
theorem star_03 (no : Bool) (l : List S95) : regex_follow.Reach (star no l) 0 3 := (regex_follow.Reach.refl _ 0).step ⟨_, rfl, Or.inl ⟨rfl, Or.inr rfl⟩⟩
theorem star_20 (no : Bool) (l : List S95) : regex_follow.Reach (star no l) 2 0 := (regex_follow.Reach.refl _ 2).step ⟨_, rfl, Or.inr ⟨rfl, rfl⟩⟩
theorem star_rune {no : Bool} {l : List S95} {i : Nat} {x : I} (h : (star no l)[i]? = some x) (h1 : x.f0 = 1) : i = 1 ∧ x = ⟨1, l, no, 1, 1⟩ := by
  match i with
  | 0 =>
    have h2 : (⟨2, [], false, 1, 3⟩ : I) = x := Option.some.inj h
    rw [← h2] at h1
    exact absurd h1 (show ¬ (2 : Int) = 1 by decide)
  | 1 => exact ⟨rfl, (Option.some.inj h).symm⟩
  | 2 =>
    have h2 : (⟨3, [], false, 0, 0⟩ : I) = x := Option.some.inj h
    rw [← h2] at h1
    exact absurd h1 (show ¬ (3 : Int) = 1 by decide)
  | 3 =>
    have h2 : (⟨4, [], false, 0, 0⟩ : I) = x := Option.some.inj h
    rw [← h2] at h1
    exact absurd h1 (show ¬ (4 : Int) = 1 by decide)
  | k + 4 => simp [star] at h
theorem star_step (no : Bool) (l : List S95) (r : Int) (S : Nat → Prop) (j : Nat) (hj : regex_follow.Reach (star no l) 2 j) : regex_Match.Step (star no l) r S j ↔ (S 1 ∧ regex_inst_fits.fitsB no l r = true) := by
  constructor
  · rintro ⟨i, x, h1, h2, h3, h4, _⟩
    obtain ⟨rfl, rfl⟩ := star_rune h2 h3
    exact ⟨h1, h4⟩
  · rintro ⟨h1, h2⟩
    exact ⟨1, _, h1, rfl, rfl, h2, hj⟩
theorem star_run (no : Bool) (l : List S95) : ∀ (rs : List Int) (S : Nat → Prop), (S 1 ↔ S 3) → (regex_Match.RunS (star no l) rs S 3 ↔ (S 3 ∧ ∀ r, r ∈ rs → regex_inst_fits.fitsB no l r = true)) := by
  intro rs
  induction rs with
  | nil => exact fun S _ => ⟨fun h => ⟨h, fun r hr => by simp at hr⟩, fun h => h.1⟩
  | cons r rs ih =>
    intro S hS
    have h1 := star_step no l r S 1 ((star_20 no l).trans (star_01 no l))
    have h3 := star_step no l r S 3 ((star_20 no l).trans (star_03 no l))
    refine (ih _ (h1.trans h3.symm)).trans ⟨fun ⟨g1, g2⟩ => ?_, fun ⟨g1, g2⟩ => ?_⟩
    · obtain ⟨k1, k2⟩ := h3.1 g1
      refine ⟨hS.1 k1, fun q hq => ?_⟩
      rcases List.mem_cons.1 hq with rfl | hq
      · exact k2
      · exact g2 q hq
    · exact ⟨h3.2 ⟨hS.2 g1, g2 r List.mem_cons_self⟩, fun q hq => g2 q (List.mem_cons_of_mem _ hq)⟩
theorem star_acc (no : Bool) (l : List S95) (rs : List Int) : regex_Match.Acc (star no l) rs ↔ ∀ r, r ∈ rs → regex_inst_fits.fitsB no l r = true :=
  (star_run no l rs _ ⟨fun _ => star_03 no l, fun _ => star_01 no l⟩).trans ⟨fun h => h.2, fun h => ⟨star_03 no l, h⟩⟩
theorem any_acc (rs : List Int) : regex_Match.Acc (star true []) rs := (star_acc true [] rs).2 fun _ _ => rfl
/-- The code point a. -/
def hasA (rs : List Int) : Bool := rs.any fun r => decide (r = 97)
theorem not_acc (rs : List Int) : regex_Match.Acc (star true [⟨97, 97⟩]) rs ↔ hasA rs = false := by
  rw [star_acc]
  unfold hasA
  rw [List.any_eq_false]
  refine forall_congr' fun r => forall_congr' fun _ => ?_
  simp [regex_inst_fits.fitsB, regex_inst_fits.inS]
  omega
set_option maxHeartbeats 4000000 in
set_option maxRecDepth 10000 in
theorem any_walk (s : ByteArray) (w : World) (hG : strings_ToValidUTF8.Gd w) : Calls Tryd.prog 3 #[.string s] w fun e w' => e = .returned (.bool true) ∧ Below w.heap.size w w' := by
  have HG := Aside0.mk hG
  clear hG
  obtain ⟨t, ht⟩ : ∃ t, Aside0 (dryrotlaw08_short.f s = some t) := ⟨_, ⟨by
    unfold dryrotlaw08_short.f
    rw [if_pos (by unfold mn; split <;> omega), if_pos (by unfold mn; split <;> omega)]⟩⟩
  obtain ⟨H, hH⟩ : ∃ H, Aside0 (hasA (Base.runesOf t) = H) := ⟨_, ⟨rfl⟩⟩
  have HA : Aside0 (∀ b : Bool, (b = true ↔ regex_Match.Acc (star true []) (Base.runesOf t)) → b = true) := ⟨fun b h => h.2 (any_acc _)⟩
  have HN : Aside0 (∀ b : Bool, (b = true ↔ regex_Match.Acc (star true [⟨97, 97⟩]) (Base.runesOf t)) → b = !H) := ⟨fun b h => by
    have h2 := h.trans (not_acc (Base.runesOf t))
    rw [hH.out] at h2
    cases b <;> cases H <;> simp_all⟩
  go_enter Tryd.func3, Tryd.ntmps3
  go_wp2_with (first
    | (go_at_call 11; (with_reducible refine (dryrotlaw08_short.calls s t w ht.out).mono ?_); rintro e W1 ⟨rfl, hB1⟩; have HB1 := Aside0.mk hB1; have HG1 := Aside0.mk (HG.out.below hB1); clear hB1)
    | (go_at_call 12; (with_reducible refine (regex_Match.calls W1 ⟨#[46, 42]⟩ t HG1.out).mono ?_); rintro e W2 ⟨hB2, hm2⟩; rw [any_parse] at hm2; obtain ⟨b2, rfl, hb2⟩ := hm2; rw [HA.out b2 hb2]; have HB2 := Aside0.mk hB2; have HG2 := Aside0.mk (HG1.out.below hB2); clear hB2 hb2)
    | (go_at_call 12; (with_reducible refine (regex_Match.calls W2 ⟨#[91, 94, 97, 93, 42]⟩ t HG2.out).mono ?_); rintro e W3 ⟨hB3, hm3⟩; rw [not_parse] at hm3; obtain ⟨b3, rfl, hb3⟩ := hm3; rw [HN.out b3 hb3]; have HB3 := Aside0.mk hB3; clear hB3 hb3))
  have HBw : Aside0 (Below w.heap.size w W3) := ⟨below_then (below_then HB1.out HB1.out.size HB2.out) (Nat.le_trans HB1.out.size HB2.out.size) HB3.out⟩
  go_loopw [7] (fun v7 wr => ∃ (pos fuel : Nat) (h : Bool), v7 = .bool h ∧ wr.heap[W3.heap.size]? = some (.stringIter t pos) ∧ Aside0 (Below w.heap.size w wr) ∧ Aside0 ((h || hasA (Base.runesFrom t fuel pos)) = H) ∧ t.size ≤ fuel + pos)
    (fun v7 wr => t.size - wr.iterPos W3.heap.size)
  case atStart =>
    refine ⟨0, t.size, false, rfl, ?_, ⟨HBw.out.alloc HBw.out.size _⟩, ⟨by rw [← hH.out]; rfl⟩, by omega⟩
    have := World.iter_heap W3 t 0
    simpa using this
  case round =>
    obtain ⟨pos, fuel, h, rfl, hit, hbw, HE, hfu⟩ := hrel
    have HT3 : Aside0 (w.heap.size ≤ W3.heap.size) := ⟨HBw.out.size⟩
    by_cases hp : pos < t.size
    · have hnx : ∀ ty, (Instr.next (.pointer (some ⟨W3.heap.size, 0, none⟩)) true ty).run Tryd.prog wr = _ := fun ty => Lib.run_next_any_at wr W3.heap.size t pos ty hit hp
      have hwd := Base.width_pos t pos hp
      have hd1 := decode_le t pos
      obtain ⟨f, rfl⟩ : ∃ f, fuel = f + 1 := ⟨fuel - 1, by omega⟩
      have hst := Base.runesFrom_step t f pos hp
      obtain ⟨r, hr⟩ : ∃ r : Nat, (Utf8.decode t pos).1 = r := ⟨_, rfl⟩
      obtain ⟨pos2, hpos2⟩ : ∃ q, pos + (Utf8.decode t pos).2 = q := ⟨_, rfl⟩
      rw [hr] at hnx hd1 hst
      rw [hpos2] at hnx hst
      rw [hst] at HE
      have hpl : pos < pos2 := by omega
      clear hst hr hpos2 hwd
      have hit2 := Aside0.mk (Lib.iterAt_heap wr W3.heap.size t pos pos2 hit)
      have hbw2 : Aside0 (Below w.heap.size w (wr.iterAt W3.heap.size t pos2)) := ⟨Lib.below_iterAt hbw.out HT3.out t pos2⟩
      have HE2 : Aside0 (((h || decide (r = 97)) || hasA (Base.runesFrom t f pos2)) = H) := ⟨by
        have h9 := HE.out
        unfold hasA at h9 ⊢
        rw [List.any_cons] at h9
        have h8 : (decide ((r : Int) = 97)) = decide (r = 97) := by
          by_cases h7 : r = 97
          · rw [decide_eq_true h7, decide_eq_true (by omega)]
          · rw [decide_eq_false h7, decide_eq_false (by omega)]
        rw [h8] at h9
        rw [Bool.or_assoc]
        exact h9⟩
      cases h with
      | true =>
        go_wp2
        go_roundw
        case rel => exact ⟨pos2, f, true, rfl, hit2.out, hbw2, HE2, by omega⟩
        case measure =>
          have h9 := hit2.out
          simp only [World.iterPos, h9, hit]
          omega
      | false =>
        by_cases h97 : r = 97
        · have hb : ((r : Int) == 97) = true := by simp; omega
          have H97 := Aside0.mk h97
          clear h97
          go_wp2
          go_roundw
          case rel => exact ⟨pos2, f, true, rfl, hit2.out, hbw2, ⟨by have h9 := HE2.out; rw [decide_eq_true H97.out] at h9; exact h9⟩, by omega⟩
          case measure =>
            have h9 := hit2.out
            simp only [World.iterPos, h9, hit]
            omega
        · have hb : ((r : Int) == 97) = false := by simp; omega
          have H97 := Aside0.mk h97
          clear h97
          go_wp2
          go_roundw
          case rel => exact ⟨pos2, f, false, rfl, hit2.out, hbw2, ⟨by have h9 := HE2.out; rw [decide_eq_false H97.out] at h9; exact h9⟩, by omega⟩
          case measure =>
            have h9 := hit2.out
            simp only [World.iterPos, h9, hit]
            omega
    · have hnx : ∀ ty, (Instr.next (.pointer (some ⟨W3.heap.size, 0, none⟩)) true ty).run Tryd.prog wr = _ := fun ty => Lib.run_next_end_at wr W3.heap.size t pos ty hit hp
      have HH : Aside0 (h = H) := ⟨by
        have h9 := HE.out
        rw [Base.runesFrom_end t fuel pos hp] at h9
        rw [← h9]
        exact (Bool.or_false h).symm⟩
      rw [← HH.out]
      cases h
      all_goals
        go_wp2
        go_ret
        exact ⟨rfl, hbw.out⟩
end Rxa
end Go.Proofs.YtgnehcgaplnfkaaDoor.PAll
