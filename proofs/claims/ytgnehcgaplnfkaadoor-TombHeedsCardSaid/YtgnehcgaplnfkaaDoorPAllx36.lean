-- Written by a program of this seat (wip/tools), out of the translation. Not trusted: Lean checks it.
import Derived.Test.YtgnehcgaplnfkaaDoorPAllx0
import Derived.Test.YtgnehcgaplnfkaaDoorPAllx35
namespace Go.Proofs.YtgnehcgaplnfkaaDoor.PAll
open Go.RowKit Go.Proofs.YtgnehcgaplnfkaaDoorW.PrintWords Go.Proofs.YtgnehcgaplnfkaaDoorW.PrintLast Go.Proofs.YtgnehcgaplnfkaaDoorW.PrintMore
attribute [local go_sem] max2_int min2_int max_two min_two max_three min_three max_four min_four   -- for this text's walks alone
set_option linter.unusedVariables false
set_option linter.unusedSimpArgs false

/-! ### labels_Value: function 64 -/
-- uses labels_plain
def labels_Value.f (a0 : ByteArray) : Option Bool := some (Base.valueB a0)
theorem labels_Value.plain_is (x : Int) : labels_plain.f x = some (Base.plainB x) := by
  unfold labels_plain.f Base.plainB
  by_cases h1 : x ≥ 32
  · rw [if_pos h1]
    by_cases h2 : x = 127
    · simp [h1, h2]
    · rw [if_neg h2]
      by_cases h3 : x = 65533 <;> simp [h1, h2, h3]
  · rw [if_neg h1]
    simp only [ge_iff_le] at h1
    simp [h1]
set_option maxHeartbeats 1000000 in
set_option maxRecDepth 100000 in
theorem labels_Value.calls (a0 : ByteArray) (r : Bool) (w : World) (h : labels_Value.f a0 = some r) :
    Calls Tryd.prog 64 #[.string a0] w fun e w' => e = .returned (.bool r) ∧ Below w.heap.size w w' := by
  obtain rfl : Base.valueB a0 = r := by simpa [labels_Value.f] using h
  clear h
  go_enter Tryd.func64, Tryd.ntmps64
  go_wp2
  go_loopw [] (fun wr => ∃ (pos fuel : Nat), wr.heap[w.heap.size]? = some (.stringIter a0 pos) ∧ Below w.heap.size w wr ∧ Aside0 ((Base.runesOf a0).all Base.plainB = (Base.runesFrom a0 fuel pos).all Base.plainB) ∧ a0.size ≤ fuel + pos)
    (fun wr => a0.size - wr.iterPos w.heap.size)
  case atStart =>
    refine ⟨0, a0.size, ?_, (Below.refl _ w).alloc (Nat.le_refl _) _, ⟨rfl⟩, by omega⟩
    have := World.iter_heap w a0 0
    simpa using this
  case round =>
    obtain ⟨pos, fuel, hit, hbw, HE, hfu⟩ := hrel
    have hsz : w.heap.size < wr.heap.size := (Array.getElem?_eq_some_iff.1 hit).1
    by_cases hp : pos < a0.size
    · have hnx : ∀ ty, (Instr.next (.pointer (some ⟨w.heap.size, 0, none⟩)) true ty).run Tryd.prog wr = _ := fun ty => Lib.run_next_any_at wr w.heap.size a0 pos ty hit hp
      have hwd := Base.width_pos a0 pos hp
      have hd1 := decode_le a0 pos
      have hit2 := Lib.iterAt_heap wr w.heap.size a0 pos (pos + (Utf8.decode a0 pos).2) hit
      have hbw2 := Lib.below_iterAt hbw (k := w.heap.size) (by omega) a0 (pos + (Utf8.decode a0 pos).2)
      obtain ⟨f, rfl⟩ : ∃ f, fuel = f + 1 := ⟨fuel - 1, by omega⟩
      have hst := Base.runesFrom_step a0 f pos hp
      rw [hst] at HE
      clear hst
      cases hpl : Base.plainB ((Utf8.decode a0 pos).1 : Int) with
      | true =>
        go_wp2_with (go_at_call 91; refine (labels_plain.calls _ _ _ (labels_Value.plain_is _)).mono ?_; rintro e W1 ⟨rfl, ⟨nd, rfl⟩⟩)
        go_roundw
        case rel =>
          refine ⟨pos + (Utf8.decode a0 pos).2, f, by simpa using hit2, pw_below_drewN hbw2 nd, ⟨?_⟩, by omega⟩
          have h1 := HE.out
          rw [List.all_cons, hpl, Bool.true_and] at h1
          exact h1
        case measure =>
          have e1 : ((wr.iterAt w.heap.size a0 (pos + (Utf8.decode a0 pos).2)).drewN nd).heap[w.heap.size]? = some (.stringIter a0 (pos + (Utf8.decode a0 pos).2)) := by simpa using hit2
          simp only [World.iterPos, e1, hit]
          omega
      | false =>
        go_wp2_with (go_at_call 91; refine (labels_plain.calls _ _ _ (labels_Value.plain_is _)).mono ?_; rintro e W1 ⟨rfl, ⟨nd, rfl⟩⟩)
        go_ret
        have h1 := HE.out
        rw [List.all_cons, hpl, Bool.false_and] at h1
        refine ⟨?_, pw_below_drewN hbw2 nd⟩
        simp [Base.valueB, h1]
    · have hnx : ∀ ty, (Instr.next (.pointer (some ⟨w.heap.size, 0, none⟩)) true ty).run Tryd.prog wr = _ := fun ty => Lib.run_next_end_at wr w.heap.size a0 pos ty hit hp
      have h1 := HE.out
      rw [Base.runesFrom_end a0 fuel pos hp, List.all_nil] at h1
      have H1 := Aside0.mk h1
      clear h1 HE
      go_wp2
      all_goals
        go_ret
        refine ⟨?_, hbw⟩
        have h1 := H1.out
        have hz := Base.toList_nil a0
        first
          | (have he : a0.toList = [] := by assumption
             have h0 : a0.size = 0 := hz.1 he
             simp [Base.valueB, h1, h0, he]; done)
          | (have he : ¬ a0.toList = [] := by assumption
             have h0 : 0 < a0.size := by
               rcases Nat.eq_zero_or_pos a0.size with h | h
               · exact absurd (hz.2 h) he
               · exact h
             have hi : a0.toList.isEmpty = false := by
               cases hl : a0.toList with
               | nil => exact absurd hl he
               | cons _ _ => rfl
             have hd : decide ((a0.size : Int) ≤ 40) = decide (a0.size ≤ 40) := by
               rw [Bool.eq_iff_iff]
               simp only [decide_eq_true_eq]
               omega
             simp [Base.valueB, h1, h0, hi, hd]; done)

end Go.Proofs.YtgnehcgaplnfkaaDoor.PAll
