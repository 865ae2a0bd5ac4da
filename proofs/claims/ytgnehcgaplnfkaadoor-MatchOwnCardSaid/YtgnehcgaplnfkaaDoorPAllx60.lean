-- Written by a program of this seat (wip/tools), out of the translation. Not trusted: Lean checks it.
import Derived.Test.YtgnehcgaplnfkaaDoorPAllx0
namespace Go.Proofs.YtgnehcgaplnfkaaDoor.PAll
open Go.RowKit Go.Proofs.YtgnehcgaplnfkaaDoorW.PrintWords Go.Proofs.YtgnehcgaplnfkaaDoorW.PrintLast Go.Proofs.YtgnehcgaplnfkaaDoorW.PrintMore
attribute [local go_sem] max2_int min2_int max_two min_two max_three min_three max_four min_four   -- for this text's walks alone
set_option linter.unusedVariables false
set_option linter.unusedSimpArgs false

/-! ### dryrotref07_Plain: function 68 -/
def dryrotref07_Plain.f (a0 : ByteArray) : Option Bool := some (Base.plainTextB a0)
def dryrotref07_Plain.badB (r : Int) : Bool := decide (r < 32) || decide (r = 127) || decide (r = 65533)
theorem dryrotref07_Plain.text (a0 : ByteArray) : Base.plainTextB a0 = (Base.runesOf a0).all (fun r => !dryrotref07_Plain.badB r) := rfl
set_option maxHeartbeats 1000000 in
set_option maxRecDepth 100000 in
theorem dryrotref07_Plain.calls (a0 : ByteArray) (r : Bool) (w : World) (h : dryrotref07_Plain.f a0 = some r) :
    Calls Tryd.prog 68 #[.string a0] w fun e w' => e = .returned (.bool r) ∧ Below w.heap.size w w' := by
  obtain rfl : Base.plainTextB a0 = r := by simpa [dryrotref07_Plain.f] using h
  clear h
  go_enter Tryd.func68, Tryd.ntmps68
  go_wp2
  go_loopw [] (fun wr => ∃ (pos fuel : Nat), wr.heap[w.heap.size]? = some (.stringIter a0 pos) ∧ Below w.heap.size w wr ∧ Aside0 (Base.plainTextB a0 = (Base.runesFrom a0 fuel pos).all (fun r => !dryrotref07_Plain.badB r)) ∧ a0.size ≤ fuel + pos)
    (fun wr => a0.size - wr.iterPos w.heap.size)
  case atStart =>
    refine ⟨0, a0.size, ?_, (Below.refl _ w).alloc (Nat.le_refl _) _, ⟨rfl⟩, by omega⟩
    have := World.iter_heap w a0 0
    simpa using this
  case round =>
    obtain ⟨pos, fuel, hit, hbw, HE, hfu⟩ := hrel
    have hsz : w.heap.size < wr.heap.size := (Array.getElem?_eq_some_iff.1 hit).1
    by_cases hp : pos < a0.size
    · have hnx : ∀ ty, (Instr.next (.pointer (some ⟨w.heap.size, 0, none⟩)) true ty).run Tryd.prog wr = _ := fun ty => Lib.run_next_any_at wr w.heap.size a0 pos ty hit hp
      have hwd := Base.width_pos a0 pos hp
      have hd1 := decode_le a0 pos
      have hit2 := Lib.iterAt_heap wr w.heap.size a0 pos (pos + (Utf8.decode a0 pos).2) hit
      have hbw2 := Lib.below_iterAt hbw (k := w.heap.size) (by omega) a0 (pos + (Utf8.decode a0 pos).2)
      obtain ⟨f, rfl⟩ : ∃ f, fuel = f + 1 := ⟨fuel - 1, by omega⟩
      have hst := Base.runesFrom_step a0 f pos hp
      rw [hst] at HE
      clear hst
      have hbad : Aside0 (dryrotref07_Plain.badB ((Utf8.decode a0 pos).1 : Int) = true ↔ ((Utf8.decode a0 pos).1 < 32 ∨ (Utf8.decode a0 pos).1 = 127 ∨ (Utf8.decode a0 pos).1 = 65533)) := ⟨by
        simp only [dryrotref07_Plain.badB, Bool.or_eq_true, decide_eq_true_eq]
        omega⟩
      by_cases h1 : (Utf8.decode a0 pos).1 < 32
      · go_wp2
        go_ret
        have h2 := HE.out
        rw [List.all_cons, hbad.out.2 (.inl h1)] at h2
        exact ⟨by rw [h2]; rfl, hbw2⟩
      · by_cases h3 : (Utf8.decode a0 pos).1 = 127
        · have hb3 : (((Utf8.decode a0 pos).1 : Int) == 127) = true := by simp; omega
          have H3 := Aside0.mk h3
          clear h3
          go_wp2
          go_ret
          have h2 := HE.out
          rw [List.all_cons, hbad.out.2 (.inr (.inl H3.out))] at h2
          exact ⟨by rw [h2]; rfl, hbw2⟩
        · have hb3 : (((Utf8.decode a0 pos).1 : Int) == 127) = false := by simp; omega
          by_cases h4 : (Utf8.decode a0 pos).1 = 65533
          · have hb4 : (((Utf8.decode a0 pos).1 : Int) == 65533) = true := by simp; omega
            have H4 := Aside0.mk h4
            clear h4
            go_wp2
            go_ret
            have h2 := HE.out
            rw [List.all_cons, hbad.out.2 (.inr (.inr H4.out))] at h2
            exact ⟨by rw [h2]; rfl, hbw2⟩
          · have hb4 : (((Utf8.decode a0 pos).1 : Int) == 65533) = false := by simp; omega
            have hgood : dryrotref07_Plain.badB ((Utf8.decode a0 pos).1 : Int) = false := by
              cases hq : dryrotref07_Plain.badB ((Utf8.decode a0 pos).1 : Int) with
              | false => rfl
              | true => have := hbad.out.1 hq; omega
            have Hg := Aside0.mk hgood
            clear hgood
            go_wp2
            go_roundw
            case rel =>
              refine ⟨pos + (Utf8.decode a0 pos).2, f, by simpa using hit2, hbw2, ⟨?_⟩, by omega⟩
              have h2 := HE.out
              rw [List.all_cons, Hg.out, Bool.not_false, Bool.true_and] at h2
              exact h2
            case measure =>
              simp only [World.iterPos, hit2, hit]
              omega
    · have hnx : ∀ ty, (Instr.next (.pointer (some ⟨w.heap.size, 0, none⟩)) true ty).run Tryd.prog wr = _ := fun ty => Lib.run_next_end_at wr w.heap.size a0 pos ty hit hp
      have h1 := HE.out
      rw [Base.runesFrom_end a0 fuel pos hp, List.all_nil] at h1
      have H1 := Aside0.mk h1
      clear h1 HE
      go_wp2
      go_ret
      exact ⟨by rw [H1.out]; rfl, hbw⟩

end Go.Proofs.YtgnehcgaplnfkaaDoor.PAll
