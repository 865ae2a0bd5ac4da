-- Written by a program of this seat (wip/tools), out of the translation. Not trusted: Lean checks it.
import Derived.Test.YtgnehcgaplnfkaaDoorPAllx0
namespace Go.Proofs.YtgnehcgaplnfkaaDoor.PAll
open Go.RowKit Go.Proofs.YtgnehcgaplnfkaaDoorW.PrintWords Go.Proofs.YtgnehcgaplnfkaaDoorW.PrintLast Go.Proofs.YtgnehcgaplnfkaaDoorW.PrintMore
attribute [local go_sem] max2_int min2_int max_two min_two max_three min_three max_four min_four   -- for this text's walks alone
set_option linter.unusedVariables false
set_option linter.unusedSimpArgs false

/-! ### dryrotref08_one: function 58 -/
def dryrotref08_one.oneB (c : Int) (rs : List Int) : Bool := rs.any fun r => decide (r = c)
def dryrotref08_one.f (a0 : Int) (a1 : ByteArray) : Option Bool := some (dryrotref08_one.oneB a0 (Base.runesOf a1))
set_option maxHeartbeats 2000000 in
theorem dryrotref08_one.calls (c : Int) (s : ByteArray) (b : Bool) (w : World) (h : dryrotref08_one.f c s = some b) : Calls Tryd.prog 58 #[.int .i32 c, .string s] w fun e w' => e = .returned (.bool b) ∧ Below w.heap.size w w' := by
  have H : Aside0 (dryrotref08_one.oneB c (Base.runesOf s) = b) := ⟨Option.some.inj h⟩
  clear h
  go_enter Tryd.func58, Tryd.ntmps58
  go_wp2
  go_loopw [] (fun wr => ∃ (pos fuel : Nat), wr.heap[w.heap.size]? = some (.stringIter s pos) ∧ Aside0 (Below w.heap.size w wr) ∧ Aside0 (dryrotref08_one.oneB c (Base.runesFrom s fuel pos) = b) ∧ s.size ≤ fuel + pos)
    (fun wr => s.size - wr.iterPos w.heap.size)
  case atStart =>
    refine ⟨0, s.size, ?_, ⟨below_alloc (Below.refl _ _) _⟩, ⟨H.out⟩, by omega⟩
    have := World.iter_heap w s 0
    simpa using this
  case round =>
    obtain ⟨pos, fuel, hit, hbw, HE, hfu⟩ := hrel
    by_cases hp : pos < s.size
    · have hnx : ∀ ty, (Instr.next (.pointer (some ⟨w.heap.size, 0, none⟩)) true ty).run Tryd.prog wr = _ := fun ty => Lib.run_next_any_at wr w.heap.size s pos ty hit hp
      have hwd := Base.width_pos s pos hp
      obtain ⟨f, rfl⟩ : ∃ f, fuel = f + 1 := ⟨fuel - 1, by omega⟩
      have hst := Base.runesFrom_step s f pos hp
      obtain ⟨u, hu⟩ : ∃ u : Nat, (Utf8.decode s pos).1 = u := ⟨_, rfl⟩
      obtain ⟨pos2, hpos2⟩ : ∃ q, pos + (Utf8.decode s pos).2 = q := ⟨_, rfl⟩
      rw [hu] at hnx hst
      rw [hpos2] at hnx hst
      rw [hst] at HE
      have hpl : pos < pos2 := by omega
      clear hst hu hpos2 hwd
      have hit2 := Aside0.mk (Lib.iterAt_heap wr w.heap.size s pos pos2 hit)
      have hbw2 : Aside0 (Below w.heap.size w (wr.iterAt w.heap.size s pos2)) := ⟨Lib.below_iterAt hbw.out (Nat.le_refl _) s pos2⟩
      have HE1 : Aside0 ((decide ((u : Int) = c) || dryrotref08_one.oneB c (Base.runesFrom s f pos2)) = b) := ⟨HE.out⟩
      clear HE
      by_cases hc : (u : Int) = c
      · have hb1 : ((u : Int) == c) = true := by simpa using hc
        have HB : Aside0 (b = true) := ⟨by have h9 := HE1.out; rw [decide_eq_true hc] at h9; simpa using h9.symm⟩
        clear hc
        go_wp2
        go_ret
        exact ⟨by rw [HB.out]; rfl, hbw2.out⟩
      · have hb1 : ((u : Int) == c) = false := by simpa using hc
        have HB : Aside0 (dryrotref08_one.oneB c (Base.runesFrom s f pos2) = b) := ⟨by have h9 := HE1.out; rw [decide_eq_false hc] at h9; simpa using h9⟩
        clear hc
        go_wp2
        go_roundw
        case rel => exact ⟨pos2, f, hit2.out, hbw2, HB, by omega⟩
        case measure =>
          have h9 := hit2.out
          simp only [World.iterPos, h9, hit]
          omega
    · have hnx : ∀ ty, (Instr.next (.pointer (some ⟨w.heap.size, 0, none⟩)) true ty).run Tryd.prog wr = _ := fun ty => Lib.run_next_end_at wr w.heap.size s pos ty hit hp
      have HH : Aside0 (b = false) := ⟨by
        have h9 := HE.out
        rw [Base.runesFrom_end s fuel pos hp] at h9
        exact h9.symm⟩
      go_wp2
      go_ret
      exact ⟨by rw [HH.out]; rfl, hbw.out⟩

end Go.Proofs.YtgnehcgaplnfkaaDoor.PAll
