-- Written by a program of this seat (wip/tools), out of the translation. Not trusted: Lean checks it.
import Derived.Test.YtgnehcgaplnfkaaDoorPAllx0
namespace Go.Proofs.YtgnehcgaplnfkaaDoor.PAll
open Go.RowKit Go.Proofs.YtgnehcgaplnfkaaDoorW.PrintWords Go.Proofs.YtgnehcgaplnfkaaDoorW.PrintLast Go.Proofs.YtgnehcgaplnfkaaDoorW.PrintMore
attribute [local go_sem] max2_int min2_int max_two min_two max_three min_three max_four min_four   -- for this text's walks alone
set_option linter.unusedVariables false
set_option linter.unusedSimpArgs false

/-! ### dryrotlaw08_quoted: function 15 -/
def dryrotlaw08_quoted.add (acc : ByteArray) (r : Int) : ByteArray := acc ++ ((⟨#[92]⟩ : ByteArray) ++ Utf8.encode r)
/-- Each code point behind a backslash. -/
def dryrotlaw08_quoted.qM (acc : ByteArray) (rs : List Int) : ByteArray := rs.foldl dryrotlaw08_quoted.add acc
def dryrotlaw08_quoted.f (a0 : ByteArray) : Option ByteArray := if a0.size ≤ 1000 then some (dryrotlaw08_quoted.qM ⟨#[]⟩ (Base.runesOf a0)) else none
theorem dryrotlaw08_quoted.add_size (acc : ByteArray) (r : Int) : (dryrotlaw08_quoted.add acc r).size ≤ acc.size + 5 := by
  have := encode_size_le r
  unfold dryrotlaw08_quoted.add
  rw [ByteArray.size_append, ByteArray.size_append]
  have h1 : (⟨#[92]⟩ : ByteArray).size = 1 := rfl
  omega
set_option maxHeartbeats 2000000 in
theorem dryrotlaw08_quoted.calls (s r : ByteArray) (w : World) (h : dryrotlaw08_quoted.f s = some r) : Calls Tryd.prog 15 #[.string s] w fun e w' => e = .returned (.string r) ∧ Below w.heap.size w w' := by
  unfold dryrotlaw08_quoted.f at h
  by_cases hs : s.size ≤ 1000
  · rw [if_pos hs] at h
    have H := Aside0.mk (Option.some.inj h)
    clear h
    go_enter Tryd.func15, Tryd.ntmps15
    go_wp2
    go_loopw [3] (fun v3 wr => ∃ (pos fuel : Nat) (acc : ByteArray), v3 = .string acc ∧ wr.heap[w.heap.size]? = some (.stringIter s pos) ∧ Aside0 (Below w.heap.size w wr) ∧ Aside0 (dryrotlaw08_quoted.qM acc (Base.runesFrom s fuel pos) = r) ∧ s.size ≤ fuel + pos ∧ acc.size ≤ 5 * pos)
      (fun v3 wr => s.size - wr.iterPos w.heap.size)
    case atStart =>
      refine ⟨0, s.size, ⟨#[]⟩, rfl, ?_, ⟨below_alloc (Below.refl _ _) _⟩, ⟨H.out⟩, by omega, by decide⟩
      have := World.iter_heap w s 0
      simpa using this
    case round =>
      obtain ⟨pos, fuel, acc, rfl, hit, hbw, HE, hfu, hsz⟩ := hrel
      by_cases hp : pos < s.size
      · have hnx : ∀ ty, (Instr.next (.pointer (some ⟨w.heap.size, 0, none⟩)) true ty).run Tryd.prog wr = _ := fun ty => Lib.run_next_any_at wr w.heap.size s pos ty hit hp
        have hwd := Base.width_pos s pos hp
        obtain ⟨f, rfl⟩ : ∃ f, fuel = f + 1 := ⟨fuel - 1, by omega⟩
        have hst := Base.runesFrom_step s f pos hp
        obtain ⟨u, hu⟩ : ∃ u : Nat, (Utf8.decode s pos).1 = u := ⟨_, rfl⟩
        obtain ⟨pos2, hpos2⟩ : ∃ q, pos + (Utf8.decode s pos).2 = q := ⟨_, rfl⟩
        rw [hu] at hnx hst
        rw [hpos2] at hnx hst
        rw [hst] at HE
        have hpl : pos < pos2 := by omega
        clear hst hu hpos2 hwd
        have hit2 := Aside0.mk (Lib.iterAt_heap wr w.heap.size s pos pos2 hit)
        have hbw2 : Aside0 (Below w.heap.size w (wr.iterAt w.heap.size s pos2)) := ⟨Lib.below_iterAt hbw.out (Nat.le_refl _) s pos2⟩
        have hes := encode_size_le (u : Int)
        have HZ : Aside0 ((dryrotlaw08_quoted.add acc u).size ≤ 5 * pos2) := ⟨by have := dryrotlaw08_quoted.add_size acc u; omega⟩
        have b1 : (9223372036854775807 < 1 + (Utf8.encode (u : Int)).size) = False := eq_false (by omega)
        have b2 : (9223372036854775807 < acc.size + (1 + (Utf8.encode (u : Int)).size)) = False := eq_false (by omega)
        have b3 : (9223372036854775807 < acc.size + ((⟨#[92]⟩ : ByteArray) ++ Utf8.encode (u : Int)).size) = False := eq_false (by rw [ByteArray.size_append]; have h1 : (⟨#[92]⟩ : ByteArray).size = 1 := rfl; omega)
        go_wp2
        go_roundw
        case rel => exact ⟨pos2, f, dryrotlaw08_quoted.add acc u, rfl, hit2.out, hbw2, ⟨HE.out⟩, by omega, HZ.out⟩
        case measure =>
          have h9 := hit2.out
          simp only [World.iterPos, h9, hit]
          omega
      · have hnx : ∀ ty, (Instr.next (.pointer (some ⟨w.heap.size, 0, none⟩)) true ty).run Tryd.prog wr = _ := fun ty => Lib.run_next_end_at wr w.heap.size s pos ty hit hp
        have HH : Aside0 (acc = r) := ⟨by
          have h9 := HE.out
          rw [Base.runesFrom_end s fuel pos hp] at h9
          exact h9⟩
        go_wp2
        go_ret
        exact ⟨by rw [HH.out]; rfl, hbw.out⟩
  · rw [if_neg hs] at h
    cases h

end Go.Proofs.YtgnehcgaplnfkaaDoor.PAll
