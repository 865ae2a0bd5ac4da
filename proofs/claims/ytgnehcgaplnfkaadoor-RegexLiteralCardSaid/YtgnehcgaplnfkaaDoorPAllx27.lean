-- Written by a program of this seat (wip/tools), out of the translation. Not trusted: Lean checks it.
import Derived.Test.YtgnehcgaplnfkaaDoorPAllx0
namespace Go.Proofs.YtgnehcgaplnfkaaDoor.PAll
open Go.RowKit Go.Proofs.YtgnehcgaplnfkaaDoorW.PrintWords Go.Proofs.YtgnehcgaplnfkaaDoorW.PrintLast Go.Proofs.YtgnehcgaplnfkaaDoorW.PrintMore
attribute [local go_sem] max2_int min2_int max_two min_two max_three min_three max_four min_four   -- for this text's walks alone
set_option linter.unusedVariables false
set_option linter.unusedSimpArgs false

/-! ### dryrotref08_runes: function 57 -/
def dryrotref08_runes.f : Option Int := none
theorem dryrotref08_runes.info32 : (Tryd.prog.info? 21).map (fun i => (i.zero, i.size, i.bytes)) = some (some (.int .i32 0), 1, 4) := by kernel_rfl
set_option maxHeartbeats 2000000 in
theorem dryrotref08_runes.calls (s : ByteArray) (w : World) (hs : s.size ≤ 35184372088830) : Calls Tryd.prog 57 #[.string s] w fun e w' => ∃ v, e = .returned v ∧ Kd.R (Kd.int .i32) 21 w' w.heap.size (fun _ => True) v (Base.runesOf s) ∧ Below w.heap.size w w' := by
  obtain ⟨R, hR⟩ : ∃ R, Aside0 (Base.runesOf s = R) := ⟨_, ⟨rfl⟩⟩
  rw [hR.out]
  go_enter Tryd.func57, Tryd.ntmps57
  go_wp2
  go_loopw [3] (fun v3 wr => ∃ (pos fuel : Nat) (acc : List Int), wr.heap[w.heap.size]? = some (.stringIter s pos) ∧ Aside0 (Below w.heap.size w wr) ∧ Aside0 (Kd.R (Kd.int .i32) 21 wr w.heap.size (fun k => k ≠ w.heap.size) v3 acc) ∧ Aside0 (acc ++ Base.runesFrom s fuel pos = R) ∧ s.size ≤ fuel + pos ∧ acc.length ≤ pos)
    (fun v3 wr => s.size - wr.iterPos w.heap.size)
  case atStart =>
    refine ⟨0, s.size, [], ?_, ⟨below_alloc (Below.refl _ _) _⟩, ⟨Kd.R_nil _ _ _ _ _⟩, ⟨hR.out⟩, by omega, by simp⟩
    have := World.iter_heap w s 0
    simpa using this
  case round =>
    obtain ⟨pos, fuel, acc, hit, hbw, HR, HE, hfu, hal⟩ := hrel
    by_cases hp : pos < s.size
    · have hnx : ∀ ty, (Instr.next (.pointer (some ⟨w.heap.size, 0, none⟩)) true ty).run Tryd.prog wr = _ := fun ty => Lib.run_next_any_at wr w.heap.size s pos ty hit hp
      have hwd := Base.width_pos s pos hp
      obtain ⟨f, rfl⟩ : ∃ f, fuel = f + 1 := ⟨fuel - 1, by omega⟩
      have hst := Base.runesFrom_step s f pos hp
      obtain ⟨u, hu⟩ : ∃ u : Nat, (Utf8.decode s pos).1 = u := ⟨_, rfl⟩
      obtain ⟨pos2, hpos2⟩ : ∃ q, pos + (Utf8.decode s pos).2 = q := ⟨_, rfl⟩
      rw [hu] at hnx hst
      rw [hpos2] at hnx hst
      rw [hst] at HE
      have hpl : pos < pos2 := by omega
      clear hst hu hpos2 hwd
      have hit2 := Aside0.mk (Lib.iterAt_heap wr w.heap.size s pos pos2 hit)
      have hbw2 : Aside0 (Below w.heap.size w (wr.iterAt w.heap.size s pos2)) := ⟨Lib.below_iterAt hbw.out (Nat.le_refl _) s pos2⟩
      have HR2 : Aside0 (Kd.R (Kd.int .i32) 21 (wr.iterAt w.heap.size s pos2) w.heap.size (fun k => k ≠ w.heap.size) _ acc) := ⟨Kd.R_move HR.out (fun k hk => Lib.iterAt_other wr w.heap.size k s pos2 hk)⟩
      clear HR
      have HLI : Aside0 (w.heap.size < (wr.iterAt w.heap.size s pos2).heap.size) := ⟨(Array.getElem?_eq_some_iff.1 hit2.out).1⟩
      go_wp2_with (
        ((with_reducible refine gate_builtin (b := .append) (xs := #[.tmp 11, .tmp 13]) rfl ?_); at_builtin
         refine Kd.R_append (Kd.int .i32) (w0 := w) w.heap.size rfl (.tmp 11) (.tmp 13) 70 21 (.int .i32 0) 4 rfl Tryd.underlying70 dryrotref08_runes.info32 rfl (by decide) (by decide) _ acc (u : Int) [.int .i32 u] (fun k => k ≠ w.heap.size) (fun _ => False) rfl rfl rfl (fun _ hk => hk.elim) (fun k hk => by have := HLI.out; omega) HR2.out hbw2.out hbw2.out.size (by omega) ?_
         intro vx Wx hRx hBx hgx hatx
         have HRx := Aside0.mk hRx
         have HBx := Aside0.mk hBx
         have HIx : Aside0 (Wx.heap[w.heap.size]? = some (.stringIter s pos2)) := ⟨(hgx.block _ HLI.out (fun e9 => (HR2.out.1 _ e9.symm) rfl)).trans hit2.out⟩
         clear hRx hBx hgx hatx))
      go_roundw
      case rel => exact ⟨pos2, f, acc ++ [(u : Int)], HIx.out, HBx, HRx, ⟨by rw [List.append_assoc]; exact HE.out⟩, by omega, by simp; omega⟩
      case measure =>
        have h9 := HIx.out
        simp only [World.iterPos, h9, hit]
        omega
    · have hnx : ∀ ty, (Instr.next (.pointer (some ⟨w.heap.size, 0, none⟩)) true ty).run Tryd.prog wr = _ := fun ty => Lib.run_next_end_at wr w.heap.size s pos ty hit hp
      have HH : Aside0 (acc = R) := ⟨by
        have h9 := HE.out
        rw [Base.runesFrom_end s fuel pos hp, List.append_nil] at h9
        exact h9⟩
      go_wp2
      go_ret
      exact ⟨_, rfl, by rw [← HH.out]; exact Kd.R_mono HR.out (fun _ _ => trivial), hbw.out⟩

end Go.Proofs.YtgnehcgaplnfkaaDoor.PAll
