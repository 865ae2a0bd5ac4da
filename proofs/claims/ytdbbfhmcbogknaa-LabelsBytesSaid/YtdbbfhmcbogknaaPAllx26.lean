-- Written by a program of this seat (wip/tools), out of the translation. Not trusted: Lean checks it.
import Derived.Test.YtdbbfhmcbogknaaPAllx0
namespace Go.Proofs.Ytdbbfhmcbogknaa.PAll
open Go.RowKit Go.Proofs.YtdbbfhmcbogknaaW.PrintWords Go.Proofs.YtdbbfhmcbogknaaW.PrintLast Go.Proofs.YtdbbfhmcbogknaaW.PrintMore
attribute [local go_sem] max2_int min2_int max_two min_two max_three min_three max_four min_four   -- for this text's walks alone
set_option linter.unusedVariables false
set_option linter.unusedSimpArgs false

/-! ### slices_Clone_byte_byte: function 18 -/
def slices_Clone_byte_byte.f (l0 : List Int) : Option (List Int) := if l0.length ≤ 140737488355328 then some l0 else none
theorem slices_Clone_byte_byte.info : (Try.prog.info? 5).map (fun i => (i.zero, i.size, i.bytes)) = some (some (.int .u8 0), 1, 1) := by kernel_rfl
set_option maxHeartbeats 1000000 in
theorem slices_Clone_byte_byte.calls (A0 : Option Addr) (c0 : Nat) (l0 : List Int) (r : List Int) (w : World) (hr0 : Kd.C (Kd.int .u8) w A0 l0.length l0) (hc0 : l0.length ≤ c0) (h : slices_Clone_byte_byte.f l0 = some r) :
    Calls Try.prog 18 #[.slice A0 l0.length c0] w fun e w' => ∃ v0_ : Value, e = .returned (v0_) ∧ Kd.R (Kd.int .u8) 5 w' w.heap.size (fun _ => True) v0_ r ∧ Below w.heap.size w w' := by
  unfold slices_Clone_byte_byte.f at h
  by_cases hm : l0.length ≤ 140737488355328
  · rw [if_pos hm] at h
    obtain rfl := Option.some.inj h
    clear h
    have HR := Aside0.mk hr0
    clear hr0
    cases hA : A0 with
    | none =>
      rw [hA] at HR
      have h0 : l0 = [] := by
        cases l0 with
        | nil => rfl
        | cons x q => obtain ⟨ad, e, _⟩ := HR.out.2.2 (by simp); cases e
      subst h0
      have hnil : ∀ W, (binOp .eql 29 (.slice none 0 c0) (.slice none 0 0)).run Try.prog W = .ok (.bool true) W := fun W => Lib.run_eql_slice_nil W 29 5 none 0 c0 0 0 Try.underlying29
      show Calls Try.prog 18 #[.slice none 0 c0] w _
      go_enter Try.func18, Try.ntmps18
      go_wp2
      go_ret
      exact ⟨_, rfl, Kd.R_nil _ _ _ _ _, Below.refl _ _⟩
    | some ad =>
      rw [hA] at HR
      have hnil : ∀ W, (binOp .eql 29 (.slice (some ad) l0.length c0) (.slice none 0 0)).run Try.prog W = .ok (.bool false) W := fun W => Lib.run_eql_slice_nil W 29 5 (some ad) l0.length c0 0 0 Try.underlying29
      have ho0 := own_made w w.heap.size 5 .u8 0 (Nat.le_refl _) (by omega)
      rw [show madeCells #[Value.int .u8 0] 0 = #[] from by simp [madeCells]] at ho0
      have HO : Aside0 ((Kd.int .u8).R 5 (w.alloc (.cells #[] 5)) w.heap.size (fun _ => True) (.slice (some ⟨w.heap.size, 0, none⟩) 0 0) []) := ⟨Kd.R_of_own ho0 (fun _ _ => trivial)⟩
      have HC : Aside0 ((Kd.int .u8).C (w.alloc (.cells #[] 5)) (some ad) l0.length l0) := ⟨Kd.C_below HR.out ((Below.refl _ w).alloc (Nat.le_refl _) _)⟩
      clear ho0
      go_enter Try.func18, Try.ntmps18
      go_wp2_with (at_builtin; refine Kd.R_append_row (w0 := w) (Value.int .u8) (0 : Int) (h1 := fun _ => rfl) w.heap.size rfl (.tmp 5) (.tmp 6) 29 5 (.int .u8 0) 1 rfl Try.underlying29 slices_Clone_byte_byte.info rfl (by decide) _ [] l0 (some ad) l0.length c0 (fun _ => True) rfl rfl (fun _ _ => trivial) HO.out HC.out ((Below.refl _ w).alloc (Nat.le_refl _) _) (by simp) ?_ ?_)
      · simpa using hm
      · intro v1 w1 hR hB _ _
        have HR1 := Aside0.mk hR
        clear hR
        go_wp2
        go_ret
        exact ⟨_, rfl, HR1.out, hB⟩
  · rw [if_neg hm] at h
    exact absurd h (by simp)

end Go.Proofs.Ytdbbfhmcbogknaa.PAll
