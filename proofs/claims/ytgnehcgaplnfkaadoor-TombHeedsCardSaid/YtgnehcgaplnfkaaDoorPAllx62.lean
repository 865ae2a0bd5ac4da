-- Written by a program of this seat (wip/tools), out of the translation. Not trusted: Lean checks it.
import Derived.Test.YtgnehcgaplnfkaaDoorPAllx0
namespace Go.Proofs.YtgnehcgaplnfkaaDoor.PAll
open Go.RowKit Go.Proofs.YtgnehcgaplnfkaaDoorW.PrintWords Go.Proofs.YtgnehcgaplnfkaaDoorW.PrintLast Go.Proofs.YtgnehcgaplnfkaaDoorW.PrintMore
attribute [local go_sem] max2_int min2_int max_two min_two max_three min_three max_four min_four   -- for this text's walks alone
set_option linter.unusedVariables false
set_option linter.unusedSimpArgs false

/-! ### crc_Put: function 72 -/
def crc_Put.at (n : Int) (i : Nat) : Int := (n / 2 ^ (8 * i)) % 256
/-- A number in so many bytes, the highest first. -/
def crc_Put.put (n : Int) : Nat → List Int
  | 0 => []
  | m + 1 => crc_Put.at n m :: crc_Put.put n m
def crc_Put.f (a0 a1 : Int) : Option (List Int) := if a1 = 4 ∨ a1 = 8 ∨ a1 = 2 then some (crc_Put.put a0 a1.toNat) else none
theorem crc_Put.info : (Tryd.prog.info? 5).map (fun i => (i.zero, i.size, i.bytes)) = some (some (.int .u8 0), 1, 1) := by kernel_rfl
theorem crc_Put.put2 (a0 : Int) : crc_Put.put a0 2 = [a0 / 256 % 256, a0 % 256] := by
  simp [crc_Put.put, crc_Put.at]
set_option maxHeartbeats 4000000 in
set_option maxRecDepth 100000 in
theorem crc_Put.calls2 (a0 : Int) (w : World) : Calls Tryd.prog 72 #[.int .u64 a0, .int .i64 2] w fun e w' => ∃ v : Value, e = .returned v ∧ Kd.R (Kd.int .u8) 5 w' w.heap.size (fun _ => True) v (crc_Put.put a0 2) ∧ Below w.heap.size w w' := by
  have hm : ∀ W : World, (Instr.makeSlice 81 (.int .i64 2) (.int .i64 2)).run Tryd.prog W = .ok (.slice (some ⟨W.heap.size, 0, none⟩) 2 2) (W.alloc (.cells #[.int .u8 0, .int .u8 0] 5)) := fun W => by
    have h := print_make (P := Tryd.prog) 81 5 .u8 1 Tryd.underlying81 crc_Put.info (by decide) 2 (by decide) W
    rw [show madeCells #[Value.int .u8 0] 2 = #[.int .u8 0, .int .u8 0] from by kernel_rfl] at h
    exact h
  have HO : Aside0 (Kd.R (Kd.int .u8) 5 (w.alloc (.cells #[.int .u8 (a0 / 256 % 256), .int .u8 (a0 % 256)] 5)) w.heap.size (fun _ => True) (.slice (some ⟨w.heap.size, 0, none⟩) 2 2) (crc_Put.put a0 2)) := ⟨by
    rw [crc_Put.put2]
    exact Kd.R_of_own (own_lit w w.heap.size 5 .u8 [a0 / 256 % 256, a0 % 256] (Nat.le_refl _) (by simp)) (fun _ _ => trivial)⟩
  go_enter Tryd.func72, Tryd.ntmps72
  go_wp2
  repeat (first
    | (refine wp_loop_rounds 3 ?_; rw [rounds_succ]; go_wp2)
    | (rw [rounds_succ]; go_wp2))
  go_ret
  exact ⟨_, rfl, HO.out, below_alloc (Below.refl _ _) _⟩
theorem crc_Put.put4 (a0 : Int) : crc_Put.put a0 4 = [a0 / 16777216 % 256, a0 / 65536 % 256, a0 / 256 % 256, a0 % 256] := by
  simp [crc_Put.put, crc_Put.at]
set_option maxHeartbeats 4000000 in
set_option maxRecDepth 100000 in
theorem crc_Put.calls4 (a0 : Int) (w : World) : Calls Tryd.prog 72 #[.int .u64 a0, .int .i64 4] w fun e w' => ∃ v : Value, e = .returned v ∧ Kd.R (Kd.int .u8) 5 w' w.heap.size (fun _ => True) v (crc_Put.put a0 4) ∧ Below w.heap.size w w' := by
  have hm : ∀ W : World, (Instr.makeSlice 81 (.int .i64 4) (.int .i64 4)).run Tryd.prog W = .ok (.slice (some ⟨W.heap.size, 0, none⟩) 4 4) (W.alloc (.cells #[.int .u8 0, .int .u8 0, .int .u8 0, .int .u8 0] 5)) := fun W => by
    have h := print_make (P := Tryd.prog) 81 5 .u8 1 Tryd.underlying81 crc_Put.info (by decide) 4 (by decide) W
    rw [show madeCells #[Value.int .u8 0] 4 = #[.int .u8 0, .int .u8 0, .int .u8 0, .int .u8 0] from by kernel_rfl] at h
    exact h
  have HO : Aside0 (Kd.R (Kd.int .u8) 5 (w.alloc (.cells #[.int .u8 (a0 / 16777216 % 256), .int .u8 (a0 / 65536 % 256), .int .u8 (a0 / 256 % 256), .int .u8 (a0 % 256)] 5)) w.heap.size (fun _ => True) (.slice (some ⟨w.heap.size, 0, none⟩) 4 4) (crc_Put.put a0 4)) := ⟨by
    rw [crc_Put.put4]
    exact Kd.R_of_own (own_lit w w.heap.size 5 .u8 [a0 / 16777216 % 256, a0 / 65536 % 256, a0 / 256 % 256, a0 % 256] (Nat.le_refl _) (by simp)) (fun _ _ => trivial)⟩
  go_enter Tryd.func72, Tryd.ntmps72
  go_wp2
  repeat (first
    | (refine wp_loop_rounds 5 ?_; rw [rounds_succ]; go_wp2)
    | (rw [rounds_succ]; go_wp2))
  go_ret
  exact ⟨_, rfl, HO.out, below_alloc (Below.refl _ _) _⟩
theorem crc_Put.put8 (a0 : Int) : crc_Put.put a0 8 = [a0 / 72057594037927936 % 256, a0 / 281474976710656 % 256, a0 / 1099511627776 % 256, a0 / 4294967296 % 256, a0 / 16777216 % 256, a0 / 65536 % 256, a0 / 256 % 256, a0 % 256] := by
  simp [crc_Put.put, crc_Put.at]
set_option maxHeartbeats 4000000 in
set_option maxRecDepth 100000 in
theorem crc_Put.calls8 (a0 : Int) (w : World) : Calls Tryd.prog 72 #[.int .u64 a0, .int .i64 8] w fun e w' => ∃ v : Value, e = .returned v ∧ Kd.R (Kd.int .u8) 5 w' w.heap.size (fun _ => True) v (crc_Put.put a0 8) ∧ Below w.heap.size w w' := by
  have hm : ∀ W : World, (Instr.makeSlice 81 (.int .i64 8) (.int .i64 8)).run Tryd.prog W = .ok (.slice (some ⟨W.heap.size, 0, none⟩) 8 8) (W.alloc (.cells #[.int .u8 0, .int .u8 0, .int .u8 0, .int .u8 0, .int .u8 0, .int .u8 0, .int .u8 0, .int .u8 0] 5)) := fun W => by
    have h := print_make (P := Tryd.prog) 81 5 .u8 1 Tryd.underlying81 crc_Put.info (by decide) 8 (by decide) W
    rw [show madeCells #[Value.int .u8 0] 8 = #[.int .u8 0, .int .u8 0, .int .u8 0, .int .u8 0, .int .u8 0, .int .u8 0, .int .u8 0, .int .u8 0] from by kernel_rfl] at h
    exact h
  have HO : Aside0 (Kd.R (Kd.int .u8) 5 (w.alloc (.cells #[.int .u8 (a0 / 72057594037927936 % 256), .int .u8 (a0 / 281474976710656 % 256), .int .u8 (a0 / 1099511627776 % 256), .int .u8 (a0 / 4294967296 % 256), .int .u8 (a0 / 16777216 % 256), .int .u8 (a0 / 65536 % 256), .int .u8 (a0 / 256 % 256), .int .u8 (a0 % 256)] 5)) w.heap.size (fun _ => True) (.slice (some ⟨w.heap.size, 0, none⟩) 8 8) (crc_Put.put a0 8)) := ⟨by
    rw [crc_Put.put8]
    exact Kd.R_of_own (own_lit w w.heap.size 5 .u8 [a0 / 72057594037927936 % 256, a0 / 281474976710656 % 256, a0 / 1099511627776 % 256, a0 / 4294967296 % 256, a0 / 16777216 % 256, a0 / 65536 % 256, a0 / 256 % 256, a0 % 256] (Nat.le_refl _) (by simp)) (fun _ _ => trivial)⟩
  go_enter Tryd.func72, Tryd.ntmps72
  go_wp2
  repeat (first
    | (refine wp_loop_rounds 9 ?_; rw [rounds_succ]; go_wp2)
    | (rw [rounds_succ]; go_wp2))
  go_ret
  exact ⟨_, rfl, HO.out, below_alloc (Below.refl _ _) _⟩
theorem crc_Put.calls (a0 a1 : Int) (r : List Int) (w : World) (h : crc_Put.f a0 a1 = some r) : Calls Tryd.prog 72 #[.int .u64 a0, .int .i64 a1] w fun e w' => ∃ v0_ : Value, e = .returned (v0_) ∧ Kd.R (Kd.int .u8) 5 w' w.heap.size (fun _ => True) v0_ r ∧ Below w.heap.size w w' := by
  unfold crc_Put.f at h
  split at h
  · rename_i hc
    obtain rfl := Option.some.inj h
    rcases hc with rfl | rfl | rfl
    · exact crc_Put.calls4 a0 w
    · exact crc_Put.calls8 a0 w
    · exact crc_Put.calls2 a0 w
  · cases h

end Go.Proofs.YtgnehcgaplnfkaaDoor.PAll
