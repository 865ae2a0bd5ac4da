-- Written by a program of this seat (wip/tools), out of the translation. Not trusted: Lean checks it.
import Derived.Test.YtdbbfhmcbogknaaPAllx0
namespace Go.Proofs.Ytdbbfhmcbogknaa.PAll
open Go.RowKit Go.Proofs.YtdbbfhmcbogknaaW.PrintWords Go.Proofs.YtdbbfhmcbogknaaW.PrintLast Go.Proofs.YtdbbfhmcbogknaaW.PrintMore
attribute [local go_sem] max2_int min2_int max_two min_two max_three min_three max_four min_four   -- for this text's walks alone
set_option linter.unusedVariables false
set_option linter.unusedSimpArgs false

/-! ### dryrotref07_Piece: function 39 -/
def dryrotref07_Piece.one : List Int → Option (ByteArray × List Int)
  | [] => none
  | c :: r => if c ≤ (r.length : Int) then some (strOfNums (r.take c.toNat), r.drop c.toNat) else none
def dryrotref07_Piece.f (l0 : List Int) : Option (ByteArray × List Int × Bool) := match dryrotref07_Piece.one l0 with
  | none => some ((⟨#[]⟩ : ByteArray), ([] : List Int), false)
  | some (s, r) => some (s, r, true)
theorem dryrotref07_Piece.one_cons {mb : Nat} {rb : List Int} (h : mb ≤ rb.length) : dryrotref07_Piece.one ((mb : Int) :: rb) = some (strOfNums (rb.take mb), rb.drop mb) := by
  simp only [dryrotref07_Piece.one]
  rw [if_pos (by omega)]
  rfl
theorem dryrotref07_Piece.head {cb : Int} {rb : List Int} (h : (cb :: rb).all (fun c => decide (0 ≤ c) && decide (c < 256)) = true) : ∃ mb : Nat, cb = (mb : Int) ∧ mb < 256 := by
  simp only [Bool.and_eq_true, List.all_cons, decide_eq_true_eq] at h
  exact ⟨cb.toNat, by omega, by omega⟩
set_option maxHeartbeats 4000000 in
set_option maxRecDepth 100000 in
theorem dryrotref07_Piece.calls_none (A0 : Option Addr) (c0 : Nat) (l0 : List Int) (w : World) (hr0 : Kd.C (Kd.int .u8) w A0 l0.length l0) (hc0 : l0.length ≤ c0) (hl : l0.length ≤ 140737488355328) (hb : l0.all (fun c => decide (0 ≤ c) && decide (c < 256)) = true) (h : dryrotref07_Piece.one l0 = none) :
    Calls Try.prog 39 #[.slice A0 l0.length c0] w fun e w' => e = .returned (.tuple #[.string ⟨#[]⟩, .slice none 0 0, .bool false]) ∧ Below w.heap.size w w' := by
  have HB := Aside0.mk hb
  clear hb
  have H := Aside0.mk h
  clear h
  cases l0 with
  | nil =>
    clear hr0
    go_enter Try.func39, Try.ntmps39
    go_wp2
    repeat (go_quiet (fail); try go_wp2)
    go_ret3
    exact ⟨rfl, Below.refl _ _⟩
  | cons cb rb =>
    obtain ⟨mb, hmb, hmb2⟩ := dryrotref07_Piece.head HB.out
    subst hmb
    have hlt : rb.length < mb := by
      rcases Nat.lt_or_ge rb.length mb with h1 | h1
      · exact h1
      · have := H.out
        rw [dryrotref07_Piece.one_cons h1] at this
        cases this
    obtain ⟨ae, e, hx⟩ := Kd.at_int hr0 0 (by omega) (by simp)
    subst e
    have hx0 : w.cell? ae = some (.int .u8 (mb : Int)) := by simpa [rd, Addr.add] using hx
    clear hx hr0 H HB
    simp only [List.length_cons] at hc0 hl
    go_enter Try.func39, Try.ntmps39
    go_wp2
    repeat (go_quiet (fail); try go_wp2)
    go_ret3
    exact ⟨rfl, by repeat (first | exact Below.refl _ _ | apply below_drew1 | apply pw_below_drewN)⟩
set_option maxHeartbeats 4000000 in
set_option maxRecDepth 100000 in
theorem dryrotref07_Piece.calls_some (A0 : Option Addr) (c0 mb : Nat) (rb : List Int) (w : World) (hr0 : Kd.C (Kd.int .u8) w A0 ((mb : Int) :: rb).length ((mb : Int) :: rb)) (hc0 : ((mb : Int) :: rb).length ≤ c0) (hl : rb.length + 1 ≤ 140737488355328) (hm : mb < 256) (hle : mb ≤ rb.length) :
    Calls Try.prog 39 #[.slice A0 ((mb : Int) :: rb).length c0] w fun e w' => ∃ A' c', e = .returned (.tuple #[.string (strOfNums (rb.take mb)), .slice A' (rb.drop mb).length c', .bool true]) ∧ (rb.drop mb).length ≤ c' ∧ (∀ W, Kd.C (Kd.int .u8) W A0 ((mb : Int) :: rb).length ((mb : Int) :: rb) → Kd.C (Kd.int .u8) W A' (rb.drop mb).length (rb.drop mb)) ∧ Below w.heap.size w w' := by
  obtain ⟨ae, e, hx⟩ := Kd.at_int hr0 0 (by omega) (by simp)
  subst e
  have hx0 : w.cell? ae = some (.int .u8 (mb : Int)) := by simpa [rd, Addr.add] using hx
  clear hx
  have hcl : rb.length + 1 ≤ c0 := by simpa using hc0
  have hA3 : Aside0 (Kd.C (Kd.int .u8) w (if c0 = 1 then some ae else some ⟨ae.block, ae.off + 1, none⟩) mb (rb.take mb)) := ⟨by
    have hd := Kd.C_drop (m := 1) (c := c0) hr0 (by simp) (by simpa using hcl)
    have hsz : (Kd.int .u8).sz = 1 := rfl
    have hd2 := Kd.C_take (m := mb) hd (by simpa using hle)
    have hl3 : (rb.take mb).length = mb := by rw [List.length_take]; omega
    simp only [List.drop_succ_cons, List.drop_zero] at hd2
    rw [hl3] at hd2
    by_cases h9 : c0 = 1
    · simpa [h9, hsz, Addr.add] using hd2
    · simpa [h9, hsz, Addr.add] using hd2⟩
  have hA4 : Aside0 (∀ W, Kd.C (Kd.int .u8) W (some ae) ((mb : Int) :: rb).length ((mb : Int) :: rb) → Kd.C (Kd.int .u8) W (if c0 = 1 + mb then some ae else some (ae.add (1 + mb))) (rb.drop mb).length (rb.drop mb)) := ⟨by
    intro W hrW
    have hd := Kd.C_drop (m := 1 + mb) (c := c0) hrW (by simp; omega) (by simpa using hcl)
    have hsz : (Kd.int .u8).sz = 1 := rfl
    rw [show 1 + mb = mb + 1 by omega, List.drop_succ_cons, hsz, Nat.mul_one] at hd
    rw [show 1 + mb = mb + 1 by omega]
    exact hd⟩
  clear hr0
  obtain ⟨A1, hA1⟩ : ∃ A1, Aside0 ((if c0 = 1 then some ae else some ⟨ae.block, ae.off + 1, none⟩) = A1) := ⟨_, ⟨rfl⟩⟩
  obtain ⟨A2, hA2⟩ : ∃ A2, Aside0 ((if c0 = 1 + mb then some ae else some (ae.add (1 + mb))) = A2) := ⟨_, ⟨rfl⟩⟩
  rw [hA1.out] at hA3
  rw [hA2.out] at hA4
  have e5 : (1 + (mb : Int)).toNat = 1 + mb := by omega
  simp only [List.length_cons]
  have f0 : (0 : Int) ≤ 1 + (mb : Int) := by omega
  have f1 : 1 + (mb : Int) ≤ (c0 : Int) := by omega
  have f2 : (1 : Int) ≤ max (1 + (mb : Int)) 0 := by omega
  have f3 : 1 + (mb : Int) ≤ (rb.length : Int) + 1 := by omega
  have f4 : (1 : Int) ≤ 1 + (mb : Int) := by omega
  have hlt2 : ¬ rb.length < mb := by omega
  have hw64 : wrap64 (1 + (mb : Int)) = 1 + (mb : Int) := by unfold wrap64; omega
  go_enter Try.func39, Try.ntmps39
  go_wp2
  repeat (go_quiet (fail); try go_wp2)
  -- REGION
  refine start_ (n := 12) (S := fun w' => Kd.C (Kd.int .u8) w' _ mb (rb.take mb)) (ds := []) #[false, false, false, false, false, false, false, false, false, false, false, false] (by kernel_rfl) rfl rfl (Kd.C_below hA3.out (below_drew1 (Below.refl _ _))) (fun hHeld => ?_)
  refine pure_ (i := 0) (N := some 23) (v := ?_) (a' := ?_) #[true, false, false, false, false, false, false, false, false, false, false, false] rfl rfl (by kernel_rfl) (fun _ _ _ h => h) (Or.inl ⟨by rfl, ?_⟩) ?_ ?_
  rotate_left
  · intro w'
    go_simp
    with_reducible rfl
  rotate_left
  · simp only [Act.put, List.setIfInBounds_toArray, List.set_cons_zero, List.set_cons_succ, i64_w, i32_w, hw64]
    rfl
  refine pure_ (i := 1) (N := some 24) (v := ?_) (a' := ?_) #[true, true, false, false, false, false, false, false, false, false, false, false] rfl rfl (by kernel_rfl) (fun _ _ _ h => h) (Or.inl ⟨by rfl, ?_⟩) ?_ ?_
  rotate_left
  · intro w'
    go_simp
    with_reducible rfl
  rotate_left
  · simp only [Act.put, List.setIfInBounds_toArray, List.set_cons_zero, List.set_cons_succ, i64_w, i32_w, hw64]
    rfl
  refine pure_ (i := 2) (N := some 25) (v := ?_) (a' := ?_) #[true, true, true, false, false, false, false, false, false, false, false, false] rfl rfl (by kernel_rfl) (fun _ _ _ h => h) (Or.inl ⟨by rfl, ?_⟩) ?_ ?_
  rotate_left
  · intro w'
    go_simp
    with_reducible rfl
  rotate_left
  · simp only [Act.put, List.setIfInBounds_toArray, List.set_cons_zero, List.set_cons_succ, i64_w, i32_w, hw64]
    rfl
  refine pure_ (i := 5) (N := some 28) (v := ?_) (a' := ?_) #[true, true, true, false, false, true, false, false, false, false, false, false] rfl rfl (by kernel_rfl) (fun _ _ _ h => h) (Or.inl ⟨by rfl, ?_⟩) ?_ ?_
  rotate_left
  · intro w'
    go_simp
    with_reducible rfl
  rotate_left
  · simp only [Act.put, List.setIfInBounds_toArray, List.set_cons_zero, List.set_cons_succ, i64_w, i32_w, hw64]
    rfl
  refine pure_ (i := 6) (N := some 29) (v := ?_) (a' := ?_) #[true, true, true, false, false, true, true, false, false, false, false, false] rfl rfl (by kernel_rfl) (fun _ _ _ h => h) (Or.inl ⟨by rfl, ?_⟩) ?_ ?_
  rotate_left
  · intro w'
    go_simp
    with_reducible rfl
  rotate_left
  · simp only [Act.put, List.setIfInBounds_toArray, List.set_cons_zero, List.set_cons_succ, i64_w, i32_w, hw64]
    rfl
  refine pure_ (i := 7) (N := some 30) (v := ?_) (a' := ?_) #[true, true, true, false, false, true, true, true, false, false, false, false] rfl rfl (by kernel_rfl) (fun _ _ _ h => h) (Or.inl ⟨by rfl, ?_⟩) ?_ ?_
  rotate_left
  · intro w'
    go_simp
    with_reducible rfl
  rotate_left
  · simp only [Act.put, List.setIfInBounds_toArray, List.set_cons_zero, List.set_cons_succ, i64_w, i32_w, hw64]
    rfl
  refine pure_ (i := 3) (N := some 26) (v := ?_) (a' := ?_) #[true, true, true, true, false, true, true, true, false, false, false, false] rfl rfl (by kernel_rfl) (fun _ _ _ h => h) (Or.inl ⟨by rfl, ?_⟩) ?_ ?_
  rotate_left
  · intro w'
    go_simp
    rw [hA1.out]
    (try with_reducible rfl)
  rotate_left
  · simp only [Act.put, List.setIfInBounds_toArray, List.set_cons_zero, List.set_cons_succ, i64_w, i32_w, hw64]
    rfl
  refine pure_ (i := 8) (N := some 31) (v := ?_) (a' := ?_) #[true, true, true, true, false, true, true, true, true, false, false, false] rfl rfl (by kernel_rfl) (fun _ _ _ h => h) (Or.inl ⟨by rfl, ?_⟩) ?_ ?_
  rotate_left
  · intro w'
    go_simp
    rw [hA2.out]
    (try with_reducible rfl)
  rotate_left
  · simp only [Act.put, List.setIfInBounds_toArray, List.set_cons_zero, List.set_cons_succ, i64_w, i32_w, hw64]
    rfl
  refine take_ (i := 4) (N := some 27) (v := ?_) (a' := ?_) #[true, true, true, true, true, true, true, true, true, false, false, false] rfl rfl (by kernel_rfl) (fun _ _ _ h => h) (Or.inl ⟨by rfl, ?_⟩) hHeld ?_ ?_
  rotate_left
  · rintro w' hS'
    go_simp
    (try rw [show (1 + (mb : Int)).toNat - 1 = mb by omega])
    (try rw [Kd.C_string (P := Try.prog) Try.underlying29 Try.underlying5 Try.underlying9 hS'])
    rw [Result.andThen_ok]
  rotate_left
  · simp only [Act.put, List.setIfInBounds_toArray, List.set_cons_zero, List.set_cons_succ, i64_w, i32_w, hw64]
    rfl
  refine pure_ (i := 9) (N := some 2) (v := ?_) (a' := ?_) #[true, true, true, true, true, true, true, true, true, true, false, false] rfl rfl (by kernel_rfl) (fun _ _ _ h => h) (Or.inl ⟨by rfl, ?_⟩) ?_ ?_
  rotate_left
  · intro w'
    go_simp
    with_reducible rfl
  rotate_left
  · simp only [Act.put, List.setIfInBounds_toArray, List.set_cons_zero, List.set_cons_succ, i64_w, i32_w, hw64]
    rfl
  refine pure_ (i := 10) (N := some 3) (v := ?_) (a' := ?_) #[true, true, true, true, true, true, true, true, true, true, true, false] rfl rfl (by kernel_rfl) (fun _ _ _ h => h) (Or.inl ⟨by rfl, ?_⟩) ?_ ?_
  rotate_left
  · intro w'
    go_simp
    with_reducible rfl
  rotate_left
  · simp only [Act.put, List.setIfInBounds_toArray, List.set_cons_zero, List.set_cons_succ, i64_w, i32_w, hw64]
    rfl
  refine pure_ (i := 11) (N := some 4) (v := ?_) (a' := ?_) #[true, true, true, true, true, true, true, true, true, true, true, true] rfl rfl (by kernel_rfl) (fun _ _ _ h => h) (Or.inl ⟨by rfl, ?_⟩) ?_ ?_
  rotate_left
  · intro w'
    go_simp
    with_reducible rfl
  rotate_left
  · simp only [Act.put, List.setIfInBounds_toArray, List.set_cons_zero, List.set_cons_succ, i64_w, i32_w, hw64]
    rfl
  refine done_ (by kernel_rfl) ?_
  try go_wp2
  go_ret3
  refine ⟨A2, c0 - (1 + mb), ?_, ?_, hA4.out, below_drew1 (Below.refl _ _)⟩
  · have e6 : rb.length + 1 - (1 + mb) = (rb.drop mb).length := by rw [List.length_drop]; omega
    rw [e6]
    rfl
  · rw [List.length_drop]; omega
theorem dryrotref07_Piece.calls_nil (w : World) : Calls Try.prog 39 #[.slice none 0 0] w fun e w' => e = .returned (.tuple #[.string ⟨#[]⟩, .slice none 0 0, .bool false]) ∧ Below w.heap.size w w' :=
  dryrotref07_Piece.calls_none none 0 [] w ⟨rfl, Nat.zero_le _, fun h => absurd h (by simp)⟩ (Nat.le_refl _) (by decide) rfl rfl
theorem dryrotref07_Piece.one_some {bs b1 : List Int} {s : ByteArray} (h : dryrotref07_Piece.one bs = some (s, b1)) : b1.length ≤ bs.length ∧ (bs.all (fun c => decide (0 ≤ c) && decide (c < 256)) = true → b1.all (fun c => decide (0 ≤ c) && decide (c < 256)) = true) := by
  cases bs with
  | nil => cases h
  | cons c r =>
    simp only [dryrotref07_Piece.one] at h
    split at h
    · obtain ⟨_, rfl⟩ := Prod.mk.inj (Option.some.inj h)
      refine ⟨by rw [List.length_drop, List.length_cons]; omega, fun h1 => ?_⟩
      simp only [List.all_cons, Bool.and_eq_true] at h1
      exact List.all_eq_true.2 (fun x hx => List.all_eq_true.1 h1.2 x (List.mem_of_mem_drop hx))
    · cases h
theorem dryrotref07_Piece.calls_one (A0 : Option Addr) (c0 : Nat) (l0 : List Int) (s : ByteArray) (b1 : List Int) (w : World) (hr0 : Kd.C (Kd.int .u8) w A0 l0.length l0) (hc0 : l0.length ≤ c0) (hl : l0.length ≤ 140737488355328) (hb : l0.all (fun c => decide (0 ≤ c) && decide (c < 256)) = true) (h : dryrotref07_Piece.one l0 = some (s, b1)) :
    Calls Try.prog 39 #[.slice A0 l0.length c0] w fun e w' => ∃ A' c', e = .returned (.tuple #[.string s, .slice A' b1.length c', .bool true]) ∧ b1.length ≤ c' ∧ (∀ W, Kd.C (Kd.int .u8) W A0 l0.length l0 → Kd.C (Kd.int .u8) W A' b1.length b1) ∧ Below w.heap.size w w' := by
  cases l0 with
  | nil => cases h
  | cons cb rb =>
    obtain ⟨mb, hmb, hmb2⟩ := dryrotref07_Piece.head hb
    subst hmb
    have hle : mb ≤ rb.length := by
      rcases Nat.lt_or_ge rb.length mb with h1 | h1
      · simp only [dryrotref07_Piece.one] at h
        rw [if_neg (by omega)] at h
        cases h
      · exact h1
    rw [dryrotref07_Piece.one_cons hle] at h
    obtain ⟨h1, h2⟩ := Prod.mk.inj (Option.some.inj h)
    subst h1 h2
    exact dryrotref07_Piece.calls_some A0 c0 mb rb w hr0 hc0 (by simpa using hl) hmb2 hle

end Go.Proofs.Ytdbbfhmcbogknaa.PAll
