-- Written by a program of this seat (wip/tools), out of the translation. Not trusted: Lean checks it.
import Derived.Test.YtgnehcgaplnfkaaDoorPAllx0
import Derived.Test.YtgnehcgaplnfkaaDoorPAllx37
import Derived.Test.YtgnehcgaplnfkaaDoorPAllx38
namespace Go.Proofs.YtgnehcgaplnfkaaDoor.PAll
open Go.RowKit Go.Proofs.YtgnehcgaplnfkaaDoorW.PrintWords Go.Proofs.YtgnehcgaplnfkaaDoorW.PrintLast Go.Proofs.YtgnehcgaplnfkaaDoorW.PrintMore
attribute [local go_sem] max2_int min2_int max_two min_two max_three min_three max_four min_four   -- for this text's walks alone
set_option linter.unusedVariables false
set_option linter.unusedSimpArgs false

/-! ### labels_Name: function 65 -/
-- uses labels_letter labels_digit
def labels_Name.f (a0 : ByteArray) : Option Bool := some (Base.nameB a0)
theorem labels_Name.letter_is (x : Int) : labels_letter.f x = some (Base.letterB x) := by
  unfold labels_letter.f Base.letterB
  by_cases h1 : x = 95
  · simp [h1]
  · rw [if_neg h1]
    by_cases h2 : Go.bits .or .u8 x 32 ≥ 97
    · rw [if_pos h2]
      simp only [ge_iff_le] at h2
      simp [h1, h2]
    · rw [if_neg h2]
      simp only [ge_iff_le] at h2
      simp [h1, h2]
theorem labels_Name.digit_is (x : Int) : labels_digit.f x = some (Base.digitB x) := by
  unfold labels_digit.f Base.digitB
  by_cases h1 : x ≥ 48
  · rw [if_pos h1]
    simp only [ge_iff_le] at h1
    simp [h1]
  · rw [if_neg h1]
    simp only [ge_iff_le] at h1
    simp [h1]
def labels_Name.badB (c : Int) : Bool := !Base.letterB c && !Base.digitB c
set_option maxHeartbeats 400000 in
theorem labels_Name.test (c : Int) (w : World) : Calls Tryd.prog 94 #[.int .u8 c] w fun e w' => e = .returned (.bool (labels_Name.badB c)) ∧ Drawn0 w w' := by
  unfold labels_Name.badB
  cases hl : Base.letterB c with
  | true =>
    go_enter Tryd.func94, Tryd.ntmps94
    go_wp2_with (go_at_call 92; refine (labels_letter.calls _ _ _ (labels_Name.letter_is _)).mono ?_; rintro e W1 ⟨rfl, ⟨nd, rfl⟩⟩)
    go_ret
    exact ⟨rfl, ⟨nd, rfl⟩⟩
  | false =>
    go_enter Tryd.func94, Tryd.ntmps94
    go_wp2_with (first | (go_at_call 92; refine (labels_letter.calls _ _ _ (labels_Name.letter_is _)).mono ?_; rintro e W1 ⟨rfl, ⟨nd, rfl⟩⟩) | (go_at_call 95; refine (labels_digit.calls _ _ _ (labels_Name.digit_is _)).mono ?_; rintro e W2 ⟨rfl, ⟨md, rfl⟩⟩))
    go_ret
    exact ⟨rfl, ⟨_, rfl⟩⟩
set_option maxHeartbeats 1000000 in
theorem labels_Name.index (A : Option Addr) (c : Nat) (l : List Int) (w : World) (hr : Kd.C (Kd.int .u8) w A l.length l) (hm : l.length ≤ 140737488355328) :
    Calls Tryd.prog 114 #[.slice A l.length c, .func (.func 94) #[] #[]] w fun e w' => (∃ i : Int, e = .returned (.int .i64 i) ∧ decide (0 ≤ i) = l.any labels_Name.badB) ∧ Drawn0 w w' := by
  have HR := Aside0.mk hr
  clear hr
  go_enter Tryd.func114, Tryd.ntmps114
  go_wp2
  go_loopg [8] (l.length) (fun kq v8 w' => ∃ (x : Nat), x ≤ l.length ∧ v8 = .int .i64 x ∧ Aside0 ((l.take x).any labels_Name.badB = false) ∧ l.length ≤ kq + x ∧ Drawn0 w w')
  case atStart => exact ⟨0, by omega, rfl, ⟨rfl⟩, by omega, Drawn0.refl _⟩
  case round =>
    obtain ⟨x, hx, rfl, HN, hk, ⟨m1, rfl⟩⟩ := hrel
    by_cases hlt : x < l.length
    · obtain ⟨ad, e, hc⟩ := Kd.at_int HR.out (x : Int) (by omega) (by omega)
      subst e
      have hc2 : w.cell? (ad.add x) = some (.int .u8 (rd l x)) := by simpa using hc
      clear hc
      have htk : l.take (x + 1) = l.take x ++ [rd l x] := by
        rw [List.take_succ_eq_append_getElem hlt]
        simp [rd, List.getD_eq_getElem?_getD, hlt]
      have HT := Aside0.mk htk
      clear htk
      cases hb : labels_Name.badB (rd l x) with
      | true =>
        go_wp2_with (go_at_call 94; refine (labels_Name.test _ _).mono ?_; rintro e W1 ⟨rfl, ⟨nd, rfl⟩⟩)
        go_ret
        refine ⟨⟨_, rfl, ?_⟩, ⟨_, rfl⟩⟩
        have h1 : l.any labels_Name.badB = true := by
          rw [List.any_eq_true]
          refine ⟨rd l x, ?_, hb⟩
          have h2 : rd l x ∈ l.take (x + 1) := by rw [HT.out]; simp
          exact List.mem_of_mem_take h2
        rw [h1]
        simp
      | false =>
        go_wp2_with (go_at_call 94; refine (labels_Name.test _ _).mono ?_; rintro e W1 ⟨rfl, ⟨nd, rfl⟩⟩)
        obtain ⟨g1, rfl⟩ : ∃ g1, gk = g1 + 1 := ⟨gk - 1, by omega⟩
        go_roundg g1
        case rel =>
          refine ⟨x + 1, by omega, by go_num, ⟨?_⟩, by omega, ⟨_, rfl⟩⟩
          rw [HT.out, List.any_append, HN.out]
          simp [hb]
        case measure => omega
    · go_wp2
      go_ret
      refine ⟨⟨_, rfl, ?_⟩, ⟨_, rfl⟩⟩
      have h1 := HN.out
      rw [List.take_of_length_le (by omega)] at h1
      rw [h1]
      simp
theorem labels_Name.contains (A : Option Addr) (c : Nat) (l : List Int) (w : World) (hr : Kd.C (Kd.int .u8) w A l.length l) (hm : l.length ≤ 140737488355328) :
    Calls Tryd.prog 93 #[.slice A l.length c, .func (.func 94) #[] #[]] w fun e w' => e = .returned (.bool (l.any labels_Name.badB)) ∧ Drawn0 w w' := by
  go_enter Tryd.func93, Tryd.ntmps93
  go_wp2_with (go_at_call 114; refine (labels_Name.index _ _ _ _ hr hm).mono ?_; rintro e W1 ⟨⟨i, rfl, hi⟩, ⟨nd, rfl⟩⟩)
  go_ret
  exact ⟨by simp, ⟨_, rfl⟩⟩
theorem labels_Name.contains_n (A : Option Addr) (c n : Nat) (l : List Int) (w : World) (hn : l.length = n) (hr : Kd.C (Kd.int .u8) w A n l) (hm : n ≤ 140737488355328) :
    Calls Tryd.prog 93 #[.slice A n c, .func (.func 94) #[] #[]] w fun e w' => e = .returned (.bool (l.any labels_Name.badB)) ∧ Drawn0 w w' := by
  subst hn
  exact labels_Name.contains A c l w hr hm
set_option maxHeartbeats 1000000 in
theorem labels_Name.calls (a0 : ByteArray) (r : Bool) (w : World) (h : labels_Name.f a0 = some r) :
    Calls Tryd.prog 65 #[.string a0] w fun e w' => e = .returned (.bool r) ∧ Below w.heap.size w w' := by
  obtain rfl : Base.nameB a0 = r := by simpa [labels_Name.f] using h
  clear h
  by_cases h0 : a0.size = 0
  · have he : a0.toList = [] := (Base.toList_nil a0).2 h0
    have hv : Aside0 (Base.nameB a0 = false) := ⟨by simp [Base.nameB, h0]⟩
    have hi : a0.toList.isEmpty = true := by rw [he]; rfl
    clear he h0
    go_enter Tryd.func65, Tryd.ntmps65
    go_wp2
    go_ret
    exact ⟨by rw [hv.out]; rfl, Below.refl _ _⟩
  · have he : a0.toList.isEmpty = false := by
      cases hl : a0.toList with
      | nil => exact absurd ((Base.toList_nil a0).1 hl) h0
      | cons _ _ => rfl
    have hen : ¬ a0.toList = [] := by intro hl; rw [hl] at he; simp at he
    by_cases h24 : a0.size ≤ 24
    · have hp : 0 < a0.size := by omega
      have hbt : ((a0[0]'hp).toNat : Int) = bt a0 0 := by simpa using bt_at a0 0 (by simpa using hp)
      have hh : (bytesOf a0).headD 0 = bt a0 0 := by
        rw [← rd_bytesOf]
        cases bytesOf a0 <;> rfl
      have HH := Aside0.mk hh
      clear hh
      cases hl : Base.letterB (bt a0 0) with
      | false =>
        have hv : Aside0 (Base.nameB a0 = false) := ⟨by unfold Base.nameB; rw [HH.out, hl]; simp⟩
        go_enter Tryd.func65, Tryd.ntmps65
        go_wp2_with (go_at_call 92; refine (labels_letter.calls _ _ _ (labels_Name.letter_is _)).mono ?_; rintro e W1 ⟨rfl, ⟨nd, rfl⟩⟩)
        go_ret
        exact ⟨by rw [hv.out]; rfl, pw_below_drewN (Below.refl _ _) nd⟩
      | true =>
        have kb := fun W => print_bytes (P := Tryd.prog) 9 81 5 Tryd.underlying9 Tryd.underlying81 Tryd.underlying5 a0 W
        have hv : Aside0 (Base.nameB a0 = !(bytesOf a0).any labels_Name.badB) := ⟨by
          have h1 : (bytesOf a0).all (fun c => Base.letterB c || Base.digitB c) = !(bytesOf a0).any labels_Name.badB := by
            rw [List.all_eq_not_any_not]
            congr 2
            funext c
            simp [labels_Name.badB]
          unfold Base.nameB
          rw [HH.out, hl, h1]
          simp [hp, h24]⟩
        go_enter Tryd.func65, Tryd.ntmps65
        go_wp2_with (go_at_call 92; refine (labels_letter.calls _ _ _ (labels_Name.letter_is _)).mono ?_; rintro e W1 ⟨rfl, ⟨nd, rfl⟩⟩)
        have hr := bytes_reads (w.drewN nd) 5 a0 (by omega)
        have hc : Kd.C (Kd.int .u8) (Lib.bytesWorld (w.drewN nd) 5 a0) (some ⟨w.heap.size, 0, none⟩) a0.size (bytesOf a0) := Kd.C_of_reads (d := (0 : Int)) (h1 := fun _ => rfl) hr
        refine (labels_Name.contains_n _ _ _ _ _ (bytesOf_length a0) hc (by omega)).mono ?_
        rintro e W2 ⟨rfl, ⟨md, rfl⟩⟩
        clear hr hc
        go_wp2
        go_ret
        exact ⟨by rw [hv.out]; rfl, pw_below_drewN (bytes_below (pw_below_drewN (Below.refl _ _) nd) (by simp) _ _) md⟩
    · have hv : Aside0 (Base.nameB a0 = false) := ⟨by simp [Base.nameB, h24]⟩
      go_enter Tryd.func65, Tryd.ntmps65
      go_wp2
      go_ret
      exact ⟨by rw [hv.out]; rfl, Below.refl _ _⟩

end Go.Proofs.YtgnehcgaplnfkaaDoor.PAll
