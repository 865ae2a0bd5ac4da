-- Written by a program of this seat (wip/tools), out of the translation. Not trusted: Lean checks it.
import Derived.Test.YtgnehcgaplnfkaaDoorPAllx0
import Derived.Test.YtgnehcgaplnfkaaDoorPAllx2
import Derived.Test.YtgnehcgaplnfkaaDoorPAllx3
import Derived.Test.YtgnehcgaplnfkaaDoorPAllx20
import Derived.Test.YtgnehcgaplnfkaaDoorPAllx22
import Derived.Test.YtgnehcgaplnfkaaDoorPAllx24
namespace Go.Proofs.YtgnehcgaplnfkaaDoor.PAll
open Go.RowKit Go.Proofs.YtgnehcgaplnfkaaDoorW.PrintWords Go.Proofs.YtgnehcgaplnfkaaDoorW.PrintLast Go.Proofs.YtgnehcgaplnfkaaDoorW.PrintMore
attribute [local go_sem] max2_int min2_int max_two min_two max_three min_three max_four min_four   -- for this text's walks alone
set_option linter.unusedVariables false
set_option linter.unusedSimpArgs false

/-! ### dryrotlaw08_RegexEither: function 4 -/
noncomputable def dryrotlaw08_RegexEither.j0 : Nat → ByteArray → ByteArray → ByteArray → Bool → Int → Bool → Int → Bool → Option (Bool)
  | 0, _, _, _, _, _, _, _, _ => none
  | k + 1, x0, x1, x2, x7, x8, x9, x10, x42 => if x42 = true then ((regex_Check.f x0).bind fun t113 => (if t113 = x8 then ((regex_Check.f x1).bind fun t114 => (if t114 = x10 then ((dryrotlaw08_awake.f).bind fun t115 => (some t115)) else (some false))) else (some false))) else (if 1 + x0.size ≤ 9223372036854775807 then (if ((⟨#[40]⟩ : ByteArray) ++ x0).size + 3 ≤ 9223372036854775807 then (if (((⟨#[40]⟩ : ByteArray) ++ x0) ++ (⟨#[41, 124, 40]⟩ : ByteArray)).size + x1.size ≤ 9223372036854775807 then (if ((((⟨#[40]⟩ : ByteArray) ++ x0) ++ (⟨#[41, 124, 40]⟩ : ByteArray)) ++ x1).size + 1 ≤ 9223372036854775807 then ((regex_Match.f (((((⟨#[40]⟩ : ByteArray) ++ x0) ++ (⟨#[41, 124, 40]⟩ : ByteArray)) ++ x1) ++ (⟨#[41]⟩ : ByteArray)) x2).bind fun bt116 => (if bt116.2 = 0 then (if x7 = true then (if (bt116.1 == true) = true then ((dryrotlaw08_awake.f).bind fun t118 => (some t118)) else (some false)) else (if (bt116.1 == x9) = true then ((dryrotlaw08_awake.f).bind fun t119 => (some t119)) else (some false))) else ((dryrotlaw08_awake.f).bind fun t120 => (some t120)))) else (none)) else (none)) else (none)) else (none))
noncomputable def dryrotlaw08_RegexEither.f (k : Nat) (a0 : ByteArray) (a1 : ByteArray) (a2 : ByteArray) : Option (Bool) := if 0 ≤ (mn (a0.size : Int) 25) then (if (mn (a0.size : Int) 25) ≤ (a0.size : Int) then (if 0 ≤ (mn (a1.size : Int) 25) then (if (mn (a1.size : Int) 25) ≤ (a1.size : Int) then ((dryrotlaw08_short.f a2).bind fun t108 => ((regex_Match.f (a0.extract 0 ((mn (a0.size : Int) 25) : Int).toNat) t108).bind fun bt109 => ((regex_Match.f (a1.extract 0 ((mn (a1.size : Int) 25) : Int).toNat) t108).bind fun bt111 => (if bt109.2 = 0 then (dryrotlaw08_RegexEither.j0 k (a0.extract 0 ((mn (a0.size : Int) 25) : Int).toNat) (a1.extract 0 ((mn (a1.size : Int) 25) : Int).toNat) t108 bt109.1 bt109.2 bt111.1 bt111.2 (bt111.2 != 0)) else (dryrotlaw08_RegexEither.j0 k (a0.extract 0 ((mn (a0.size : Int) 25) : Int).toNat) (a1.extract 0 ((mn (a1.size : Int) 25) : Int).toNat) t108 bt109.1 bt109.2 bt111.1 bt111.2 true))))) else (none)) else (none)) else (none)) else (none)
theorem dryrotlaw08_RegexEither.mono_l : ∀ k, (∀ y0 y1 y2 y3 y4 y5 y6 y7, LeO (dryrotlaw08_RegexEither.j0 k y0 y1 y2 y3 y4 y5 y6 y7) (dryrotlaw08_RegexEither.j0 (k + 1) y0 y1 y2 y3 y4 y5 y6 y7))
  | 0 => fun _ _ _ _ _ _ _ _ r h => by simp [dryrotlaw08_RegexEither.j0] at h
  | k + 1 => by
    have ih0 := dryrotlaw08_RegexEither.mono_l k
    · intro y0 y1 y2 y3 y4 y5 y6 y7
      unfold dryrotlaw08_RegexEither.j0
      repeat' first
      | (with_reducible exact ih0 _ _ _ _ _ _ _ _)
      | (with_reducible exact LeO.refl _)
      | (with_reducible exact LeO.none _)
      | (with_reducible refine LeO.ite ?_ ?_)
      | (with_reducible refine LeO.bind ?_ (fun _ => ?_))
      | exact ih0 _ _ _ _ _ _ _ _
      | exact LeO.none _
      | refine LeO.ite ?_ ?_
      | refine LeO.bind ?_ (fun _ => ?_)
theorem dryrotlaw08_RegexEither.mono : ∀ a0 a1 a2 k, LeO (dryrotlaw08_RegexEither.f k a0 a1 a2) (dryrotlaw08_RegexEither.f (k + 1) a0 a1 a2) := by
  intro a0 a1 a2 k
  have ih0 := dryrotlaw08_RegexEither.mono_l k
  unfold dryrotlaw08_RegexEither.f
  repeat' first
      | (with_reducible exact ih0 _ _ _ _ _ _ _ _)
      | (with_reducible exact LeO.refl _)
      | (with_reducible exact LeO.none _)
      | (with_reducible refine LeO.ite ?_ ?_)
      | (with_reducible refine LeO.bind ?_ (fun _ => ?_))
      | exact ih0 _ _ _ _ _ _ _ _
      | exact LeO.none _
      | refine LeO.ite ?_ ?_
      | refine LeO.bind ?_ (fun _ => ?_)
def dryrotlaw08_RegexEither.T1 : Bool × List (List Nat × List Nat) := (true, [([], []), ([], []), ([1], [1]), ([2], [2]), ([0, 3], [0, 3]), ([], []), ([], []), ([6], [6]), ([7], [7]), ([5, 8], [5, 8]), ([], []), ([10], [10]), ([4, 11, 0, 1, 2, 3, 4], [0, 1, 4]), ([9, 12, 0, 1, 2, 3, 4, 5, 6, 7, 8, 9, 12], [5, 6, 9]), ([11, 13, 0, 1, 2, 3, 4, 5, 6, 7, 8, 9, 10, 11, 12, 13], [10, 11])])
def dryrotlaw08_RegexEither.B1 : List Nat := [0, 0, 2, 6, 15, 0, 0, 64, 192, 480, 0, 1024, 3103, 8191, 16383]
theorem dryrotlaw08_RegexEither.tab1 : rtab .any (opsOf Tryd.f4 1) = dryrotlaw08_RegexEither.T1 := by kernel_rfl
theorem dryrotlaw08_RegexEither.bits1 : waitsOk dryrotlaw08_RegexEither.T1.2 dryrotlaw08_RegexEither.B1 = true := by kernel_rfl
set_option maxHeartbeats 8000000 in
set_option maxRecDepth 100000 in
theorem dryrotlaw08_RegexEither.calls (k : Nat) (a0 : ByteArray) (a1 : ByteArray) (a2 : ByteArray) (r : Bool) (w : World) (hG : strings_ToValidUTF8.Gd w) (h : dryrotlaw08_RegexEither.f k a0 a1 a2 = some r) :
    Calls Tryd.prog 4 #[.string a0, .string a1, .string a2] w fun e w' => e = .returned (.bool r) ∧ Below w.heap.size w w' := by
  have HG := Aside0.mk hG
  clear hG
  have HB := Aside0.mk (Below.refl w.heap.size w)
  have H : (if 0 ≤ (mn (a0.size : Int) 25) then (if (mn (a0.size : Int) 25) ≤ (a0.size : Int) then (if 0 ≤ (mn (a1.size : Int) 25) then (if (mn (a1.size : Int) 25) ≤ (a1.size : Int) then ((dryrotlaw08_short.f a2).bind fun t108 => ((regex_Match.f (a0.extract 0 ((mn (a0.size : Int) 25) : Int).toNat) t108).bind fun bt109 => ((regex_Match.f (a1.extract 0 ((mn (a1.size : Int) 25) : Int).toNat) t108).bind fun bt111 => (if bt109.2 = 0 then (dryrotlaw08_RegexEither.j0 k (a0.extract 0 ((mn (a0.size : Int) 25) : Int).toNat) (a1.extract 0 ((mn (a1.size : Int) 25) : Int).toNat) t108 bt109.1 bt109.2 bt111.1 bt111.2 (bt111.2 != 0)) else (dryrotlaw08_RegexEither.j0 k (a0.extract 0 ((mn (a0.size : Int) 25) : Int).toNat) (a1.extract 0 ((mn (a1.size : Int) 25) : Int).toNat) t108 bt109.1 bt109.2 bt111.1 bt111.2 true))))) else (none)) else (none)) else (none)) else (none)) = some r := h
  clear h
  obtain ⟨ji4, hji4⟩ : ∃ j_ : Int, (mn (a0.size : Int) 25) = j_ := ⟨_, rfl⟩
  replace H : (if 0 ≤ (ji4) then (if (ji4) ≤ (a0.size : Int) then (if 0 ≤ (mn (a1.size : Int) 25) then (if (mn (a1.size : Int) 25) ≤ (a1.size : Int) then ((dryrotlaw08_short.f a2).bind fun t108 => ((regex_Match.f (a0.extract 0 ((ji4) : Int).toNat) t108).bind fun bt109 => ((regex_Match.f (a1.extract 0 ((mn (a1.size : Int) 25) : Int).toNat) t108).bind fun bt111 => (if bt109.2 = 0 then (dryrotlaw08_RegexEither.j0 k (a0.extract 0 ((ji4) : Int).toNat) (a1.extract 0 ((mn (a1.size : Int) 25) : Int).toNat) t108 bt109.1 bt109.2 bt111.1 bt111.2 (bt111.2 != 0)) else (dryrotlaw08_RegexEither.j0 k (a0.extract 0 ((ji4) : Int).toNat) (a1.extract 0 ((mn (a1.size : Int) 25) : Int).toNat) t108 bt109.1 bt109.2 bt111.1 bt111.2 true))))) else (none)) else (none)) else (none)) else (none)) = some r := by first | (rw [hji4] at H; exact H) | (simp only [hji4] at H ⊢; exact H)
  (try (have hji4h : ji4 ≤ 25 := by (rw [← hji4]; unfold mn; (repeat' split) <;> omega)))
  (try (have hji4g : ji4 ≤ 64 := by omega))
  (try (have hji4l : 0 ≤ ji4 := by (rw [← hji4]; unfold mn; (repeat' split) <;> omega)))
  (try (have hji4m : 0 ≤ ji4 := by omega))
  have hji4_ : (if 25 < (a0.size : Int) then 25 else (a0.size : Int)) = ji4 := hji4
  by_cases c5 : 0 ≤ (ji4)
  · rw [if_pos c5] at H
    have c5b0 := eq_true c5
    have c5b1 : decide (0 ≤ (ji4)) = true := decide_eq_true c5
    clear c5
    by_cases c6 : (ji4) ≤ (a0.size : Int)
    · rw [if_pos c6] at H
      have c6b0 := eq_true c6
      have c6b1 : decide ((ji4) ≤ (a0.size : Int)) = true := decide_eq_true c6
      clear c6
      obtain ⟨ji7, hji7⟩ : ∃ j_ : Int, (mn (a1.size : Int) 25) = j_ := ⟨_, rfl⟩
      replace H : (if 0 ≤ (ji7) then (if (ji7) ≤ (a1.size : Int) then ((dryrotlaw08_short.f a2).bind fun t108 => ((regex_Match.f (a0.extract 0 ((ji4) : Int).toNat) t108).bind fun bt109 => ((regex_Match.f (a1.extract 0 ((ji7) : Int).toNat) t108).bind fun bt111 => (if bt109.2 = 0 then (dryrotlaw08_RegexEither.j0 k (a0.extract 0 ((ji4) : Int).toNat) (a1.extract 0 ((ji7) : Int).toNat) t108 bt109.1 bt109.2 bt111.1 bt111.2 (bt111.2 != 0)) else (dryrotlaw08_RegexEither.j0 k (a0.extract 0 ((ji4) : Int).toNat) (a1.extract 0 ((ji7) : Int).toNat) t108 bt109.1 bt109.2 bt111.1 bt111.2 true))))) else (none)) else (none)) = some r := by first | (rw [hji7] at H; exact H) | (simp only [hji7] at H ⊢; exact H)
      (try (have hji7h : ji7 ≤ 25 := by (rw [← hji7]; unfold mn; (repeat' split) <;> omega)))
      (try (have hji7g : ji7 ≤ 64 := by omega))
      (try (have hji7l : 0 ≤ ji7 := by (rw [← hji7]; unfold mn; (repeat' split) <;> omega)))
      (try (have hji7m : 0 ≤ ji7 := by omega))
      have hji7_ : (if 25 < (a1.size : Int) then 25 else (a1.size : Int)) = ji7 := hji7
      by_cases c8 : 0 ≤ (ji7)
      · rw [if_pos c8] at H
        have c8b0 := eq_true c8
        have c8b1 : decide (0 ≤ (ji7)) = true := decide_eq_true c8
        clear c8
        by_cases c9 : (ji7) ≤ (a1.size : Int)
        · rw [if_pos c9] at H
          have c9b0 := eq_true c9
          have c9b1 : decide ((ji7) ≤ (a1.size : Int)) = true := decide_eq_true c9
          clear c9
          replace H := Option.bind_eq_some_iff.mp H
          obtain ⟨t108, A100, H⟩ := H
          replace H : ((regex_Match.f (a0.extract 0 ((ji4) : Int).toNat) t108).bind fun bt109 => ((regex_Match.f (a1.extract 0 ((ji7) : Int).toNat) t108).bind fun bt111 => (if bt109.2 = 0 then (dryrotlaw08_RegexEither.j0 k (a0.extract 0 ((ji4) : Int).toNat) (a1.extract 0 ((ji7) : Int).toNat) t108 bt109.1 bt109.2 bt111.1 bt111.2 (bt111.2 != 0)) else (dryrotlaw08_RegexEither.j0 k (a0.extract 0 ((ji4) : Int).toNat) (a1.extract 0 ((ji7) : Int).toNat) t108 bt109.1 bt109.2 bt111.1 bt111.2 true)))) = some r := H
          have A10 := Aside0.mk A100
          clear A100
          replace H := Option.bind_eq_some_iff.mp H
          obtain ⟨⟨t109, t110⟩, A110, H⟩ := H
          replace H : ((regex_Match.f (a1.extract 0 ((ji7) : Int).toNat) t108).bind fun bt111 => (if t110 = 0 then (dryrotlaw08_RegexEither.j0 k (a0.extract 0 ((ji4) : Int).toNat) (a1.extract 0 ((ji7) : Int).toNat) t108 t109 t110 bt111.1 bt111.2 (bt111.2 != 0)) else (dryrotlaw08_RegexEither.j0 k (a0.extract 0 ((ji4) : Int).toNat) (a1.extract 0 ((ji7) : Int).toNat) t108 t109 t110 bt111.1 bt111.2 true))) = some r := H
          have A11 := Aside0.mk A110
          clear A110
          replace H := Option.bind_eq_some_iff.mp H
          obtain ⟨⟨t111, t112⟩, A120, H⟩ := H
          replace H : (if t110 = 0 then (dryrotlaw08_RegexEither.j0 k (a0.extract 0 ((ji4) : Int).toNat) (a1.extract 0 ((ji7) : Int).toNat) t108 t109 t110 t111 t112 (t112 != 0)) else (dryrotlaw08_RegexEither.j0 k (a0.extract 0 ((ji4) : Int).toNat) (a1.extract 0 ((ji7) : Int).toNat) t108 t109 t110 t111 t112 true)) = some r := H
          have A12 := Aside0.mk A120
          clear A120
          have HC13 := Aside0.mk H
          clear H
          go_enter Tryd.func4, Tryd.ntmps4
          try go_wp2
          have n0_ := Aside0.mk (below_drew1 HB.out)
          clear HB
          have HB := n0_
          clear n0_
          refine start_ (n := 15) (S := fun w' => True) (ds := []) #[false, false, false, false, false, false, false, false, false, false, false, false, false, false, false] (by kernel_rfl) rfl rfl trivial (fun hHeld => ?_); refine with_tabW dryrotlaw08_RegexEither.tab1 dryrotlaw08_RegexEither.bits1 (fun HT_ HW_ => ?_)
          generalize w.drew = w14 at HB hHeld ⊢
          refine pure_ (i := 0) (N := some 13) (v := ?_) (a' := ?_) #[true, false, false, false, false, false, false, false, false, false, false, false, false, false, false] rfl rfl (any_of HT_.out (by kernel_rfl)) (fun _ _ _ h => h) (Or.inl ⟨by rfl, ?_⟩) ?_ ?_
          rotate_left
          · intro w'
            go_simp
            with_reducible rfl
          rotate_left
          · simp only [Act.put, List.setIfInBounds_toArray, List.set_cons_zero, List.set_cons_succ, i64_w, i32_w]
            rfl
          refine pure_ (i := 1) (N := some 14) (v := ?_) (a' := ?_) #[true, true, false, false, false, false, false, false, false, false, false, false, false, false, false] rfl rfl (any_of HT_.out (by kernel_rfl)) (fun _ _ _ h => h) (Or.inl ⟨by rfl, ?_⟩) ?_ ?_
          rotate_left
          · intro w'
            go_simp
            with_reducible rfl
          rotate_left
          · simp only [Act.put, List.setIfInBounds_toArray, List.set_cons_zero, List.set_cons_succ, i64_w, i32_w]
            rfl
          refine pure_ (i := 2) (N := some 15) (v := ?_) (a' := ?_) #[true, true, true, false, false, false, false, false, false, false, false, false, false, false, false] rfl rfl (any_of HT_.out (by kernel_rfl)) (fun _ _ _ h => h) (Or.inl ⟨by rfl, ?_⟩) ?_ ?_
          rotate_left
          · intro w'
            go_simp
            with_reducible rfl
          rotate_left
          · simp only [Act.put, List.setIfInBounds_toArray, List.set_cons_zero, List.set_cons_succ, i64_w, i32_w]
            rfl
          refine pure_ (i := 3) (N := some 16) (v := ?_) (a' := ?_) #[true, true, true, true, false, false, false, false, false, false, false, false, false, false, false] rfl rfl (any_of HT_.out (by kernel_rfl)) (fun _ _ _ h => h) (Or.inl ⟨by rfl, ?_⟩) ?_ ?_
          rotate_left
          · intro w'
            go_simp
            with_reducible rfl
          rotate_left
          · simp only [Act.put, List.setIfInBounds_toArray, List.set_cons_zero, List.set_cons_succ, i64_w, i32_w]
            rfl
          refine pure_ (i := 4) (N := some 17) (v := ?_) (a' := ?_) #[true, true, true, true, true, false, false, false, false, false, false, false, false, false, false] rfl rfl (any_of HT_.out (by kernel_rfl)) (fun _ _ _ h => h) (Or.inl ⟨by rfl, ?_⟩) ?_ ?_
          rotate_left
          · intro w'
            go_simp
            with_reducible rfl
          rotate_left
          · simp only [Act.put, List.setIfInBounds_toArray, List.set_cons_zero, List.set_cons_succ, i64_w, i32_w]
            rfl
          refine pure_ (i := 5) (N := some 18) (v := ?_) (a' := ?_) #[true, true, true, true, true, true, false, false, false, false, false, false, false, false, false] rfl rfl (any_of HT_.out (by kernel_rfl)) (fun _ _ _ h => h) (Or.inl ⟨by rfl, ?_⟩) ?_ ?_
          rotate_left
          · intro w'
            go_simp
            with_reducible rfl
          rotate_left
          · simp only [Act.put, List.setIfInBounds_toArray, List.set_cons_zero, List.set_cons_succ, i64_w, i32_w]
            rfl
          refine pure_ (i := 6) (N := some 19) (v := ?_) (a' := ?_) #[true, true, true, true, true, true, true, false, false, false, false, false, false, false, false] rfl rfl (any_of HT_.out (by kernel_rfl)) (fun _ _ _ h => h) (Or.inl ⟨by rfl, ?_⟩) ?_ ?_
          rotate_left
          · intro w'
            go_simp
            with_reducible rfl
          rotate_left
          · simp only [Act.put, List.setIfInBounds_toArray, List.set_cons_zero, List.set_cons_succ, i64_w, i32_w]
            rfl
          refine pure_ (i := 7) (N := some 20) (v := ?_) (a' := ?_) #[true, true, true, true, true, true, true, true, false, false, false, false, false, false, false] rfl rfl (any_of HT_.out (by kernel_rfl)) (fun _ _ _ h => h) (Or.inl ⟨by rfl, ?_⟩) ?_ ?_
          rotate_left
          · intro w'
            go_simp
            with_reducible rfl
          rotate_left
          · simp only [Act.put, List.setIfInBounds_toArray, List.set_cons_zero, List.set_cons_succ, i64_w, i32_w]
            rfl
          refine pure_ (i := 8) (N := some 21) (v := ?_) (a' := ?_) #[true, true, true, true, true, true, true, true, true, false, false, false, false, false, false] rfl rfl (any_of HT_.out (by kernel_rfl)) (fun _ _ _ h => h) (Or.inl ⟨by rfl, ?_⟩) ?_ ?_
          rotate_left
          · intro w'
            go_simp
            with_reducible rfl
          rotate_left
          · simp only [Act.put, List.setIfInBounds_toArray, List.set_cons_zero, List.set_cons_succ, i64_w, i32_w]
            rfl
          refine pure_ (i := 9) (N := some 22) (v := ?_) (a' := ?_) #[true, true, true, true, true, true, true, true, true, true, false, false, false, false, false] rfl rfl (any_of HT_.out (by kernel_rfl)) (fun _ _ _ h => h) (Or.inl ⟨by rfl, ?_⟩) ?_ ?_
          rotate_left
          · intro w'
            go_simp
            with_reducible rfl
          rotate_left
          · simp only [Act.put, List.setIfInBounds_toArray, List.set_cons_zero, List.set_cons_succ, i64_w, i32_w]
            rfl
          refine pure_ (i := 10) (N := some 23) (v := ?_) (a' := ?_) #[true, true, true, true, true, true, true, true, true, true, true, false, false, false, false] rfl rfl (any_of HT_.out (by kernel_rfl)) (fun _ _ _ h => h) (Or.inl ⟨by rfl, ?_⟩) ?_ ?_
          rotate_left
          · intro w'
            go_simp
            with_reducible rfl
          rotate_left
          · simp only [Act.put, List.setIfInBounds_toArray, List.set_cons_zero, List.set_cons_succ, i64_w, i32_w]
            rfl
          refine one_ (i := 11) (N := some 24) #[true, true, true, true, true, true, true, true, true, true, true, true, false, false, false] rfl rfl (one_of HT_.out (by kernel_rfl)) (by decide) (fun K hK => ?_)
          refine goes_ Tryd.func11 (by kernel_rfl) rfl #[.string a2] (by rfl) rfl rfl (by (try simp only [List.map_toArray, List.map_cons, List.map_nil]); first | done | rfl | (simp only [List.length_drop, List.length_take]; rfl)) ?_
          with_reducible refine (dryrotlaw08_short.calls a2 t108 _ A10.out).mono ?_
          rintro e w15 ⟨rfl, hb⟩
          refine ⟨_, rfl, ?_⟩
          have n0_ := Aside0.mk (below_step (by repeat (first | (with_reducible first | exact HB.out | apply below_alloc | apply pw_below_drewN | apply below_drew1) | exact HB.out)) hb)
          clear HB
          have HB := n0_
          clear n0_
          (try clear hb)
          (try clear hb2)
          (try clear hk)
          (try clear hi)
          refine hK.out _ _ trivial (fun hHeld => ?_)
          clear hK K
          refine norm_ (a' := ?_) ?_ ?_
          rotate_left
          · show Act.put _ (some 24) _ = _
            simp only [Act.put, List.setIfInBounds_toArray, List.set_cons_zero, List.set_cons_succ, i64_w, i32_w]
            rfl
          refine pure_ (i := 12) (N := some 0) (v := ?_) (a' := ?_) #[true, true, true, true, true, true, true, true, true, true, true, true, true, false, false] rfl rfl (any_of HT_.out (by kernel_rfl)) (fun _ _ _ h => h) (Or.inl ⟨by rfl, ?_⟩) ?_ ?_
          rotate_left
          · intro w'
            go_simp
            with_reducible rfl
          rotate_left
          · simp only [Act.put, List.setIfInBounds_toArray, List.set_cons_zero, List.set_cons_succ, i64_w, i32_w]
            rfl
          refine pure_ (i := 13) (N := some 1) (v := ?_) (a' := ?_) #[true, true, true, true, true, true, true, true, true, true, true, true, true, true, false] rfl rfl (any_of HT_.out (by kernel_rfl)) (fun _ _ _ h => h) (Or.inl ⟨by rfl, ?_⟩) ?_ ?_
          rotate_left
          · intro w'
            go_simp
            with_reducible rfl
          rotate_left
          · simp only [Act.put, List.setIfInBounds_toArray, List.set_cons_zero, List.set_cons_succ, i64_w, i32_w]
            rfl
          refine pure_ (i := 14) (N := some 2) (v := ?_) (a' := ?_) #[true, true, true, true, true, true, true, true, true, true, true, true, true, true, true] rfl rfl (any_of HT_.out (by kernel_rfl)) (fun _ _ _ h => h) (Or.inl ⟨by rfl, ?_⟩) ?_ ?_
          rotate_left
          · intro w'
            go_simp
            with_reducible rfl
          rotate_left
          · simp only [Act.put, List.setIfInBounds_toArray, List.set_cons_zero, List.set_cons_succ, i64_w, i32_w]
            rfl
          refine done_ (done_of HT_.out (by kernel_rfl)) ?_
          go_upto_region 4 with (first | ((with_reducible refine gate_callee (f := 12) rfl ?_); refine goesL_ (some 28) rfl rfl Tryd.func12 (by kernel_rfl) rfl #[.string (a0.extract 0 ((ji4) : Int).toNat), .string t108] rfl (by (try simp only [List.map_toArray, List.map_cons, List.map_nil]); first | done | (simp only [hji4]; rfl) | rfl | (simp only [List.length_drop, List.length_take]; rfl)) ?_; (with_reducible refine (regex_Match.callsP (a0.extract 0 ((ji4) : Int).toNat) t108 t109 t110 _ ?side1 A11.out).mono ?_); (case side1 => exact HG.out.below (by repeat (first | (with_reducible first | exact HB.out | apply below_alloc | apply pw_below_drewN | apply below_drew1) | exact HB.out))); rintro e w16 ⟨rfl, hb⟩; refine ⟨_, rfl, ?_⟩; have n0_ := Aside0.mk (below_step (by repeat (first | (with_reducible first | exact HB.out | apply below_alloc | apply pw_below_drewN | apply below_drew1) | exact HB.out)) hb); clear HB; have HB := n0_; clear n0_; (try clear hb); (try clear hb2); (try clear hk); (try clear hi)) | ((with_reducible refine gate_callee (f := 12) rfl ?_); refine goesL_ (some 34) rfl rfl Tryd.func12 (by kernel_rfl) rfl #[.string (a1.extract 0 ((ji7) : Int).toNat), .string t108] rfl (by (try simp only [List.map_toArray, List.map_cons, List.map_nil]); first | done | (simp only [hji7]; rfl) | rfl | (simp only [List.length_drop, List.length_take]; rfl)) ?_; (with_reducible refine (regex_Match.callsP (a1.extract 0 ((ji7) : Int).toNat) t108 t111 t112 _ ?side1 A12.out).mono ?_); (case side1 => exact HG.out.below (by repeat (first | (with_reducible first | exact HB.out | apply below_alloc | apply pw_below_drewN | apply below_drew1) | exact HB.out))); rintro e w17 ⟨rfl, hb⟩; refine ⟨_, rfl, ?_⟩; have n0_ := Aside0.mk (below_step (by repeat (first | (with_reducible first | exact HB.out | apply below_alloc | apply pw_below_drewN | apply below_drew1) | exact HB.out)) hb); clear HB; have HB := n0_; clear n0_; (try clear hb); (try clear hb2); (try clear hk); (try clear hi)))
          (try simp only [Act.put, List.setIfInBounds_toArray, List.set_cons_zero, List.set_cons_succ])
          go_cut [42] (fun v42 wc => ∃ (kq : Nat) (x42_12 : Bool), v42 = .bool x42_12 ∧ Aside0 (dryrotlaw08_RegexEither.j0 kq (a0.extract 0 ((ji4) : Int).toNat) (a1.extract 0 ((ji7) : Int).toNat) t108 t109 t110 t111 t112 x42_12 = some r) ∧ Aside0 (kq ≤ k) ∧ Aside0 (Below w.heap.size w wc))
          case first =>
            have H := HC13.out
            clear HC13
            by_cases c18 : t110 = 0
            · rw [if_pos c18] at H
              have c18b0 : (t110 == 0) = true := beq_iff_eq.mpr c18
              have c18b1 : (t110 != 0) = false := bne_eq_false_iff_eq.mpr c18
              clear c18
              (first | rw [c18b0] | (simp only [i64_w, i32_w]; rw [c18b0]) | skip)
              have H' := Aside0.mk H
              clear H
              go_wp2
              go_meet
              case rel => exact ⟨_, ((t112 != 0)), (by first | rfl | (simp; done) | (simp [*]; done)), H', ⟨by first | omega | exact Nat.le_refl _⟩, ⟨by repeat (first | (with_reducible first | exact HB.out | apply below_alloc | apply pw_below_drewN | apply below_drew1) | exact HB.out)⟩⟩
            · rw [if_neg c18] at H
              have c18b0 : (t110 == 0) = false := beq_eq_false_iff_ne.mpr c18
              have c18b1 : (t110 != 0) = true := bne_iff_ne.mpr c18
              (first | rw [c18b0] | (simp only [i64_w, i32_w]; rw [c18b0]) | skip)
              have H' := Aside0.mk H
              clear H
              go_wp2
              go_meet
              case rel => exact ⟨_, (true), (by first | rfl | (simp; done) | (simp [*]; done)), H', ⟨by first | omega | exact Nat.le_refl _⟩, ⟨by repeat (first | (with_reducible first | exact HB.out | apply below_alloc | apply pw_below_drewN | apply below_drew1) | exact HB.out)⟩⟩
          case rest =>
            clear HC13
            try clear c1
            try clear p2
            try clear c4
            try clear c5
            try clear c5b0
            try clear c5b1
            try clear c6
            try clear c6b0
            try clear c6b1
            try clear c8
            try clear c8b0
            try clear c8b1
            try clear c9
            try clear c9b0
            try clear c9b1
            try clear c11
            try clear c12
            try clear c18
            try clear c18b0
            try clear c18b1
            obtain ⟨kq, x42_12, rfl, HA, HJ12, HB⟩ := hcut
            cases kq with
            | zero => exact absurd HA.out (by simp [dryrotlaw08_RegexEither.j0])
            | succ kj12 =>
              have H := HA.out
              clear HA
              simp only [dryrotlaw08_RegexEither.j0] at H
              by_cases c19 : x42_12 = true
              · subst c19
                have H1 : ((regex_Check.f (a0.extract 0 ((ji4) : Int).toNat)).bind fun t113 => (if t113 = t110 then ((regex_Check.f (a1.extract 0 ((ji7) : Int).toNat)).bind fun t114 => (if t114 = t112 then ((dryrotlaw08_awake.f).bind fun t115 => (some t115)) else (some false))) else (some false))) = some r := by rw [if_pos rfl] at H; exact H
                clear H
                have H := H1
                clear H1
                replace H := Option.bind_eq_some_iff.mp H
                obtain ⟨t113, A200, H⟩ := H
                replace H : (if t113 = t110 then ((regex_Check.f (a1.extract 0 ((ji7) : Int).toNat)).bind fun t114 => (if t114 = t112 then ((dryrotlaw08_awake.f).bind fun t115 => (some t115)) else (some false))) else (some false)) = some r := H
                have A20 := Aside0.mk A200
                clear A200
                by_cases c21 : t113 = t110
                · rw [if_pos c21] at H
                  have c21b0 : (t113 == t110) = true := beq_iff_eq.mpr c21
                  have c21b1 : (t113 != t110) = false := bne_eq_false_iff_eq.mpr c21
                  clear c21
                  replace H := Option.bind_eq_some_iff.mp H
                  obtain ⟨t114, A220, H⟩ := H
                  replace H : (if t114 = t112 then ((dryrotlaw08_awake.f).bind fun t115 => (some t115)) else (some false)) = some r := H
                  have A22 := Aside0.mk A220
                  clear A220
                  by_cases c23 : t114 = t112
                  · rw [if_pos c23] at H
                    have c23b0 : (t114 == t112) = true := beq_iff_eq.mpr c23
                    have c23b1 : (t114 != t112) = false := bne_eq_false_iff_eq.mpr c23
                    clear c23
                    replace H := Option.bind_eq_some_iff.mp H
                    obtain ⟨t115, A240, H⟩ := H
                    replace H : (some t115) = some r := H
                    have A24 := Aside0.mk A240
                    clear A240
                    obtain rfl := Option.some.inj H
                    go_wp2_with (first | ((with_reducible refine gate_callee (f := 13) rfl ?_); refine goesL_ (some 44) rfl rfl Tryd.func13 (by kernel_rfl) rfl #[.string (a0.extract 0 ((ji4) : Int).toNat)] rfl (by (try simp only [List.map_toArray, List.map_cons, List.map_nil]); first | done | (simp only [hji4]; rfl) | rfl | (simp only [List.length_drop, List.length_take]; rfl)) ?_; (with_reducible refine (regex_Check.callsP (a0.extract 0 ((ji4) : Int).toNat) t113 _ ?side1 A20.out).mono ?_); (case side1 => exact HG.out.below (by repeat (first | (with_reducible first | exact HB.out | apply below_alloc | apply pw_below_drewN | apply below_drew1) | exact HB.out))); rintro e w25 ⟨rfl, hb⟩; refine ⟨_, rfl, ?_⟩; have n0_ := Aside0.mk (below_step (by repeat (first | (with_reducible first | exact HB.out | apply below_alloc | apply pw_below_drewN | apply below_drew1) | exact HB.out)) hb); clear HB; have HB := n0_; clear n0_; (try clear hb); (try clear hb2); (try clear hk); (try clear hi)) | (go_at_call 13; (with_reducible refine (regex_Check.callsP (a1.extract 0 ((ji7) : Int).toNat) t114 _ ?side1 A22.out).mono ?_); (case side1 => exact HG.out.below (by repeat (first | (with_reducible first | exact HB.out | apply below_alloc | apply pw_below_drewN | apply below_drew1) | exact HB.out))); rintro e w26 ⟨rfl, hb⟩; have n0_ := Aside0.mk (below_step (by repeat (first | (with_reducible first | exact HB.out | apply below_alloc | apply pw_below_drewN | apply below_drew1) | exact HB.out)) hb); clear HB; have HB := n0_; clear n0_; (try clear hb); (try clear hb2); (try clear hk); (try clear hi)) | (go_at_call 14; (with_reducible refine (dryrotlaw08_awake.calls  t115 _ ?side1 A24.out).mono ?_); (case side1 => exact HG.out.below (by repeat (first | (with_reducible first | exact HB.out | apply below_alloc | apply pw_below_drewN | apply below_drew1) | exact HB.out))); rintro e w27 ⟨rfl, hb⟩; have n0_ := Aside0.mk (below_step (by repeat (first | (with_reducible first | exact HB.out | apply below_alloc | apply pw_below_drewN | apply below_drew1) | exact HB.out)) hb); clear HB; have HB := n0_; clear n0_; (try clear hb); (try clear hb2); (try clear hk); (try clear hi)))
                    go_ret
                    exact ⟨by first | rfl | (simp [errW_none, errW_some] <;> rfl) | (simp only [← hji4, ← hji7]; first | rfl | (simp [errW_none, errW_some] <;> rfl)) | (simp [*, errW_none, errW_some] <;> rfl), by repeat (first | (with_reducible first | exact HB.out | apply below_alloc | apply pw_below_drewN | apply below_drew1) | exact HB.out)⟩
                  · rw [if_neg c23] at H
                    have c23b0 : (t114 == t112) = false := beq_eq_false_iff_ne.mpr c23
                    have c23b1 : (t114 != t112) = true := bne_iff_ne.mpr c23
                    obtain rfl := Option.some.inj H
                    go_wp2_with (first | ((with_reducible refine gate_callee (f := 13) rfl ?_); refine goesL_ (some 44) rfl rfl Tryd.func13 (by kernel_rfl) rfl #[.string (a0.extract 0 ((ji4) : Int).toNat)] rfl (by (try simp only [List.map_toArray, List.map_cons, List.map_nil]); first | done | (simp only [hji4]; rfl) | rfl | (simp only [List.length_drop, List.length_take]; rfl)) ?_; (with_reducible refine (regex_Check.callsP (a0.extract 0 ((ji4) : Int).toNat) t113 _ ?side1 A20.out).mono ?_); (case side1 => exact HG.out.below (by repeat (first | (with_reducible first | exact HB.out | apply below_alloc | apply pw_below_drewN | apply below_drew1) | exact HB.out))); rintro e w28 ⟨rfl, hb⟩; refine ⟨_, rfl, ?_⟩; have n0_ := Aside0.mk (below_step (by repeat (first | (with_reducible first | exact HB.out | apply below_alloc | apply pw_below_drewN | apply below_drew1) | exact HB.out)) hb); clear HB; have HB := n0_; clear n0_; (try clear hb); (try clear hb2); (try clear hk); (try clear hi)) | (go_at_call 13; (with_reducible refine (regex_Check.callsP (a1.extract 0 ((ji7) : Int).toNat) t114 _ ?side1 A22.out).mono ?_); (case side1 => exact HG.out.below (by repeat (first | (with_reducible first | exact HB.out | apply below_alloc | apply pw_below_drewN | apply below_drew1) | exact HB.out))); rintro e w29 ⟨rfl, hb⟩; have n0_ := Aside0.mk (below_step (by repeat (first | (with_reducible first | exact HB.out | apply below_alloc | apply pw_below_drewN | apply below_drew1) | exact HB.out)) hb); clear HB; have HB := n0_; clear n0_; (try clear hb); (try clear hb2); (try clear hk); (try clear hi)))
                    go_ret
                    exact ⟨by first | rfl | (simp [errW_none, errW_some] <;> rfl) | (simp only [← hji4, ← hji7]; first | rfl | (simp [errW_none, errW_some] <;> rfl)) | (simp [*, errW_none, errW_some] <;> rfl), by repeat (first | (with_reducible first | exact HB.out | apply below_alloc | apply pw_below_drewN | apply below_drew1) | exact HB.out)⟩
                · rw [if_neg c21] at H
                  have c21b0 : (t113 == t110) = false := beq_eq_false_iff_ne.mpr c21
                  have c21b1 : (t113 != t110) = true := bne_iff_ne.mpr c21
                  obtain rfl := Option.some.inj H
                  go_wp2_with (first | ((with_reducible refine gate_callee (f := 13) rfl ?_); refine goesL_ (some 44) rfl rfl Tryd.func13 (by kernel_rfl) rfl #[.string (a0.extract 0 ((ji4) : Int).toNat)] rfl (by (try simp only [List.map_toArray, List.map_cons, List.map_nil]); first | done | (simp only [hji4]; rfl) | rfl | (simp only [List.length_drop, List.length_take]; rfl)) ?_; (with_reducible refine (regex_Check.callsP (a0.extract 0 ((ji4) : Int).toNat) t113 _ ?side1 A20.out).mono ?_); (case side1 => exact HG.out.below (by repeat (first | (with_reducible first | exact HB.out | apply below_alloc | apply pw_below_drewN | apply below_drew1) | exact HB.out))); rintro e w30 ⟨rfl, hb⟩; refine ⟨_, rfl, ?_⟩; have n0_ := Aside0.mk (below_step (by repeat (first | (with_reducible first | exact HB.out | apply below_alloc | apply pw_below_drewN | apply below_drew1) | exact HB.out)) hb); clear HB; have HB := n0_; clear n0_; (try clear hb); (try clear hb2); (try clear hk); (try clear hi)))
                  go_ret
                  exact ⟨by first | rfl | (simp [errW_none, errW_some] <;> rfl) | (simp only [← hji4, ← hji7]; first | rfl | (simp [errW_none, errW_some] <;> rfl)) | (simp [*, errW_none, errW_some] <;> rfl), by repeat (first | (with_reducible first | exact HB.out | apply below_alloc | apply pw_below_drewN | apply below_drew1) | exact HB.out)⟩
              · replace c19 := Bool.eq_false_iff.mpr c19
                subst c19
                have H1 : (if 1 + (a0.extract 0 ((ji4) : Int).toNat).size ≤ 9223372036854775807 then (if ((⟨#[40]⟩ : ByteArray) ++ (a0.extract 0 ((ji4) : Int).toNat)).size + 3 ≤ 9223372036854775807 then (if (((⟨#[40]⟩ : ByteArray) ++ (a0.extract 0 ((ji4) : Int).toNat)) ++ (⟨#[41, 124, 40]⟩ : ByteArray)).size + (a1.extract 0 ((ji7) : Int).toNat).size ≤ 9223372036854775807 then (if ((((⟨#[40]⟩ : ByteArray) ++ (a0.extract 0 ((ji4) : Int).toNat)) ++ (⟨#[41, 124, 40]⟩ : ByteArray)) ++ (a1.extract 0 ((ji7) : Int).toNat)).size + 1 ≤ 9223372036854775807 then ((regex_Match.f (((((⟨#[40]⟩ : ByteArray) ++ (a0.extract 0 ((ji4) : Int).toNat)) ++ (⟨#[41, 124, 40]⟩ : ByteArray)) ++ (a1.extract 0 ((ji7) : Int).toNat)) ++ (⟨#[41]⟩ : ByteArray)) t108).bind fun bt116 => (if bt116.2 = 0 then (if t109 = true then (if (bt116.1 == true) = true then ((dryrotlaw08_awake.f).bind fun t118 => (some t118)) else (some false)) else (if (bt116.1 == t111) = true then ((dryrotlaw08_awake.f).bind fun t119 => (some t119)) else (some false))) else ((dryrotlaw08_awake.f).bind fun t120 => (some t120)))) else (none)) else (none)) else (none)) else (none)) = some r := by rw [if_neg (show ¬ (false = true) by decide)] at H; exact H
                clear H
                have H := H1
                clear H1
                by_cases c31 : 1 + (a0.extract 0 ((ji4) : Int).toNat).size ≤ 9223372036854775807
                · rw [if_pos c31] at H
                  have c31b0 := eq_true c31
                  have c31b1 : decide (1 + (a0.extract 0 ((ji4) : Int).toNat).size ≤ 9223372036854775807) = true := decide_eq_true c31
                  try have c31b2 : (9223372036854775807 < 1 + (a0.extract 0 ((ji4) : Int).toNat).size) = False := eq_false (Nat.not_lt.2 c31)
                  try (have c31b3 := c31b2; simp only [ByteArray.size_append, Base.size1] at c31b3)
                  by_cases c32 : ((⟨#[40]⟩ : ByteArray) ++ (a0.extract 0 ((ji4) : Int).toNat)).size + 3 ≤ 9223372036854775807
                  · rw [if_pos c32] at H
                    have c32b0 := eq_true c32
                    have c32b1 : decide (((⟨#[40]⟩ : ByteArray) ++ (a0.extract 0 ((ji4) : Int).toNat)).size + 3 ≤ 9223372036854775807) = true := decide_eq_true c32
                    try have c32b2 : (9223372036854775807 < ((⟨#[40]⟩ : ByteArray) ++ (a0.extract 0 ((ji4) : Int).toNat)).size + 3) = False := eq_false (Nat.not_lt.2 c32)
                    try (have c32b3 := c32b2; simp only [ByteArray.size_append, Base.size1] at c32b3)
                    by_cases c33 : (((⟨#[40]⟩ : ByteArray) ++ (a0.extract 0 ((ji4) : Int).toNat)) ++ (⟨#[41, 124, 40]⟩ : ByteArray)).size + (a1.extract 0 ((ji7) : Int).toNat).size ≤ 9223372036854775807
                    · rw [if_pos c33] at H
                      have c33b0 := eq_true c33
                      have c33b1 : decide ((((⟨#[40]⟩ : ByteArray) ++ (a0.extract 0 ((ji4) : Int).toNat)) ++ (⟨#[41, 124, 40]⟩ : ByteArray)).size + (a1.extract 0 ((ji7) : Int).toNat).size ≤ 9223372036854775807) = true := decide_eq_true c33
                      try have c33b2 : (9223372036854775807 < (((⟨#[40]⟩ : ByteArray) ++ (a0.extract 0 ((ji4) : Int).toNat)) ++ (⟨#[41, 124, 40]⟩ : ByteArray)).size + (a1.extract 0 ((ji7) : Int).toNat).size) = False := eq_false (Nat.not_lt.2 c33)
                      try (have c33b3 := c33b2; simp only [ByteArray.size_append, Base.size1] at c33b3)
                      by_cases c34 : ((((⟨#[40]⟩ : ByteArray) ++ (a0.extract 0 ((ji4) : Int).toNat)) ++ (⟨#[41, 124, 40]⟩ : ByteArray)) ++ (a1.extract 0 ((ji7) : Int).toNat)).size + 1 ≤ 9223372036854775807
                      · rw [if_pos c34] at H
                        have c34b0 := eq_true c34
                        have c34b1 : decide (((((⟨#[40]⟩ : ByteArray) ++ (a0.extract 0 ((ji4) : Int).toNat)) ++ (⟨#[41, 124, 40]⟩ : ByteArray)) ++ (a1.extract 0 ((ji7) : Int).toNat)).size + 1 ≤ 9223372036854775807) = true := decide_eq_true c34
                        try have c34b2 : (9223372036854775807 < ((((⟨#[40]⟩ : ByteArray) ++ (a0.extract 0 ((ji4) : Int).toNat)) ++ (⟨#[41, 124, 40]⟩ : ByteArray)) ++ (a1.extract 0 ((ji7) : Int).toNat)).size + 1) = False := eq_false (Nat.not_lt.2 c34)
                        try (have c34b3 := c34b2; simp only [ByteArray.size_append, Base.size1] at c34b3)
                        replace H := Option.bind_eq_some_iff.mp H
                        obtain ⟨⟨t116, t117⟩, A350, H⟩ := H
                        replace H : (if t117 = 0 then (if t109 = true then (if (t116 == true) = true then ((dryrotlaw08_awake.f).bind fun t118 => (some t118)) else (some false)) else (if (t116 == t111) = true then ((dryrotlaw08_awake.f).bind fun t119 => (some t119)) else (some false))) else ((dryrotlaw08_awake.f).bind fun t120 => (some t120))) = some r := H
                        have A35 := Aside0.mk A350
                        clear A350
                        by_cases c36 : t117 = 0
                        · rw [if_pos c36] at H
                          have c36b0 : (t117 == 0) = true := beq_iff_eq.mpr c36
                          have c36b1 : (t117 != 0) = false := bne_eq_false_iff_eq.mpr c36
                          clear c36
                          by_cases c37 : t109 = true
                          · subst c37
                            have H1 : (if (t116 == true) = true then ((dryrotlaw08_awake.f).bind fun t118 => (some t118)) else (some false)) = some r := by rw [if_pos rfl] at H; exact H
                            clear H
                            have H := H1
                            clear H1
                            by_cases c38 : (t116 == true) = true
                            · rw [if_pos c38] at H
                              have c38b0 : (t116 == true) = true := c38
                              (try (have c38b1 : decide (t116 = true) = true := by simpa using c38))
                              (try (have c38b2 : (t116 == true) = true := by simpa using c38))
                              clear c38
                              replace H := Option.bind_eq_some_iff.mp H
                              obtain ⟨t118, A390, H⟩ := H
                              replace H : (some t118) = some r := H
                              have A39 := Aside0.mk A390
                              clear A390
                              obtain rfl := Option.some.inj H
                              go_wp2_with (first | ((with_reducible refine gate_callee (f := 12) rfl ?_); refine goesL_ (some 64) rfl rfl Tryd.func12 (by kernel_rfl) rfl #[.string (((((⟨#[40]⟩ : ByteArray) ++ (a0.extract 0 ((ji4) : Int).toNat)) ++ (⟨#[41, 124, 40]⟩ : ByteArray)) ++ (a1.extract 0 ((ji7) : Int).toNat)) ++ (⟨#[41]⟩ : ByteArray)), .string t108] rfl (by (try simp only [List.map_toArray, List.map_cons, List.map_nil]); first | done | (simp only [hji4, hji7]; rfl) | rfl | (simp only [List.length_drop, List.length_take]; rfl)) ?_; (with_reducible refine (regex_Match.callsP (((((⟨#[40]⟩ : ByteArray) ++ (a0.extract 0 ((ji4) : Int).toNat)) ++ (⟨#[41, 124, 40]⟩ : ByteArray)) ++ (a1.extract 0 ((ji7) : Int).toNat)) ++ (⟨#[41]⟩ : ByteArray)) t108 t116 t117 _ ?side1 A35.out).mono ?_); (case side1 => exact HG.out.below (by repeat (first | (with_reducible first | exact HB.out | apply below_alloc | apply pw_below_drewN | apply below_drew1) | exact HB.out))); rintro e w40 ⟨rfl, hb⟩; refine ⟨_, rfl, ?_⟩; have n0_ := Aside0.mk (below_step (by repeat (first | (with_reducible first | exact HB.out | apply below_alloc | apply pw_below_drewN | apply below_drew1) | exact HB.out)) hb); clear HB; have HB := n0_; clear n0_; (try clear hb); (try clear hb2); (try clear hk); (try clear hi)) | (go_at_call 14; (with_reducible refine (dryrotlaw08_awake.calls  t118 _ ?side1 A39.out).mono ?_); (case side1 => exact HG.out.below (by repeat (first | (with_reducible first | exact HB.out | apply below_alloc | apply pw_below_drewN | apply below_drew1) | exact HB.out))); rintro e w41 ⟨rfl, hb⟩; have n0_ := Aside0.mk (below_step (by repeat (first | (with_reducible first | exact HB.out | apply below_alloc | apply pw_below_drewN | apply below_drew1) | exact HB.out)) hb); clear HB; have HB := n0_; clear n0_; (try clear hb); (try clear hb2); (try clear hk); (try clear hi)))
                              go_ret
                              exact ⟨by first | rfl | (simp [errW_none, errW_some] <;> rfl) | (simp only [← hji4, ← hji7]; first | rfl | (simp [errW_none, errW_some] <;> rfl)) | (simp [*, errW_none, errW_some] <;> rfl), by repeat (first | (with_reducible first | exact HB.out | apply below_alloc | apply pw_below_drewN | apply below_drew1) | exact HB.out)⟩
                            · rw [if_neg c38] at H
                              have c38b0 : (t116 == true) = false := by simpa using c38
                              (try (have c38b1 : decide (t116 = true) = false := by simpa using c38))
                              (try (have c38b2 : (t116 == true) = false := by simpa using c38))
                              (try (have c38b3 : ¬ (t116 = true) := by simpa using c38))
                              clear c38
                              obtain rfl := Option.some.inj H
                              go_wp2_with (first | ((with_reducible refine gate_callee (f := 12) rfl ?_); refine goesL_ (some 64) rfl rfl Tryd.func12 (by kernel_rfl) rfl #[.string (((((⟨#[40]⟩ : ByteArray) ++ (a0.extract 0 ((ji4) : Int).toNat)) ++ (⟨#[41, 124, 40]⟩ : ByteArray)) ++ (a1.extract 0 ((ji7) : Int).toNat)) ++ (⟨#[41]⟩ : ByteArray)), .string t108] rfl (by (try simp only [List.map_toArray, List.map_cons, List.map_nil]); first | done | (simp only [hji4, hji7]; rfl) | rfl | (simp only [List.length_drop, List.length_take]; rfl)) ?_; (with_reducible refine (regex_Match.callsP (((((⟨#[40]⟩ : ByteArray) ++ (a0.extract 0 ((ji4) : Int).toNat)) ++ (⟨#[41, 124, 40]⟩ : ByteArray)) ++ (a1.extract 0 ((ji7) : Int).toNat)) ++ (⟨#[41]⟩ : ByteArray)) t108 t116 t117 _ ?side1 A35.out).mono ?_); (case side1 => exact HG.out.below (by repeat (first | (with_reducible first | exact HB.out | apply below_alloc | apply pw_below_drewN | apply below_drew1) | exact HB.out))); rintro e w42 ⟨rfl, hb⟩; refine ⟨_, rfl, ?_⟩; have n0_ := Aside0.mk (below_step (by repeat (first | (with_reducible first | exact HB.out | apply below_alloc | apply pw_below_drewN | apply below_drew1) | exact HB.out)) hb); clear HB; have HB := n0_; clear n0_; (try clear hb); (try clear hb2); (try clear hk); (try clear hi)))
                              go_ret
                              exact ⟨by first | rfl | (simp [errW_none, errW_some] <;> rfl) | (simp only [← hji4, ← hji7]; first | rfl | (simp [errW_none, errW_some] <;> rfl)) | (simp [*, errW_none, errW_some] <;> rfl), by repeat (first | (with_reducible first | exact HB.out | apply below_alloc | apply pw_below_drewN | apply below_drew1) | exact HB.out)⟩
                          · replace c37 := Bool.eq_false_iff.mpr c37
                            subst c37
                            have H1 : (if (t116 == t111) = true then ((dryrotlaw08_awake.f).bind fun t119 => (some t119)) else (some false)) = some r := by rw [if_neg (show ¬ (false = true) by decide)] at H; exact H
                            clear H
                            have H := H1
                            clear H1
                            by_cases c43 : (t116 == t111) = true
                            · rw [if_pos c43] at H
                              have c43b0 : (t116 == t111) = true := c43
                              (try (have c43b1 : decide (t116 = t111) = true := by simpa using c43))
                              (try (have c43b2 : (t116 == t111) = true := by simpa using c43))
                              clear c43
                              replace H := Option.bind_eq_some_iff.mp H
                              obtain ⟨t119, A440, H⟩ := H
                              replace H : (some t119) = some r := H
                              have A44 := Aside0.mk A440
                              clear A440
                              obtain rfl := Option.some.inj H
                              go_wp2_with (first | ((with_reducible refine gate_callee (f := 12) rfl ?_); refine goesL_ (some 64) rfl rfl Tryd.func12 (by kernel_rfl) rfl #[.string (((((⟨#[40]⟩ : ByteArray) ++ (a0.extract 0 ((ji4) : Int).toNat)) ++ (⟨#[41, 124, 40]⟩ : ByteArray)) ++ (a1.extract 0 ((ji7) : Int).toNat)) ++ (⟨#[41]⟩ : ByteArray)), .string t108] rfl (by (try simp only [List.map_toArray, List.map_cons, List.map_nil]); first | done | (simp only [hji4, hji7]; rfl) | rfl | (simp only [List.length_drop, List.length_take]; rfl)) ?_; (with_reducible refine (regex_Match.callsP (((((⟨#[40]⟩ : ByteArray) ++ (a0.extract 0 ((ji4) : Int).toNat)) ++ (⟨#[41, 124, 40]⟩ : ByteArray)) ++ (a1.extract 0 ((ji7) : Int).toNat)) ++ (⟨#[41]⟩ : ByteArray)) t108 t116 t117 _ ?side1 A35.out).mono ?_); (case side1 => exact HG.out.below (by repeat (first | (with_reducible first | exact HB.out | apply below_alloc | apply pw_below_drewN | apply below_drew1) | exact HB.out))); rintro e w45 ⟨rfl, hb⟩; refine ⟨_, rfl, ?_⟩; have n0_ := Aside0.mk (below_step (by repeat (first | (with_reducible first | exact HB.out | apply below_alloc | apply pw_below_drewN | apply below_drew1) | exact HB.out)) hb); clear HB; have HB := n0_; clear n0_; (try clear hb); (try clear hb2); (try clear hk); (try clear hi)) | (go_at_call 14; (with_reducible refine (dryrotlaw08_awake.calls  t119 _ ?side1 A44.out).mono ?_); (case side1 => exact HG.out.below (by repeat (first | (with_reducible first | exact HB.out | apply below_alloc | apply pw_below_drewN | apply below_drew1) | exact HB.out))); rintro e w46 ⟨rfl, hb⟩; have n0_ := Aside0.mk (below_step (by repeat (first | (with_reducible first | exact HB.out | apply below_alloc | apply pw_below_drewN | apply below_drew1) | exact HB.out)) hb); clear HB; have HB := n0_; clear n0_; (try clear hb); (try clear hb2); (try clear hk); (try clear hi)))
                              go_ret
                              exact ⟨by first | rfl | (simp [errW_none, errW_some] <;> rfl) | (simp only [← hji4, ← hji7]; first | rfl | (simp [errW_none, errW_some] <;> rfl)) | (simp [*, errW_none, errW_some] <;> rfl), by repeat (first | (with_reducible first | exact HB.out | apply below_alloc | apply pw_below_drewN | apply below_drew1) | exact HB.out)⟩
                            · rw [if_neg c43] at H
                              have c43b0 : (t116 == t111) = false := by simpa using c43
                              (try (have c43b1 : decide (t116 = t111) = false := by simpa using c43))
                              (try (have c43b2 : (t116 == t111) = false := by simpa using c43))
                              (try (have c43b3 : ¬ (t116 = t111) := by simpa using c43))
                              clear c43
                              obtain rfl := Option.some.inj H
                              go_wp2_with (first | ((with_reducible refine gate_callee (f := 12) rfl ?_); refine goesL_ (some 64) rfl rfl Tryd.func12 (by kernel_rfl) rfl #[.string (((((⟨#[40]⟩ : ByteArray) ++ (a0.extract 0 ((ji4) : Int).toNat)) ++ (⟨#[41, 124, 40]⟩ : ByteArray)) ++ (a1.extract 0 ((ji7) : Int).toNat)) ++ (⟨#[41]⟩ : ByteArray)), .string t108] rfl (by (try simp only [List.map_toArray, List.map_cons, List.map_nil]); first | done | (simp only [hji4, hji7]; rfl) | rfl | (simp only [List.length_drop, List.length_take]; rfl)) ?_; (with_reducible refine (regex_Match.callsP (((((⟨#[40]⟩ : ByteArray) ++ (a0.extract 0 ((ji4) : Int).toNat)) ++ (⟨#[41, 124, 40]⟩ : ByteArray)) ++ (a1.extract 0 ((ji7) : Int).toNat)) ++ (⟨#[41]⟩ : ByteArray)) t108 t116 t117 _ ?side1 A35.out).mono ?_); (case side1 => exact HG.out.below (by repeat (first | (with_reducible first | exact HB.out | apply below_alloc | apply pw_below_drewN | apply below_drew1) | exact HB.out))); rintro e w47 ⟨rfl, hb⟩; refine ⟨_, rfl, ?_⟩; have n0_ := Aside0.mk (below_step (by repeat (first | (with_reducible first | exact HB.out | apply below_alloc | apply pw_below_drewN | apply below_drew1) | exact HB.out)) hb); clear HB; have HB := n0_; clear n0_; (try clear hb); (try clear hb2); (try clear hk); (try clear hi)))
                              go_ret
                              exact ⟨by first | rfl | (simp [errW_none, errW_some] <;> rfl) | (simp only [← hji4, ← hji7]; first | rfl | (simp [errW_none, errW_some] <;> rfl)) | (simp [*, errW_none, errW_some] <;> rfl), by repeat (first | (with_reducible first | exact HB.out | apply below_alloc | apply pw_below_drewN | apply below_drew1) | exact HB.out)⟩
                        · rw [if_neg c36] at H
                          have c36b0 : (t117 == 0) = false := beq_eq_false_iff_ne.mpr c36
                          have c36b1 : (t117 != 0) = true := bne_iff_ne.mpr c36
                          replace H := Option.bind_eq_some_iff.mp H
                          obtain ⟨t120, A480, H⟩ := H
                          replace H : (some t120) = some r := H
                          have A48 := Aside0.mk A480
                          clear A480
                          obtain rfl := Option.some.inj H
                          go_wp2_with (first | ((with_reducible refine gate_callee (f := 12) rfl ?_); refine goesL_ (some 64) rfl rfl Tryd.func12 (by kernel_rfl) rfl #[.string (((((⟨#[40]⟩ : ByteArray) ++ (a0.extract 0 ((ji4) : Int).toNat)) ++ (⟨#[41, 124, 40]⟩ : ByteArray)) ++ (a1.extract 0 ((ji7) : Int).toNat)) ++ (⟨#[41]⟩ : ByteArray)), .string t108] rfl (by (try simp only [List.map_toArray, List.map_cons, List.map_nil]); first | done | (simp only [hji4, hji7]; rfl) | rfl | (simp only [List.length_drop, List.length_take]; rfl)) ?_; (with_reducible refine (regex_Match.callsP (((((⟨#[40]⟩ : ByteArray) ++ (a0.extract 0 ((ji4) : Int).toNat)) ++ (⟨#[41, 124, 40]⟩ : ByteArray)) ++ (a1.extract 0 ((ji7) : Int).toNat)) ++ (⟨#[41]⟩ : ByteArray)) t108 t116 t117 _ ?side1 A35.out).mono ?_); (case side1 => exact HG.out.below (by repeat (first | (with_reducible first | exact HB.out | apply below_alloc | apply pw_below_drewN | apply below_drew1) | exact HB.out))); rintro e w49 ⟨rfl, hb⟩; refine ⟨_, rfl, ?_⟩; have n0_ := Aside0.mk (below_step (by repeat (first | (with_reducible first | exact HB.out | apply below_alloc | apply pw_below_drewN | apply below_drew1) | exact HB.out)) hb); clear HB; have HB := n0_; clear n0_; (try clear hb); (try clear hb2); (try clear hk); (try clear hi)) | (go_at_call 14; (with_reducible refine (dryrotlaw08_awake.calls  t120 _ ?side1 A48.out).mono ?_); (case side1 => exact HG.out.below (by repeat (first | (with_reducible first | exact HB.out | apply below_alloc | apply pw_below_drewN | apply below_drew1) | exact HB.out))); rintro e w50 ⟨rfl, hb⟩; have n0_ := Aside0.mk (below_step (by repeat (first | (with_reducible first | exact HB.out | apply below_alloc | apply pw_below_drewN | apply below_drew1) | exact HB.out)) hb); clear HB; have HB := n0_; clear n0_; (try clear hb); (try clear hb2); (try clear hk); (try clear hi)))
                          go_ret
                          exact ⟨by first | rfl | (simp [errW_none, errW_some] <;> rfl) | (simp only [← hji4, ← hji7]; first | rfl | (simp [errW_none, errW_some] <;> rfl)) | (simp [*, errW_none, errW_some] <;> rfl), by repeat (first | (with_reducible first | exact HB.out | apply below_alloc | apply pw_below_drewN | apply below_drew1) | exact HB.out)⟩
                      · rw [if_neg c34] at H
                        exact absurd H (by simp)
                    · rw [if_neg c33] at H
                      exact absurd H (by simp)
                  · rw [if_neg c32] at H
                    exact absurd H (by simp)
                · rw [if_neg c31] at H
                  exact absurd H (by simp)
        · rw [if_neg c9] at H
          exact absurd H (by simp)
      · rw [if_neg c8] at H
        exact absurd H (by simp)
    · rw [if_neg c6] at H
      exact absurd H (by simp)
  · rw [if_neg c5] at H
    exact absurd H (by simp)

end Go.Proofs.YtgnehcgaplnfkaaDoor.PAll
