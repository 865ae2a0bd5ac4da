-- Written by a program of this seat (wip/tools), out of the translation. Not trusted: Lean checks it.
import Derived.Test.YtgnehcgaplnfkaaDoorPAllx0
import Derived.Test.YtgnehcgaplnfkaaDoorPAllx9
namespace Go.Proofs.YtgnehcgaplnfkaaDoor.PAll
open Go.RowKit Go.Proofs.YtgnehcgaplnfkaaDoorW.PrintWords Go.Proofs.YtgnehcgaplnfkaaDoorW.PrintLast Go.Proofs.YtgnehcgaplnfkaaDoorW.PrintMore
attribute [local go_sem] max2_int min2_int max_two min_two max_three min_three max_four min_four   -- for this text's walks alone
set_option linter.unusedVariables false
set_option linter.unusedSimpArgs false

/-! ### dryrotplain_SameDeletes: function 28 -/
-- uses api_Matcher_49
def dryrotplain_SameDeletes.same (k : Nat) (x y : S77) : Option Bool := (api_Matcher_49.f k x.f0 y.f0).bind fun b => some (b && (x.f1 == y.f1) && (x.f2 == y.f2) && (x.f3 == y.f3))
def dryrotplain_SameDeletes.all (k : Nat) : List S77 → List S77 → Option Bool
  | [], _ => some true
  | _ :: _, [] => some true
  | x :: r, y :: q => (dryrotplain_SameDeletes.same k x y).bind fun b => if b = true then dryrotplain_SameDeletes.all k r q else some false
def dryrotplain_SameDeletes.f (k : Nat) (l0 l1 : List S77) : Option Bool := if l0.length = l1.length then (if l0.length ≤ 4611686018427387904 then dryrotplain_SameDeletes.all k l0 l1 else none) else some false
theorem dryrotplain_SameDeletes.mono_same (k : Nat) (x y : S77) : LeO (dryrotplain_SameDeletes.same k x y) (dryrotplain_SameDeletes.same (k + 1) x y) :=
  LeO.bind (api_Matcher_49.mono _ _ _) (fun _ => LeO.refl _)
theorem dryrotplain_SameDeletes.mono_all (k : Nat) : ∀ l0 l1, LeO (dryrotplain_SameDeletes.all k l0 l1) (dryrotplain_SameDeletes.all (k + 1) l0 l1)
  | [], _ => LeO.refl _
  | _ :: _, [] => LeO.refl _
  | x :: r, y :: q => LeO.bind (dryrotplain_SameDeletes.mono_same k x y) (fun b => by
      split
      · exact dryrotplain_SameDeletes.mono_all k r q
      · exact LeO.refl _)
theorem dryrotplain_SameDeletes.mono : ∀ l0 l1 k, LeO (dryrotplain_SameDeletes.f k l0 l1) (dryrotplain_SameDeletes.f (k + 1) l0 l1) := by
  intro l0 l1 k
  unfold dryrotplain_SameDeletes.f
  split
  · split
    · exact dryrotplain_SameDeletes.mono_all k l0 l1
    · exact LeO.refl _
  · exact LeO.refl _
set_option maxHeartbeats 4000000 in
set_option maxRecDepth 100000 in
theorem dryrotplain_SameDeletes.calls_one (k : Nat) (x y : S77) (A0 A1 : Option Addr) (c0 c1 : Nat) (b : Bool) (w : World) (hx : x.f0.length ≤ c0) (gx : Kd.C k35 w A0 x.f0.length x.f0) (hy : y.f0.length ≤ c1) (gy : Kd.C k35 w A1 y.f0.length y.f0) (h : dryrotplain_SameDeletes.same k x y = some b) :
    Calls Tryd.prog 48 #[.agg #[.slice A0 x.f0.length c0, .int .i64 x.f1, .int .i64 x.f2, .int .i64 x.f3], .agg #[.slice A1 y.f0.length c1, .int .i64 y.f1, .int .i64 y.f2, .int .i64 y.f3]] w fun e w' => e = .returned (.bool b) ∧ Below w.heap.size w w' := by
  obtain ⟨c, hc, h2⟩ := Option.bind_eq_some_iff.1 h
  have HCc := Aside0.mk hc
  have H2 := Aside0.mk (Option.some.inj h2)
  have GX := Aside0.mk gx
  have GY := Aside0.mk gy
  have HX := Aside0.mk hx
  have HY := Aside0.mk hy
  clear hc h2 h gx gy hx hy
  cases c with
  | false =>
    have hb : false = b := by simpa using H2.out
    subst hb
    go_enter Tryd.func48, Tryd.ntmps48
    go_wp2_with (go_at_call 49; (with_reducible refine (api_Matcher_49.calls k _ _ x.f0 _ _ y.f0 false _ (Kd.C_alloc (Kd.C_alloc GX.out _) _) HX.out (Kd.C_alloc (Kd.C_alloc GY.out _) _) HY.out HCc.out).mono ?_); rintro e w3 ⟨rfl, ⟨nd, rfl⟩⟩)
    all_goals
      go_ret
      refine ⟨?_, by repeat (first | exact Below.refl _ _ | apply below_alloc | apply pw_below_drewN)⟩
      first | rfl | (rw [← H2.out]; simp [*]; done) | (rw [← H2.out]; simp [*]; rfl)
  | true =>
    go_enter Tryd.func48, Tryd.ntmps48
    go_wp2_with (go_at_call 49; (with_reducible refine (api_Matcher_49.calls k _ _ x.f0 _ _ y.f0 true _ (Kd.C_alloc (Kd.C_alloc GX.out _) _) HX.out (Kd.C_alloc (Kd.C_alloc GY.out _) _) HY.out HCc.out).mono ?_); rintro e w3 ⟨rfl, ⟨nd, rfl⟩⟩)
    all_goals
      go_ret
      refine ⟨?_, by repeat (first | exact Below.refl _ _ | apply below_alloc | apply pw_below_drewN)⟩
      first | rfl | (rw [← H2.out]; simp [*]; done) | (rw [← H2.out]; simp [*]; rfl)
theorem dryrotplain_SameDeletes.calls (k : Nat) (A0 : Option Addr) (c0 : Nat) (l0 : List S77) (A1 : Option Addr) (c1 : Nat) (l1 : List S77) (r : Bool) (w : World) (hr0 : Kd.C k77 w A0 l0.length l0) (hc0 : l0.length ≤ c0) (hr1 : Kd.C k77 w A1 l1.length l1) (hc1 : l1.length ≤ c1) (h : dryrotplain_SameDeletes.f k l0 l1 = some r) :
    Calls Tryd.prog 28 #[.slice A0 l0.length c0, .slice A1 l1.length c1] w fun e w' => e = .returned (.bool r) ∧ Below w.heap.size w w' := by
  have HR0 := Aside0.mk hr0
  have HR1 := Aside0.mk hr1
  clear hr0 hr1
  unfold dryrotplain_SameDeletes.f at h
  by_cases hlen : l0.length = l1.length
  · rw [if_pos hlen] at h
    by_cases hmax : l0.length ≤ 4611686018427387904
    · rw [if_pos hmax] at h
      have H := Aside0.mk h
      clear h
      go_enter Tryd.func28, Tryd.ntmps28
      go_wp2_with (go_in)
      go_loopg [17] (l0.length) (fun kq v17 wr => ∃ (i : Nat) (ra rb : List S77), i ≤ l0.length ∧ v17 = .int .i64 i ∧ Aside0 (l0.drop i = ra ∧ l1.drop i = rb ∧ dryrotplain_SameDeletes.all k ra rb = some r) ∧ l0.length ≤ kq + i ∧ Aside0 (Below w.heap.size w wr))
      case atStart => exact ⟨0, l0, l1, by omega, rfl, ⟨rfl, rfl, H.out⟩, by omega, ⟨Below.refl _ _⟩⟩
      case round =>
        clear H
        obtain ⟨i, ra, rb, hi, rfl, HA, hk, HB⟩ := hrel
        by_cases hlt : i < l0.length
        · obtain ⟨g1, rfl⟩ : ∃ g1, gk = g1 + 1 := ⟨gk - 1, by omega⟩
          obtain ⟨x, ra2, hx⟩ : ∃ x ra2, Aside0 (ra = x :: ra2 ∧ rd_T77 l0 (i : Int) = x) := by
            have h1 := HA.out.1
            rw [List.drop_eq_getElem_cons hlt] at h1
            exact ⟨_, _, ⟨h1.symm, by simp [rd_T77, List.getD_eq_getElem?_getD, hlt]⟩⟩
          obtain ⟨y, rb2, hy⟩ : ∃ y rb2, Aside0 (rb = y :: rb2 ∧ rd_T77 l1 (i : Int) = y) := by
            have h1 := HA.out.2.1
            have hlt2 : i < l1.length := by omega
            rw [List.drop_eq_getElem_cons hlt2] at h1
            exact ⟨_, _, ⟨h1.symm, by simp [rd_T77, List.getD_eq_getElem?_getD, hlt2]⟩⟩
          obtain ⟨b, hb, HA2⟩ : ∃ b, Aside0 (dryrotplain_SameDeletes.same k x y = some b) ∧ Aside0 ((if b = true then dryrotplain_SameDeletes.all k ra2 rb2 else some false) = some r) := by
            have h1 := HA.out.2.2
            rw [hx.out.1, hy.out.1] at h1
            obtain ⟨b, h2, h3⟩ := Option.bind_eq_some_iff.1 h1
            exact ⟨b, ⟨h2⟩, ⟨h3⟩⟩
          have HD : Aside0 (l0.drop (i + 1) = ra2 ∧ l1.drop (i + 1) = rb2) := ⟨by
            have h1 := HA.out
            rw [hx.out.1, hy.out.1] at h1
            rw [← List.drop_drop, ← List.drop_drop, h1.1, h1.2.1]
            exact ⟨rfl, rfl⟩⟩
          obtain ⟨ad0, B0, d0, e0, f00, f01, f02, f03, g00, g01⟩ := at_T77 (Kd.C_below HR0.out HB.out) (i : Int) (by omega) (by omega)
          subst e0
          obtain ⟨ad1, B1, d1, e1, f10, f11, f12, f13, g10, g11⟩ := at_T77 (Kd.C_below HR1.out HB.out) (i : Int) (by omega) (by omega)
          subst e1
          rw [hx.out.2] at f00 f01 f02 f03 g00 g01
          rw [hy.out.2] at f10 f11 f12 f13 g10 g11
          simp only [Int.toNat_natCast] at f00 f01 f02 f03 f10 f11 f12 f13
          have hlt1 : i < l1.length := by omega
          have q0 : ∀ o : Obj, (wr.alloc o).cell? _ = some _ := fun o => ((below_alloc (Below.refl wr.heap.size wr) o).cell (World.block_lt_of_cell? wr _ f10)).trans f10
          have q1 : ∀ o : Obj, (wr.alloc o).cell? _ = some _ := fun o => ((below_alloc (Below.refl wr.heap.size wr) o).cell (World.block_lt_of_cell? wr _ f11)).trans f11
          have q2 : ∀ o : Obj, (wr.alloc o).cell? _ = some _ := fun o => ((below_alloc (Below.refl wr.heap.size wr) o).cell (World.block_lt_of_cell? wr _ f12)).trans f12
          have q3 : ∀ o : Obj, (wr.alloc o).cell? _ = some _ := fun o => ((below_alloc (Below.refl wr.heap.size wr) o).cell (World.block_lt_of_cell? wr _ f13)).trans f13
          have GX := Aside0.mk g01
          have GY := Aside0.mk g11
          have HX := Aside0.mk g00
          have HY := Aside0.mk g10
          clear g00 g01 g10 g11 HA hx hy
          cases b with
          | false =>
            have hr : Aside0 (r = false) := ⟨by simpa using HA2.out.symm⟩
            go_wp2_with (go_at_call 48; (with_reducible refine (dryrotplain_SameDeletes.calls_one k x y _ _ _ _ false _ HX.out (Kd.C_alloc (Kd.C_alloc GX.out _) _) HY.out (Kd.C_alloc (Kd.C_alloc GY.out _) _) hb.out).mono ?_); rintro e w3 ⟨rfl, hb3⟩; have HB3 := Aside0.mk (below_step (below_alloc (below_alloc HB.out _) _) hb3); clear hb3)
            go_ret
            exact ⟨by rw [hr.out]; rfl, HB3.out⟩
          | true =>
            have HA3 : Aside0 (dryrotplain_SameDeletes.all k ra2 rb2 = some r) := ⟨by simpa using HA2.out⟩
            go_wp2_with (go_at_call 48; (with_reducible refine (dryrotplain_SameDeletes.calls_one k x y _ _ _ _ true _ HX.out (Kd.C_alloc (Kd.C_alloc GX.out _) _) HY.out (Kd.C_alloc (Kd.C_alloc GY.out _) _) hb.out).mono ?_); rintro e w3 ⟨rfl, hb3⟩; have HB3 := Aside0.mk (below_step (below_alloc (below_alloc HB.out _) _) hb3); clear hb3)
            go_roundg g1
            case rel => exact ⟨i + 1, ra2, rb2, by omega, by go_num, ⟨HD.out.1, HD.out.2, HA3.out⟩, by omega, HB3⟩
            case measure => omega
        · have hr : Aside0 (r = true) := ⟨by
            have h1 := HA.out
            rw [List.drop_eq_nil_of_le (by omega)] at h1
            rw [← h1.1] at h1
            simpa [dryrotplain_SameDeletes.all] using h1.2.2.symm⟩
          go_wp2
          go_ret
          exact ⟨by rw [hr.out]; rfl, HB.out⟩
    · rw [if_neg hmax] at h
      cases h
  · rw [if_neg hlen] at h
    obtain rfl := Option.some.inj h
    have hne : ¬ (l0.length : Int) = (l1.length : Int) := by omega
    go_enter Tryd.func28, Tryd.ntmps28
    go_wp2_with (go_in)
    go_ret
    exact ⟨rfl, Below.refl _ _⟩

end Go.Proofs.YtgnehcgaplnfkaaDoor.PAll
