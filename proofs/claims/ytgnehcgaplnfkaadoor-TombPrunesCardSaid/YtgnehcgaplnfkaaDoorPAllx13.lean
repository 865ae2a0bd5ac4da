-- Written by a program of this seat (wip/tools), out of the translation. Not trusted: Lean checks it.
import Derived.Test.YtgnehcgaplnfkaaDoorPAllx0
import Derived.Test.YtgnehcgaplnfkaaDoorPAllx4
import Derived.Test.YtgnehcgaplnfkaaDoorPAllx8
import Derived.Test.YtgnehcgaplnfkaaDoorPAllx10
import Derived.Test.YtgnehcgaplnfkaaDoorPAllx12
namespace Go.Proofs.YtgnehcgaplnfkaaDoor.PAll
open Go.RowKit Go.Proofs.YtgnehcgaplnfkaaDoorW.PrintWords Go.Proofs.YtgnehcgaplnfkaaDoorW.PrintLast Go.Proofs.YtgnehcgaplnfkaaDoorW.PrintMore
attribute [local go_sem] max2_int min2_int max_two min_two max_three min_three max_four min_four   -- for this text's walks alone
set_option linter.unusedVariables false
set_option linter.unusedSimpArgs false

/-! ### dryrotlaw14_TombPrunes: function 10 -/
-- uses tomb_Prune dryrotref14_Prune dryrotplain_SameDeletes dryrotlaw14_awake
def dryrotlaw14_TombPrunes.f (k : Nat) (l0 : List S77) (l1 : List Int) : Option Bool := (tomb_Prune.f k (l0.take 20) (l1.take 20)).bind fun x => (dryrotref14_Prune.f k (l0.take 20) (l1.take 20)).bind fun y => (dryrotplain_SameDeletes.f k x y).bind fun s => if s = true then dryrotlaw14_awake.f else some false
theorem dryrotlaw14_TombPrunes.mono : ∀ l0 l1 k, LeO (dryrotlaw14_TombPrunes.f k l0 l1) (dryrotlaw14_TombPrunes.f (k + 1) l0 l1) := by
  intro l0 l1 k
  exact LeO.bind (tomb_Prune.mono _ _ _) (fun x => LeO.bind (dryrotref14_Prune.mono _ _ _) (fun y => LeO.bind (dryrotplain_SameDeletes.mono _ _ _) (fun s => LeO.refl _)))
set_option maxHeartbeats 4000000 in
set_option maxRecDepth 100000 in
theorem dryrotlaw14_TombPrunes.calls (k : Nat) (A0 : Option Addr) (c0 : Nat) (l0 : List S77) (A1 : Option Addr) (c1 : Nat) (l1 : List Int) (r : Bool) (w : World) (hr0 : Kd.C k77 w A0 l0.length l0) (hc0 : l0.length ≤ c0) (hr1 : Kd.C (Kd.int .i64) w A1 l1.length l1) (hc1 : l1.length ≤ c1) (h : dryrotlaw14_TombPrunes.f k l0 l1 = some r) :
    Calls Tryd.prog 10 #[.slice A0 l0.length c0, .slice A1 l1.length c1] w fun e w' => e = .returned (.bool r) ∧ Below w.heap.size w w' := by
  obtain ⟨x, hx, h⟩ := Option.bind_eq_some_iff.1 h
  obtain ⟨y, hy, h⟩ := Option.bind_eq_some_iff.1 h
  obtain ⟨s, hs, h⟩ := Option.bind_eq_some_iff.1 h
  have HX := Aside0.mk hx
  have HY := Aside0.mk hy
  have HS := Aside0.mk hs
  have H := Aside0.mk h
  clear hx hy hs h
  obtain ⟨a, ha⟩ : ∃ a, Aside0 (l0.take 20 = a) := ⟨_, ⟨rfl⟩⟩
  obtain ⟨b, hb⟩ : ∃ b, Aside0 (l1.take 20 = b) := ⟨_, ⟨rfl⟩⟩
  rw [ha.out, hb.out] at HX HY
  have hla : Aside0 (a.length = min 20 l0.length) := ⟨by rw [← ha.out, List.length_take]⟩
  have hlb : Aside0 (b.length = min 20 l1.length) := ⟨by rw [← hb.out, List.length_take]⟩
  have hm0 : (if (20 : Int) < (l0.length : Int) then 20 else (l0.length : Int)) = (a.length : Int) := by have := hla.out; split <;> omega
  have hm1 : (if (20 : Int) < (l1.length : Int) then 20 else (l1.length : Int)) = (b.length : Int) := by have := hlb.out; split <;> omega
  obtain ⟨i0, hi0⟩ := Option.isSome_iff_exists.1 (show (Tryd.prog.info? 77).isSome = true by kernel_rfl)
  obtain ⟨i1, hi1⟩ := Option.isSome_iff_exists.1 (show (Tryd.prog.info? 3).isSome = true by kernel_rfl)
  have hcut0 : ∀ W : World, (Instr.slice 49 (.slice A0 l0.length c0) none (some (.int .i64 (a.length : Int))) none).run Tryd.prog W = .ok (.slice A0 a.length c0) W := fun W => by
    have h9 := cut_to (P := Tryd.prog) 49 77 .i64 Tryd.underlying49 hi0 A0 l0.length c0 (a.length : Int) (by omega) (by have := hla.out; omega) hc0 W
    simpa using h9
  have hcut1 : ∀ W : World, (Instr.slice 50 (.slice A1 l1.length c1) none (some (.int .i64 (b.length : Int))) none).run Tryd.prog W = .ok (.slice A1 b.length c1) W := fun W => by
    have h9 := cut_to (P := Tryd.prog) 50 3 .i64 Tryd.underlying50 hi1 A1 l1.length c1 (b.length : Int) (by omega) (by have := hlb.out; omega) hc1 W
    simpa using h9
  have HA : Aside0 (Kd.C k77 w A0 a.length a) := ⟨by
    have h9 := Kd.C_take (m := 20) hr0
    have h8 : l0.take a.length = a := by rw [hla.out, ← List.take_take, List.take_length, ha.out] <;> simp
    have h7 := Kd.C_take (m := a.length) hr0 (by have := hla.out; omega)
    rw [h8] at h7
    exact h7⟩
  have HB1 : Aside0 (Kd.C (Kd.int .i64) w A1 b.length b) := ⟨by
    have h8 : l1.take b.length = b := by rw [hlb.out, ← List.take_take, List.take_length, hb.out] <;> simp
    have h7 := Kd.C_take (m := b.length) hr1 (by have := hlb.out; omega)
    rw [h8] at h7
    exact h7⟩
  have HCA : Aside0 (a.length ≤ c0) := ⟨by have := hla.out; omega⟩
  have HCB : Aside0 (b.length ≤ c1) := ⟨by have := hlb.out; omega⟩
  clear hla hlb ha hb hr0 hr1 hc0 hc1 hi0 hi1
  go_enter Tryd.func10, Tryd.ntmps10
  cases s with
  | false =>
    have hr : Aside0 (r = false) := ⟨by simpa using H.out.symm⟩
    go_wp2
    repeat (go_quiet (fail))
    go_wp2_with (first
      | (go_at_call 25; (with_reducible refine (tomb_Prune.calls k _ _ a _ _ b x _ ?s1 HCA.out ?s2 HCB.out HX.out).mono ?_); (case s1 => repeat (first | exact HA.out | (with_reducible refine Kd.C_drewN ?_ _) | (with_reducible refine Kd.C_drew ?_))); (case s2 => repeat (first | exact HB1.out | (with_reducible refine Kd.C_drewN ?_ _) | (with_reducible refine Kd.C_drew ?_))); rintro e w1 ⟨v1, rfl, ho1, hb1⟩; have HBa : Aside0 (Below w.heap.size w w1) := ⟨below_step (by repeat (first | exact Below.refl _ _ | apply pw_below_drewN | apply below_drew1)) hb1⟩; have HO1 := Aside0.mk ho1; clear ho1 hb1)
      | (go_at_call 29; (with_reducible refine (dryrotref14_Prune.calls k _ _ a _ _ b y _ (Kd.C_below HA.out HBa.out) HCA.out (Kd.C_below HB1.out HBa.out) HCB.out HY.out).mono ?_); rintro e w2 ⟨v2, rfl, ho2, hb2⟩; have HBb : Aside0 (Below w.heap.size w w2) := ⟨below_step HBa.out hb2⟩; have HO1b := Aside0.mk (Kd.S_elder' HO1.out (Kd.S_base ho2) hb2); have HO2 := Aside0.mk ho2; clear ho2 hb2; obtain ⟨Ax, cx, ex⟩ := Kd.S_slice HO1b.out; subst ex; obtain ⟨Ay, cy, ey⟩ := Kd.S_slice HO2.out; subst ey)
      | (go_at_call 28; (with_reducible refine (dryrotplain_SameDeletes.calls k _ _ x _ _ y false _ (Kd.S_reads' HO1b.out).2.2 (Kd.S_reads' HO1b.out).2.1 (Kd.S_reads' HO2.out).2.2 (Kd.S_reads' HO2.out).2.1 HS.out).mono ?_); rintro e w3 ⟨rfl, hb3⟩; have HB3 : Aside0 (Below w.heap.size w w3) := ⟨below_step HBb.out hb3⟩; clear hb3))
    go_ret
    exact ⟨by rw [hr.out]; rfl, HB3.out⟩
  | true =>
    have hr : Aside0 (r = true) := ⟨by have h9 := H.out; simp only [if_true, dryrotlaw14_awake.f] at h9; exact (Option.some.inj h9).symm⟩
    go_wp2
    repeat (go_quiet (fail))
    go_wp2_with (first
      | (go_at_call 25; (with_reducible refine (tomb_Prune.calls k _ _ a _ _ b x _ ?s1 HCA.out ?s2 HCB.out HX.out).mono ?_); (case s1 => repeat (first | exact HA.out | (with_reducible refine Kd.C_drewN ?_ _) | (with_reducible refine Kd.C_drew ?_))); (case s2 => repeat (first | exact HB1.out | (with_reducible refine Kd.C_drewN ?_ _) | (with_reducible refine Kd.C_drew ?_))); rintro e w1 ⟨v1, rfl, ho1, hb1⟩; have HBa : Aside0 (Below w.heap.size w w1) := ⟨below_step (by repeat (first | exact Below.refl _ _ | apply pw_below_drewN | apply below_drew1)) hb1⟩; have HO1 := Aside0.mk ho1; clear ho1 hb1)
      | (go_at_call 29; (with_reducible refine (dryrotref14_Prune.calls k _ _ a _ _ b y _ (Kd.C_below HA.out HBa.out) HCA.out (Kd.C_below HB1.out HBa.out) HCB.out HY.out).mono ?_); rintro e w2 ⟨v2, rfl, ho2, hb2⟩; have HBb : Aside0 (Below w.heap.size w w2) := ⟨below_step HBa.out hb2⟩; have HO1b := Aside0.mk (Kd.S_elder' HO1.out (Kd.S_base ho2) hb2); have HO2 := Aside0.mk ho2; clear ho2 hb2; obtain ⟨Ax, cx, ex⟩ := Kd.S_slice HO1b.out; subst ex; obtain ⟨Ay, cy, ey⟩ := Kd.S_slice HO2.out; subst ey)
      | (go_at_call 28; (with_reducible refine (dryrotplain_SameDeletes.calls k _ _ x _ _ y true _ (Kd.S_reads' HO1b.out).2.2 (Kd.S_reads' HO1b.out).2.1 (Kd.S_reads' HO2.out).2.2 (Kd.S_reads' HO2.out).2.1 HS.out).mono ?_); rintro e w3 ⟨rfl, hb3⟩; have HB3 : Aside0 (Below w.heap.size w w3) := ⟨below_step HBb.out hb3⟩; clear hb3)
      | (go_at_call 27; (with_reducible refine (dryrotlaw14_awake.calls true _ rfl).mono ?_); rintro e w4 ⟨rfl, hb4⟩; have HB4 : Aside0 (Below w.heap.size w w4) := ⟨below_step HB3.out hb4⟩; clear hb4))
    go_ret
    exact ⟨by rw [hr.out]; rfl, HB4.out⟩

end Go.Proofs.YtgnehcgaplnfkaaDoor.PAll
