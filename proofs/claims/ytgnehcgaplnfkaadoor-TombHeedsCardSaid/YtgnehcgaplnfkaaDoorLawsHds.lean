/- Plain law: TombHeeds: what pruning leaves out hits nothing of a block of one of the ranks. No program runs in it. -/
import Derived.Test.YtgnehcgaplnfkaaDoorLawsPru
import Derived.Test.YtgnehcgaplnfkaaDoorPAllx61
import Derived.Test.YtgnehcgaplnfkaaDoorPAllx65
namespace Go.Proofs.YtgnehcgaplnfkaaDoor.PAll
open Go.RowKit Go.Proofs.YtgnehcgaplnfkaaDoorW.PrintWords Go.Proofs.YtgnehcgaplnfkaaDoorW.PrintLast Go.Proofs.YtgnehcgaplnfkaaDoorW.PrintMore
set_option linter.unusedVariables false
set_option linter.unusedSimpArgs false
attribute [local go_sem] max2_int min2_int max_two min_two max_three min_three max_four min_four
namespace Hds
open Go.Proofs.YtgnehcgaplnfkaaDoor.Laws (prune heed fits prune_ev wrap_up rd_drop_int)
theorem dec_same {P Q : Prop} (h : P ↔ Q) : regex_Match.dec P = regex_Match.dec Q :=
  Bool.eq_iff_iff.2 ((regex_Match.dec_iff P).trans (h.trans (regex_Match.dec_iff Q).symm))
theorem hits_same (a : List S77) (b : List Int) (l : List S42) (t r : Int) (hr : r ∈ b) : tomb_Hits.ans (prune b a) l t r = tomb_Hits.ans a l t r := by
  refine dec_same ⟨fun ⟨x, hx, h⟩ => ⟨x, (List.mem_filter.1 hx).1, h⟩, fun ⟨x, hx, h⟩ => ⟨x, List.mem_filter.2 ⟨hx, ?_⟩, h⟩⟩
  unfold heed
  rw [List.any_eq_true]
  exact ⟨r, hr, decide_eq_true h.1⟩
set_option maxHeartbeats 4000000 in
set_option maxRecDepth 100000 in
theorem heeds_walk (A0 : Option Addr) (c0 : Nat) (l0 : List S77) (A1 : Option Addr) (c1 : Nat) (l1 : List Int) (A2 : Option Addr) (c2 : Nat) (l2 : List S42) (t : Int) (w : World) (hG : strings_ToValidUTF8.Gd w) (hr0 : Kd.C k77 w A0 l0.length l0) (hc0 : l0.length ≤ c0) (hr1 : Kd.C (Kd.int .i64) w A1 l1.length l1) (hc1 : l1.length ≤ c1) (hr2 : Kd.C k42 w A2 l2.length l2) (hc2 : l2.length ≤ c2)
    (b0 : l0.length * 48 ≤ 140737488351232 ∧ ∀ y ∈ l0, ((y.f0.length * 40 ≤ 140737488351232 ∧ ∀ z ∈ y.f0, (Lit.int .i64 z.f0).wf = true ∧ z.f1.size ≤ 140737488351232 ∧ z.f2.size ≤ 140737488351232) ∧ (Lit.int .i64 y.f1).wf = true ∧ (Lit.int .i64 y.f2).wf = true ∧ (Lit.int .i64 y.f3).wf = true))
    (_ : l1.length * 8 ≤ 140737488351232 ∧ ∀ y ∈ l1, (Lit.int .i64 y).wf = true) (_ : l2.length * 32 ≤ 140737488351232 ∧ ∀ y ∈ l2, (y.f0.size ≤ 140737488351232 ∧ y.f1.size ≤ 140737488351232)) (_ : (Lit.int .i64 t).wf = true) :
    Calls Tryd.prog 9 #[.slice A0 l0.length c0, .slice A1 l1.length c1, .slice A2 l2.length c2, .int .i64 t] w fun e w' => e = .returned (.bool true) ∧ Below w.heap.size w w' := by
  have hf : fits (l0.take 20) := ⟨by rw [List.length_take]; omega, fun x hx => (b0.2 x (List.mem_of_mem_take hx)).1.1⟩
  have hb20 : (l1.take 20).length ≤ 20 := by rw [List.length_take]; omega
  obtain ⟨k, hk⟩ := (prune_ev (l0.take 20) (l1.take 20) hf hb20).rounds
  obtain ⟨p, hp⟩ : ∃ p, Aside0 (prune (l1.take 20) (l0.take 20) = p) := ⟨_, ⟨rfl⟩⟩
  have hpl : p.length ≤ (l0.take 20).length := by rw [← hp.out]; exact List.length_filter_le _ _
  rw [hp.out] at hk
  have HX := Aside0.mk hk
  have HG := Aside0.mk hG
  have HS : Aside0 (∀ r, r ∈ l1.take 20 → tomb_Hits.ans p l2 t r = tomb_Hits.ans (l0.take 20) l2 t r) := ⟨fun r hr => by rw [← hp.out]; exact hits_same _ _ _ _ _ hr⟩
  have HL := Aside0.mk hr2
  clear hk hG hf b0 hp hr2
  obtain ⟨a, ha⟩ : ∃ a, Aside0 (l0.take 20 = a) := ⟨_, ⟨rfl⟩⟩
  obtain ⟨b, hb⟩ : ∃ b, Aside0 (l1.take 20 = b) := ⟨_, ⟨rfl⟩⟩
  rw [ha.out, hb.out] at HX HS
  rw [ha.out] at hpl
  rw [hb.out] at hb20
  have hla : Aside0 (a.length = min 20 l0.length) := ⟨by rw [← ha.out, List.length_take]⟩
  have hlb : Aside0 (b.length = min 20 l1.length) := ⟨by rw [← hb.out, List.length_take]⟩
  have hm0 : (if (20 : Int) < (l0.length : Int) then 20 else (l0.length : Int)) = (a.length : Int) := by have := hla.out; split <;> omega
  have hm1 : (if (20 : Int) < (l1.length : Int) then 20 else (l1.length : Int)) = (b.length : Int) := by have := hlb.out; split <;> omega
  obtain ⟨i0, hi0⟩ := Option.isSome_iff_exists.1 (show (Tryd.prog.info? 77).isSome = true by kernel_rfl)
  obtain ⟨i1, hi1⟩ := Option.isSome_iff_exists.1 (show (Tryd.prog.info? 3).isSome = true by kernel_rfl)
  have hcut0 : ∀ W : World, (Instr.slice 49 (.slice A0 l0.length c0) none (some (.int .i64 (a.length : Int))) none).run Tryd.prog W = .ok (.slice A0 a.length c0) W := fun W => by
    have h9 := cut_to (P := Tryd.prog) 49 77 .i64 Tryd.underlying49 hi0 A0 l0.length c0 (a.length : Int) (by omega) (by have := hla.out; omega) hc0 W
    simpa using h9
  have hcut1 : ∀ W : World, (Instr.slice 50 (.slice A1 l1.length c1) none (some (.int .i64 (b.length : Int))) none).run Tryd.prog W = .ok (.slice A1 b.length c1) W := fun W => by
    have h9 := cut_to (P := Tryd.prog) 50 3 .i64 Tryd.underlying50 hi1 A1 l1.length c1 (b.length : Int) (by omega) (by have := hlb.out; omega) hc1 W
    simpa using h9
  have HA : Aside0 (Kd.C k77 w A0 a.length a) := ⟨by
    have h8 : l0.take a.length = a := by rw [hla.out, ← List.take_take, List.take_length, ha.out] <;> simp
    have h7 := Kd.C_take (m := a.length) hr0 (by have := hla.out; omega)
    rw [h8] at h7
    exact h7⟩
  have HB1 : Aside0 (Kd.C (Kd.int .i64) w A1 b.length b) := ⟨by
    have h8 : l1.take b.length = b := by rw [hlb.out, ← List.take_take, List.take_length, hb.out] <;> simp
    have h7 := Kd.C_take (m := b.length) hr1 (by have := hlb.out; omega)
    rw [h8] at h7
    exact h7⟩
  have HCA : Aside0 (a.length ≤ c0) := ⟨by have := hla.out; omega⟩
  have HCB : Aside0 (b.length ≤ c1) := ⟨by have := hlb.out; omega⟩
  have hple : decide ((p.length : Int) ≤ (a.length : Int)) = true := decide_eq_true (by omega)
  have hple2 : decide (p.length ≤ a.length) = true := decide_eq_true (by omega)
  clear hla hlb ha hb hr0 hr1 hc0 hc1 hi0 hi1 hpl
  go_enter Tryd.func9, Tryd.ntmps9
  go_wp2
  repeat (go_quiet (fail))
  go_wp2_with (go_at_call 25; (with_reducible refine (tomb_Prune.calls k _ _ a _ _ b p _ ?s1 HCA.out ?s2 HCB.out HX.out).mono ?_); (case s1 => repeat (first | exact HA.out | (with_reducible refine Kd.C_drewN ?_ _) | (with_reducible refine Kd.C_drew ?_))); (case s2 => repeat (first | exact HB1.out | (with_reducible refine Kd.C_drewN ?_ _) | (with_reducible refine Kd.C_drew ?_))); rintro e w1 ⟨v1, rfl, ho1, hb1⟩; have HBa : Aside0 (Below w.heap.size w w1) := ⟨below_step (by repeat (first | exact Below.refl _ _ | apply pw_below_drewN | apply below_drew1)) hb1⟩; obtain ⟨Ap, cp, ep⟩ := Kd.S_slice ho1; subst ep; have HP := Aside0.mk (Kd.S_reads' ho1); clear ho1 hb1)
  go_loopg [27] (b.length) (fun kq v27 wr => ∃ (x : Nat), x ≤ b.length ∧ v27 = .int .i64 x ∧ b.length ≤ kq + x ∧ Aside0 (Below w1.heap.size w1 wr))
  case atStart => exact ⟨0, by omega, rfl, by omega, ⟨by repeat (first | exact Below.refl _ _ | apply pw_below_drewN | apply below_drew1)⟩⟩
  case round =>
    obtain ⟨x, hx, rfl, hk, HB⟩ := hrel
    by_cases hlt : x < b.length
    · obtain ⟨ad, e, hcx⟩ := Kd.at_int (Kd.C_below (Kd.C_below HB1.out HBa.out) HB.out) (x : Int) (by omega) (by omega)
      subst e
      simp only [Int.toNat_natCast] at hcx
      obtain ⟨y, hy⟩ : ∃ y, Aside0 (rd b (x : Int) = y) := ⟨_, ⟨rfl⟩⟩
      have HYM : Aside0 (y ∈ b) := ⟨by rw [← hy.out]; simp [rd, List.getD_eq_getElem?_getD, hlt]⟩
      rw [hy.out] at hcx
      obtain ⟨v, hv⟩ : ∃ v, Aside0 (tomb_Hits.f a l2 t y = some v ∧ tomb_Hits.f p l2 t y = some v) := ⟨_, ⟨rfl, by unfold tomb_Hits.f; rw [HS.out y HYM.out]⟩⟩
      have hvv : (v != v) = false := by cases v <;> rfl
      obtain ⟨g1, rfl⟩ : ∃ g1, gk = g1 + 1 := ⟨gk - 1, by omega⟩
      have HG1 := Aside0.mk ((HG.out.below HBa.out).below HB.out)
      go_wp2_with (first
        | (go_at_call 26; (with_reducible refine (tomb_Hits.callsP Ap cp p A2 c2 l2 t y v _ (Kd.C_below HP.out.2.2 HB.out) HP.out.2.1 (Kd.C_below (Kd.C_below HL.out HBa.out) HB.out) hc2 HG1.out hv.out.2).mono ?_); rintro e w2 ⟨rfl, hb2⟩; have HB2 : Aside0 (Below w1.heap.size w1 w2) := ⟨below_then HB.out HB.out.size hb2⟩; have HG2 := Aside0.mk (HG1.out.below hb2); clear hb2)
        | (go_at_call 26; (with_reducible refine (tomb_Hits.callsP A0 c0 a A2 c2 l2 t y v _ (Kd.C_below (Kd.C_below HA.out HBa.out) HB2.out) HCA.out (Kd.C_below (Kd.C_below HL.out HBa.out) HB2.out) hc2 HG2.out hv.out.1).mono ?_); rintro e w3 ⟨rfl, hb3⟩; have HB3 : Aside0 (Below w1.heap.size w1 w3) := ⟨below_then HB2.out HB2.out.size hb3⟩; clear hb3))
      go_roundg g1
      case rel => exact ⟨x + 1, by omega, by go_num, by omega, HB3⟩
      case measure => omega
    · go_wp2_with (go_at_call 27; (with_reducible refine (dryrotlaw14_awake.calls true _ rfl).mono ?_); rintro e w4 ⟨rfl, hb4⟩; have HB4 : Aside0 (Below w.heap.size w w4) := ⟨below_then (below_then HBa.out HBa.out.size HB.out) (Nat.le_trans HBa.out.size HB.out.size) hb4⟩; clear hb4)
      go_ret
      exact ⟨rfl, HB4.out⟩
end Hds
end Go.Proofs.YtgnehcgaplnfkaaDoor.PAll
