/- The walks of the laws MatchEmpty and MatchNot, over the contracts of match's functions. -/
import Derived.Test.YtgnehcgaplnfkaaDoorPAllx32
import Derived.Test.YtgnehcgaplnfkaaDoorPAllx25
import Derived.Test.YtgnehcgaplnfkaaDoorPAllx40
import Derived.Test.YtgnehcgaplnfkaaDoorPAllx48
import Derived.Test.YtgnehcgaplnfkaaDoorBase
namespace Go.Proofs.YtgnehcgaplnfkaaDoor.PAll
open Go.RowKit Go.Proofs.YtgnehcgaplnfkaaDoorW.PrintWords Go.Proofs.YtgnehcgaplnfkaaDoorW.PrintLast Go.Proofs.YtgnehcgaplnfkaaDoorW.PrintMore
set_option linter.unusedVariables false
set_option linter.unusedSimpArgs false
namespace Mat
abbrev Lb := S42
theorem wrap_up (i : Nat) (h : i < 9223372036854775807) : wrap64 ((i : Int) + 1) = ((i + 1 : Nat) : Int) := by
  unfold wrap64
  omega
theorem rd_drop (l : List Lb) (i : Nat) (x : Lb) (r : List Lb) (h : l.drop i = x :: r) : rd_T42 l (i : Int) = x ∧ i < l.length ∧ l.drop (i + 1) = r := by
  have hlt : i < l.length := by
    rcases Nat.lt_or_ge i l.length with h1 | h1
    · exact h1
    · rw [List.drop_eq_nil_of_le h1] at h
      cases h
  rw [List.drop_eq_getElem_cons hlt] at h
  obtain ⟨h1, h2⟩ := List.cons.inj h
  refine ⟨?_, hlt, h2⟩
  rw [← h1]
  simp [rd_T42, List.getD_eq_getElem?_getD, hlt]
theorem rget_l0 (l : List Lb) (a : ByteArray) (hl : l.length ≤ 9223372036854775807) : ∀ (r : List Lb) (i : Nat), l.drop i = r → Ev (fun k => dryrotref07_Get.l0 k a l (l.length : Int) (i : Int)) (labels_Get.get a r) := by
  intro r
  induction r with
  | nil =>
    intro i h
    have hi : l.length ≤ i := List.drop_eq_nil_iff.1 h
    refine Ev.step (f := fun _ => some (⟨#[]⟩ : ByteArray)) (fun k => ?_) (by simpa [labels_Get.get] using Ev.now (⟨#[]⟩ : ByteArray))
    simp only [dryrotref07_Get.l0]
    rw [if_neg (by omega)]
  | cons x r ih =>
    intro i h
    obtain ⟨hx, hi, hr⟩ := rd_drop l i x r h
    have hw := wrap_up i (by omega)
    by_cases he : x.f0.toList = a.toList
    · have e : labels_Get.get a (x :: r) = x.f1 := by rw [labels_Get.get, if_pos he]
      rw [e]
      refine Ev.step (f := fun _ => some x.f1) (fun k => ?_) (Ev.now _)
      simp only [dryrotref07_Get.l0]
      rw [if_pos (by omega), if_pos (by omega), if_pos (by omega), hx, if_pos he]
    · have e : labels_Get.get a (x :: r) = labels_Get.get a r := by rw [labels_Get.get, if_neg he]
      rw [e]
      refine Ev.step (fun k => ?_) (ih (i + 1) hr)
      simp only [dryrotref07_Get.l0]
      rw [if_pos (by omega), if_pos (by omega), if_pos (by omega), hx, if_neg he, hw]
theorem rget (l : List Lb) (a : ByteArray) (hl : l.length ≤ 9223372036854775807) : ∃ k, dryrotref07_Get.f k l a = some (labels_Get.get a l) := (rget_l0 l a hl l 0 rfl).rounds
/-- A Bool tells whether P (a word of its own: the walk's simp takes an iff with 'true = true' apart). -/
def Tells (b : Bool) (P : Prop) : Prop := b = true ↔ P
theorem one_is (w : World) (A : Option Addr) (c : Nat) (l : List Lb) (kind : Int) (name value v : ByteArray) (o : Bool) (hv : labels_Get.get name l = v) (ho : Tells o (match_One.OneP kind value v)) (hr : Kd.C k42 w A l.length l) (hc : l.length ≤ c) (hG : strings_ToValidUTF8.Gd w) :
    Calls Tryd.prog 18 #[.agg #[.int .i64 kind, .string name, .string value], .slice A l.length c] w fun e w' => e = .returned (.bool o) ∧ Below w.heap.size w w' := by
  refine (match_One.calls w A c l kind name value hr hc hG).mono ?_
  rintro e w' ⟨⟨b, rfl, hb⟩, hB⟩
  rw [hv] at hb
  have : b = o := by
    have h := hb.trans (Iff.symm ho)
    cases b <;> cases o <;> simp_all
  exact ⟨by rw [this], hB⟩
theorem unit_parse : regex_parse.parseM ⟨#[40, 41]⟩ = some [⟨4, [], false, 0, 0⟩] := by kernel_rfl
theorem unit_none (r : List Int) : ∀ S : Nat → Prop, (∀ i, ¬ S i) → ¬ regex_Match.RunS [(⟨4, [], false, 0, 0⟩ : S62)] r S 0 := by
  induction r with
  | nil => exact fun S h => h 0
  | cons x r ih =>
    intro S h
    refine ih _ (fun j => ?_)
    rintro ⟨i, y, h1, _⟩
    exact h i h1
theorem unit_fits (v : ByteArray) : match_One.Fits ⟨#[40, 41]⟩ v ↔ v = ⟨#[]⟩ := by
  constructor
  · rintro ⟨code, hc, ha⟩
    rw [unit_parse] at hc
    injection hc with hc
    subst hc
    rcases Nat.eq_zero_or_pos v.size with h0 | h0
    · cases v with
      | mk d => exact congrArg ByteArray.mk (Array.eq_empty_of_size_eq_zero h0)
    · exfalso
      have hr : Base.runesOf v = ((Utf8.decode v 0).1 : Int) :: Base.runesFrom v (v.size - 1) (0 + (Utf8.decode v 0).2) := by
        unfold Base.runesOf
        obtain ⟨m, hm⟩ : ∃ m, v.size = m + 1 := ⟨v.size - 1, by omega⟩
        rw [hm]
        exact Base.runesFrom_step v m 0 h0
      unfold regex_Match.Acc at ha
      rw [hr] at ha
      refine unit_none (Base.runesFrom v (v.size - 1) (0 + (Utf8.decode v 0).2)) (regex_Match.Step _ ((Utf8.decode v 0).1 : Int) _) (fun j => ?_) ha
      rintro ⟨i, y, _, h2, h3, _⟩
      match i, h2 with
      | 0, h2 =>
        have h4 : (⟨4, [], false, 0, 0⟩ : S62) = y := Option.some.inj h2
        subst h4
        exact absurd h3 (show ¬ (4 : Int) = 1 by decide)
      | i + 1, h2 => simp at h2
  · rintro rfl
    exact ⟨_, unit_parse, regex_follow.Reach.refl _ 0⟩
set_option maxHeartbeats 4000000 in
set_option maxRecDepth 10000 in
theorem empty_walk (A : Option Addr) (c : Nat) (l : List Lb) (name : ByteArray) (w : World) (hG : strings_ToValidUTF8.Gd w) (hr : Kd.C k42 w A l.length l) (hc : l.length ≤ c) :
    Calls Tryd.prog 8 #[.slice A l.length c, .string name] w fun e w' => e = .returned (.bool true) ∧ Below w.heap.size w w' := by
  obtain ⟨v, hv⟩ : ∃ v, Aside0 (labels_Get.get name l = v) := ⟨_, ⟨rfl⟩⟩
  obtain ⟨k, hk⟩ := rget l name hr.2.1
  rw [hv.out] at hk
  have HK := Aside0.mk hk
  obtain ⟨z, hz⟩ : ∃ z : Bool, z = decide (v.size = 0) := ⟨_, rfl⟩
  have hvz : z = true ↔ v = ⟨#[]⟩ := by
    rw [hz, decide_eq_true_iff]
    constructor
    · intro h0
      cases v with
      | mk d => exact congrArg ByteArray.mk (Array.eq_empty_of_size_eq_zero h0)
    · rintro rfl
      rfl
  have o1 : Aside0 (Tells z (match_One.OneP 1 ⟨#[]⟩ v)) := ⟨hvz.trans ⟨fun h => Or.inl ⟨rfl, h⟩, fun h => by
    rcases h with ⟨_, h⟩ | ⟨h, _⟩ | ⟨h, _⟩ | ⟨h, _⟩
    · exact h
    · exact absurd h (by decide)
    · exact absurd h (by decide)
    · exact absurd h (by decide)⟩⟩
  have o2 : Aside0 (Tells (!z) (match_One.OneP 2 ⟨#[]⟩ v)) := ⟨by
    have h2 : (!z) = true ↔ v ≠ ⟨#[]⟩ := by
      rw [Ne, ← hvz]
      cases z <;> simp
    refine h2.trans ⟨fun h => Or.inr (Or.inl ⟨rfl, h⟩), fun h => ?_⟩
    rcases h with ⟨h, _⟩ | ⟨_, h⟩ | ⟨h, _⟩ | ⟨h, _⟩
    · exact absurd h (by decide)
    · exact h
    · exact absurd h (by decide)
    · exact absurd h (by decide)⟩
  have o3 : Aside0 (Tells z (match_One.OneP 3 ⟨#[40, 41]⟩ v)) := ⟨(hvz.trans (unit_fits v).symm).trans ⟨fun h => Or.inr (Or.inr (Or.inl ⟨rfl, h⟩)), fun h => by
    rcases h with ⟨h, _⟩ | ⟨h, _⟩ | ⟨_, h⟩ | ⟨h, _⟩
    · exact absurd h (by decide)
    · exact absurd h (by decide)
    · exact h
    · exact absurd h (by decide)⟩⟩
  have he : v.toList.isEmpty = z := by rw [hz]; exact match_can.empty_list v
  have HG := Aside0.mk hG
  have HR := Aside0.mk hr
  clear hG hr hz hvz hk
  cases z
  all_goals
    go_enter Tryd.func8, Tryd.ntmps8
    go_wp2_with (first
      | (go_at_call 24; (with_reducible refine (dryrotref07_Get.calls k A c l name v w HR.out hc HK.out).mono ?_); rintro e W1 ⟨rfl, hB1⟩; have HB1 := Aside0.mk hB1; have HR1 := Aside0.mk (Kd.C_below HR.out hB1); have HG1 := Aside0.mk (HG.out.below hB1); clear hB1)
      | (go_at_call 18; (with_reducible refine (one_is W1 A c l 1 name ⟨#[]⟩ v _ hv.out o1.out HR1.out hc HG1.out).mono ?_); rintro e W2 ⟨rfl, hB2⟩; have HB2 := Aside0.mk hB2; have HR2 := Aside0.mk (Kd.C_below HR1.out hB2); have HG2 := Aside0.mk (HG1.out.below hB2); clear hB2)
      | (go_at_call 18; (with_reducible refine (one_is W2 A c l 2 name ⟨#[]⟩ v _ hv.out o2.out HR2.out hc HG2.out).mono ?_); rintro e W3 ⟨rfl, hB3⟩; have HB3 := Aside0.mk hB3; have HR3 := Aside0.mk (Kd.C_below HR2.out hB3); have HG3 := Aside0.mk (HG2.out.below hB3); clear hB3)
      | (go_at_call 18; (with_reducible refine (one_is W3 A c l 3 name ⟨#[40, 41]⟩ v _ hv.out o3.out HR3.out hc HG3.out).mono ?_); rintro e W4 ⟨rfl, hB4⟩; have HB4 := Aside0.mk hB4; have HG4 := Aside0.mk (HG3.out.below hB4); clear hB4)
      | (go_at_call 20; (with_reducible refine (dryrotlaw09_awake.calls W4 HG4.out).mono ?_); rintro e W5 ⟨rfl, hB5⟩; have HB5 := Aside0.mk hB5; clear hB5))
    go_ret
    exact ⟨rfl, (((HB1.out.trans (HB2.out.mono HB1.out.size)).trans (HB3.out.mono (Nat.le_trans HB1.out.size HB2.out.size))).trans (HB4.out.mono (Nat.le_trans (Nat.le_trans HB1.out.size HB2.out.size) HB3.out.size))).trans (HB5.out.mono (Nat.le_trans (Nat.le_trans (Nat.le_trans HB1.out.size HB2.out.size) HB3.out.size) HB4.out.size))⟩
end Mat
end Go.Proofs.YtgnehcgaplnfkaaDoor.PAll
