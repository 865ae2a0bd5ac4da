-- Written by a program of this seat (wip/tools), out of the translation. Not trusted: Lean checks it.
import Derived.Test.YtgnehcgaplnfkaaDoorPAllx0
import Derived.Test.YtgnehcgaplnfkaaDoorPAllx3
import Derived.Test.YtgnehcgaplnfkaaDoorPAllx40
namespace Go.Proofs.YtgnehcgaplnfkaaDoor.PAll
open Go.RowKit Go.Proofs.YtgnehcgaplnfkaaDoorW.PrintWords Go.Proofs.YtgnehcgaplnfkaaDoorW.PrintLast Go.Proofs.YtgnehcgaplnfkaaDoorW.PrintMore
attribute [local go_sem] max2_int min2_int max_two min_two max_three min_three max_four min_four   -- for this text's walks alone
set_option linter.unusedVariables false
set_option linter.unusedSimpArgs false

/-! ### match_Can: function 19 -/
-- uses match_can
abbrev match_Can.Mt := S35
def match_Can.okB (x : match_Can.Mt) : Bool := match_can.canB x.f0 x.f1 x.f2
def match_Can.RetA (P : Prop) (e : Ending) : Prop := ∃ i : Int, e = .returned (.int .i64 i) ∧ (0 ≤ i ↔ P)
def match_Can.CanB (l : List match_Can.Mt) : Bool := decide (l.length ≤ 6) && l.all match_Can.okB
theorem match_Can.elem {w : World} {A : Option Addr} {l : List match_Can.Mt} (h : Kd.C k35 w A l.length l) (x : Nat) (hx : x < l.length) :
    ∃ ad, A = some ad ∧ w.cell? (ad.add (x * 3)) = some (.int .i64 (rd_T35 l x).f0) ∧ w.cell? ⟨(ad.add (x * 3)).block, (ad.add (x * 3)).off + 1, none⟩ = some (.string (rd_T35 l x).f1) ∧ w.cell? ⟨(ad.add (x * 3)).block, (ad.add (x * 3)).off + 2, none⟩ = some (.string (rd_T35 l x).f2) := by
  obtain ⟨ad, e, hc0, hc1, hc2⟩ := at_T35 h (x : Int) (by omega) (by omega)
  exact ⟨ad, e, by simpa using hc0, by simpa using hc1, by simpa using hc2⟩
theorem match_Can.rd_get (l : List match_Can.Mt) (x : Nat) (hx : x < l.length) : rd_T35 l (x : Int) = l[x]'hx := by simp [rd_T35, hx]
theorem match_Can.test (x : match_Can.Mt) (w : World) (hG : strings_ToValidUTF8.Gd w) :
    Calls Tryd.prog 37 #[.agg #[.int .i64 x.f0, .string x.f1, .string x.f2]] w fun e w' => e = .returned (.bool (!match_Can.okB x)) ∧ Below w.heap.size w w' := by
  obtain ⟨Wa, hWa⟩ : ∃ Wa, Aside0 (w.alloc (.cells #[.int .i64 x.f0, .string x.f1, .string x.f2] 35) = Wa) := ⟨_, ⟨rfl⟩⟩
  have hbl : Below w.heap.size w Wa := by rw [← hWa.out]; exact below_alloc (Below.refl _ _) _
  have HB := Aside0.mk hbl
  have HG := Aside0.mk (hG.below hbl)
  obtain ⟨b, hb⟩ : ∃ b, Aside0 (match_Can.okB x = b) := ⟨_, ⟨rfl⟩⟩
  have HC : Aside0 (match_can.canB x.f0 x.f1 x.f2 = b) := ⟨hb.out⟩
  rw [hb.out]
  clear hbl hG
  go_enter Tryd.func37, Tryd.ntmps37
  go_wp2_with (first
    | (go_at_call 38; rw [hWa.out]; (with_reducible refine (match_can.calls Wa x.f0 x.f1 x.f2 HG.out).mono ?_); rintro e W1 ⟨rfl, hB1⟩; rw [HC.out]; have HB1 := Aside0.mk hB1; clear hB1))
  go_ret
  exact ⟨rfl, below_then HB.out HB.out.size HB1.out⟩
set_option maxHeartbeats 1000000 in
theorem match_Can.index (A : Option Addr) (c : Nat) (l : List match_Can.Mt) (w : World) (hr : Kd.C k35 w A l.length l) (hm : l.length ≤ 9223372036854775807) (hG : strings_ToValidUTF8.Gd w) :
    Calls Tryd.prog 63 #[.slice A l.length c, .func (.func 37) #[] #[]] w fun e w' =>
      match_Can.RetA (l.all match_Can.okB = false) e ∧ Below w.heap.size w w' := by
  have HR := Aside0.mk hr
  have HG := Aside0.mk hG
  clear hr hG
  go_enter Tryd.func63, Tryd.ntmps63
  go_wp2
  go_loopg [8] (l.length) (fun kq v8 wr => ∃ (x : Nat), x ≤ l.length ∧ v8 = .int .i64 x ∧ Aside0 (∀ j (hj : j < l.length), j < x → match_Can.okB (l[j]'hj) = true) ∧ l.length ≤ kq + x ∧ Below w.heap.size w wr)
  case atStart => exact ⟨0, by omega, rfl, ⟨fun j _ hj => absurd hj (by omega)⟩, by omega, Below.refl _ _⟩
  case round =>
    obtain ⟨x, hx, rfl, HN, hk, hB⟩ := hrel
    have HB := Aside0.mk hB
    clear hB
    by_cases hlt : x < l.length
    · obtain ⟨ad, e, hc0, hc1, hc2⟩ := match_Can.elem (Kd.C_below HR.out HB.out) x hlt
      subst e
      have HGr := Aside0.mk (HG.out.below HB.out)
      have HRD := Aside0.mk (match_Can.rd_get l x hlt)
      obtain ⟨y, hy⟩ : ∃ y, Aside0 (rd_T35 l (x : Int) = y) := ⟨_, ⟨rfl⟩⟩
      rw [hy.out] at hc0 hc1 hc2 HRD
      cases hb : match_Can.okB y with
      | false =>
        have HBF := Aside0.mk hb
        clear hb
        go_wp2_with (go_at_call 37; (with_reducible refine (match_Can.test y _ HGr.out).mono ?_); rintro e W1 ⟨rfl, hb1⟩; rw [HBF.out]; have HB1 := Aside0.mk hb1; clear hb1)
        go_ret
        refine ⟨⟨x, rfl, ⟨fun _ => ?_, fun _ => by omega⟩⟩, HB.out.trans (HB1.out.mono HB.out.size)⟩
        rw [List.all_eq_false]
        exact ⟨y, by rw [HRD.out]; exact List.getElem_mem hlt, by simp [HBF.out]⟩
      | true =>
        have HBF := Aside0.mk hb
        clear hb
        obtain ⟨g1, rfl⟩ : ∃ g1, gk = g1 + 1 := ⟨gk - 1, by omega⟩
        go_wp2_with (go_at_call 37; (with_reducible refine (match_Can.test y _ HGr.out).mono ?_); rintro e W1 ⟨rfl, hb1⟩; rw [HBF.out]; have HB1 := Aside0.mk hb1; clear hb1)
        go_roundg g1
        case rel =>
          refine ⟨x + 1, by omega, by go_num, ⟨fun j hj hjx => ?_⟩, by omega, HB.out.trans (HB1.out.mono HB.out.size)⟩
          rcases Nat.lt_or_ge j x with h9 | h9
          · exact HN.out j hj h9
          · have : j = x := by omega
            subst this
            rw [← HRD.out]
            exact HBF.out
        case measure => omega
    · go_wp2
      go_ret
      refine ⟨⟨-1, rfl, ⟨fun h => absurd h (by decide), fun h => ?_⟩⟩, HB.out⟩
      exfalso
      rw [List.all_eq_false] at h
      obtain ⟨y, hy, h2⟩ := h
      obtain ⟨j, hj, rfl⟩ := List.getElem_of_mem hy
      exact h2 (HN.out j hj (by omega))
theorem match_Can.contains (A : Option Addr) (c : Nat) (l : List match_Can.Mt) (w : World) (hr : Kd.C k35 w A l.length l) (hG : strings_ToValidUTF8.Gd w) :
    Calls Tryd.prog 36 #[.slice A l.length c, .func (.func 37) #[] #[]] w fun e w' => e = .returned (.bool (!l.all match_Can.okB)) ∧ Below w.heap.size w w' := by
  have hm := hr.2.1
  go_enter Tryd.func36, Tryd.ntmps36
  go_wp2_with (go_at_call 63; refine (match_Can.index _ _ _ _ hr hm hG).mono ?_; rintro e W1 ⟨⟨i, rfl, hi⟩, hb1⟩; have HI := Aside0.mk hi; clear hi)
  go_ret
  have hd : decide (0 ≤ i) = !l.all match_Can.okB := by
    cases hl : l.all match_Can.okB with
    | false => exact decide_eq_true (HI.out.2 hl)
    | true => exact decide_eq_false (fun h => (by have h9 := HI.out.1 h; rw [hl] at h9; cases h9))
  exact ⟨by rw [← hd]; rfl, hb1⟩
theorem match_Can.calls (A : Option Addr) (c : Nat) (l : List match_Can.Mt) (w : World) (hr : Kd.C k35 w A l.length l) (hc : l.length ≤ c) (hG : strings_ToValidUTF8.Gd w) :
    Calls Tryd.prog 19 #[.slice A l.length c] w fun e w' => e = .returned (.bool (match_Can.CanB l)) ∧ Below w.heap.size w w' := by
  have HR := Aside0.mk hr
  have HG := Aside0.mk hG
  clear hr hG
  by_cases h6 : l.length ≤ 6
  · have hd : decide ((l.length : Int) ≤ 6) = true := decide_eq_true (by omega)
    have HV : Aside0 (match_Can.CanB l = l.all match_Can.okB) := ⟨by unfold match_Can.CanB; rw [decide_eq_true h6]; rfl⟩
    rw [HV.out]
    obtain ⟨b, hb⟩ : ∃ b, Aside0 (l.all match_Can.okB = b) := ⟨_, ⟨rfl⟩⟩
    rw [hb.out]
    go_enter Tryd.func19, Tryd.ntmps19
    go_wp2_with (go_at_call 36; refine (match_Can.contains A c l w HR.out HG.out).mono ?_; rintro e W1 ⟨rfl, hb1⟩; rw [hb.out])
    go_ret
    exact ⟨by simp, hb1⟩
  · have hd : decide ((l.length : Int) ≤ 6) = false := decide_eq_false (by omega)
    have HV : Aside0 (match_Can.CanB l = false) := ⟨by unfold match_Can.CanB; rw [decide_eq_false h6]; rfl⟩
    rw [HV.out]
    go_enter Tryd.func19, Tryd.ntmps19
    go_wp2
    go_ret
    exact ⟨rfl, Below.refl _ _⟩
-- in the form of the print
def match_Can.f (l0 : List match_Can.Mt) : Option Bool := some (match_Can.CanB l0)
theorem match_Can.callsP (A0 : Option Addr) (c0 : Nat) (l0 : List match_Can.Mt) (r : Bool) (w : World) (hr0 : Kd.C k35 w A0 l0.length l0) (hc0 : l0.length ≤ c0) (hG : strings_ToValidUTF8.Gd w) (h : match_Can.f l0 = some r) :
    Calls Tryd.prog 19 #[.slice A0 l0.length c0] w fun e w' => e = .returned (.bool r) ∧ Below w.heap.size w w' := by
  obtain rfl := Option.some.inj h
  exact match_Can.calls A0 c0 l0 w hr0 hc0 hG

end Go.Proofs.YtgnehcgaplnfkaaDoor.PAll
