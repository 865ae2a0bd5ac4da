-- Written by a program of this seat (wip/tools), out of the translation. Not trusted: Lean checks it.
import Derived.Test.YtgnehcgaplnfkaaDoorPAllx0
import Derived.Test.YtgnehcgaplnfkaaDoorPAllx3
import Derived.Test.YtgnehcgaplnfkaaDoorPAllx22
import Derived.Test.YtgnehcgaplnfkaaDoorPAllx33
import Derived.Test.YtgnehcgaplnfkaaDoorPAllx34
import Derived.Test.YtgnehcgaplnfkaaDoorPAllx41
namespace Go.Proofs.YtgnehcgaplnfkaaDoor.PAll
open Go.RowKit Go.Proofs.YtgnehcgaplnfkaaDoorW.PrintWords Go.Proofs.YtgnehcgaplnfkaaDoorW.PrintLast Go.Proofs.YtgnehcgaplnfkaaDoorW.PrintMore
attribute [local go_sem] max2_int min2_int max_two min_two max_three min_three max_four min_four   -- for this text's walks alone
set_option linter.unusedVariables false
set_option linter.unusedSimpArgs false

/-! ### match_All: function 23 -/
-- uses match_One match_Can
abbrev match_All.Mt := S35
abbrev match_All.Lb := S42
def match_All.P (l : List match_All.Lb) (x : match_All.Mt) : Prop := match_One.OneP x.f0 x.f2 (labels_Get.get x.f1 l)
theorem match_All.test (x : match_All.Mt) (A : Option Addr) (c : Nat) (l : List match_All.Lb) (g : Nat) (w : World) (hg : w.cell? ⟨g, 0, none⟩ = some (.slice A l.length c)) (hr : Kd.C k42 w A l.length l) (hc : l.length ≤ c) (hG : strings_ToValidUTF8.Gd w) :
    Calls Tryd.prog 42 #[.agg #[.int .i64 x.f0, .string x.f1, .string x.f2], .pointer (some ⟨g, 0, none⟩)] w fun e w' => match_One.RetN (match_All.P l x) e ∧ Below w.heap.size w w' := by
  obtain ⟨Wa, hWa⟩ : ∃ Wa, Aside0 (w.alloc (.cells #[.int .i64 x.f0, .string x.f1, .string x.f2] 35) = Wa) := ⟨_, ⟨rfl⟩⟩
  have hbl : Below w.heap.size w Wa := by rw [← hWa.out]; exact below_alloc (Below.refl _ _) _
  have hlt := World.block_lt_of_cell? w _ hg
  have hne : g ≠ w.heap.size := by simp only at hlt; omega
  have HB := Aside0.mk hbl
  have HG := Aside0.mk (hG.below hbl)
  have HR := Aside0.mk (Kd.C_below hr hbl)
  clear hbl hG hr
  go_enter Tryd.func42, Tryd.ntmps42
  go_wp2_with (first
    | (go_at_call 18; rw [hWa.out]; (with_reducible refine (match_One.calls Wa A c l x.f0 x.f1 x.f2 HR.out hc HG.out).mono ?_); rintro e W1 ⟨⟨b, rfl, hb⟩, hB1⟩; have HB1 := Aside0.mk hB1; have HBB := Aside0.mk hb; clear hB1 hb))
  go_ret
  refine ⟨⟨!b, rfl, ?_⟩, below_then HB.out HB.out.size HB1.out⟩
  refine Iff.trans ?_ HBB.out
  cases b <;> simp
set_option maxHeartbeats 1000000 in
theorem match_All.index (A : Option Addr) (c : Nat) (m : List match_All.Mt) (B : Option Addr) (d : Nat) (l : List match_All.Lb) (g : Nat) (w : World) (hr : Kd.C k35 w A m.length m) (hm : m.length ≤ 9223372036854775807) (hg : w.cell? ⟨g, 0, none⟩ = some (.slice B l.length d)) (hl : Kd.C k42 w B l.length l) (hd : l.length ≤ d) (hG : strings_ToValidUTF8.Gd w) :
    Calls Tryd.prog 63 #[.slice A m.length c, .func (.func 42) #[] #[.pointer (some ⟨g, 0, none⟩)]] w fun e w' =>
      match_One.RetI (∀ x, x ∈ m → match_All.P l x) e ∧ Below w.heap.size w w' := by
  have HR := Aside0.mk hr
  have HG := Aside0.mk hG
  have HL := Aside0.mk hl
  have HGC := Aside0.mk hg
  have hgl := World.block_lt_of_cell? w _ hg
  clear hr hG hl hg
  go_enter Tryd.func63, Tryd.ntmps63
  go_wp2
  go_loopg [8] (m.length) (fun kq v8 wr => ∃ (x : Nat), x ≤ m.length ∧ v8 = .int .i64 x ∧ Aside0 (∀ j (hj : j < m.length), j < x → match_All.P l (m[j]'hj)) ∧ m.length ≤ kq + x ∧ Below w.heap.size w wr)
  case atStart => exact ⟨0, by omega, rfl, ⟨fun j _ hj => absurd hj (by omega)⟩, by omega, Below.refl _ _⟩
  case round =>
    obtain ⟨x, hx, rfl, HN, hk, hB⟩ := hrel
    have HB := Aside0.mk hB
    clear hB
    by_cases hlt : x < m.length
    · obtain ⟨ad, e, hc0, hc1, hc2⟩ := match_Can.elem (Kd.C_below HR.out HB.out) x hlt
      subst e
      have HGr := Aside0.mk (HG.out.below HB.out)
      have HGc := Aside0.mk ((HB.out.cell (by simpa using hgl)).trans HGC.out)
      have HRD := Aside0.mk (match_Can.rd_get m x hlt)
      obtain ⟨y, hy⟩ : ∃ y, Aside0 (rd_T35 m (x : Int) = y) := ⟨_, ⟨rfl⟩⟩
      rw [hy.out] at hc0 hc1 hc2 HRD
      obtain ⟨g1, rfl⟩ : ∃ g1, gk = g1 + 1 := ⟨gk - 1, by omega⟩
      go_wp2_with (go_at_call 42; (with_reducible refine (match_All.test y B d l g _ HGc.out (Kd.C_below HL.out HB.out) hd HGr.out).mono ?_); rintro e W1 ⟨⟨b, rfl, hb⟩, hb1⟩; have HB1 := Aside0.mk hb1; have HBB := Aside0.mk hb; clear hb1 hb)
      · have hbt : b = true := by assumption
        go_ret
        refine ⟨⟨x, rfl, ⟨fun h => absurd (by omega) h, fun h => ?_⟩⟩, HB.out.trans (HB1.out.mono HB.out.size)⟩
        exfalso
        have h9 := HBB.out.2 (by rw [HRD.out]; exact h _ (List.getElem_mem hlt))
        rw [hbt] at h9
        cases h9
      · have hbf : b = false := by assumption
        go_roundg g1
        case rel =>
          refine ⟨x + 1, by omega, by go_num, ⟨fun j hj hjx => ?_⟩, by omega, HB.out.trans (HB1.out.mono HB.out.size)⟩
          rcases Nat.lt_or_ge j x with h9 | h9
          · exact HN.out j hj h9
          · have : j = x := by omega
            subst this
            rw [← HRD.out]
            exact HBB.out.1 hbf
        case measure => omega
    · go_wp2
      go_ret
      refine ⟨⟨-1, rfl, ⟨fun _ y hy => ?_, fun _ h => absurd h (by decide)⟩⟩, HB.out⟩
      obtain ⟨j, hj, rfl⟩ := List.getElem_of_mem hy
      exact HN.out j hj (by omega)
theorem match_All.contains (A : Option Addr) (c : Nat) (m : List match_All.Mt) (B : Option Addr) (d : Nat) (l : List match_All.Lb) (g : Nat) (w : World) (hr : Kd.C k35 w A m.length m) (hg : w.cell? ⟨g, 0, none⟩ = some (.slice B l.length d)) (hl : Kd.C k42 w B l.length l) (hd : l.length ≤ d) (hG : strings_ToValidUTF8.Gd w) :
    Calls Tryd.prog 36 #[.slice A m.length c, .func (.func 42) #[] #[.pointer (some ⟨g, 0, none⟩)]] w fun e w' => match_One.RetN (∀ x, x ∈ m → match_All.P l x) e ∧ Below w.heap.size w w' := by
  have hm := hr.2.1
  go_enter Tryd.func36, Tryd.ntmps36
  go_wp2_with (go_at_call 63; refine (match_All.index _ _ _ _ _ _ _ _ hr hm hg hl hd hG).mono ?_; rintro e W1 ⟨⟨i, rfl, hi⟩, hb1⟩; have HI := Aside0.mk hi; clear hi)
  go_ret
  refine ⟨⟨_, rfl, ?_⟩, hb1⟩
  refine Iff.trans ?_ HI.out
  simp
theorem match_All.calls (A : Option Addr) (c : Nat) (m : List match_All.Mt) (B : Option Addr) (d : Nat) (l : List match_All.Lb) (w : World) (hr : Kd.C k35 w A m.length m) (hc : m.length ≤ c) (hl : Kd.C k42 w B l.length l) (hd : l.length ≤ d) (hG : strings_ToValidUTF8.Gd w) :
    Calls Tryd.prog 23 #[.slice A m.length c, .slice B l.length d] w fun e w' => match_One.Ret (∀ x, x ∈ m → match_All.P l x) e ∧ Below w.heap.size w w' := by
  obtain ⟨Wa, hWa⟩ : ∃ Wa, Aside0 (w.alloc (.cells #[.slice B l.length d] 33) = Wa) := ⟨_, ⟨rfl⟩⟩
  have hbl : Below w.heap.size w Wa := by rw [← hWa.out]; exact below_alloc (Below.refl _ _) _
  have hgx : Wa.cell? ⟨w.heap.size, 0, none⟩ = some (.slice B l.length d) := by
    have h9 := blk_cell (show Wa.heap[w.heap.size]? = some (.cells #[.slice B l.length d] 33 (0, 0)) by rw [← hWa.out]; exact blk_new _ _) 0
    simpa using h9
  have HB := Aside0.mk hbl
  have HG := Aside0.mk (hG.below hbl)
  have HR := Aside0.mk (Kd.C_below hr hbl)
  have HL := Aside0.mk (Kd.C_below hl hbl)
  have HX := Aside0.mk hgx
  clear hbl hG hr hl hgx
  go_enter Tryd.func23, Tryd.ntmps23
  go_wp2_with (go_at_call 36; rw [hWa.out]; refine (match_All.contains A c m B d l w.heap.size Wa HR.out HX.out HL.out hd HG.out).mono ?_; rintro e W1 ⟨⟨b, rfl, hb⟩, hb1⟩; have HBB := Aside0.mk hb; have HB1 := Aside0.mk hb1; clear hb hb1)
  go_ret
  refine ⟨⟨_, rfl, ?_⟩, below_then HB.out HB.out.size HB1.out⟩
  refine Iff.trans ?_ HBB.out
  cases b <;> simp
-- in the form of the print
noncomputable def match_All.ans (m : List match_All.Mt) (l : List match_All.Lb) : Bool := regex_Match.dec (∀ x, x ∈ m → match_All.P l x)
noncomputable def match_All.f (l0 : List match_All.Mt) (l1 : List match_All.Lb) : Option Bool := some (match_All.ans l0 l1)
theorem match_All.callsP (A0 : Option Addr) (c0 : Nat) (l0 : List match_All.Mt) (A1 : Option Addr) (c1 : Nat) (l1 : List match_All.Lb) (r : Bool) (w : World) (hr0 : Kd.C k35 w A0 l0.length l0) (hc0 : l0.length ≤ c0) (hr1 : Kd.C k42 w A1 l1.length l1) (hc1 : l1.length ≤ c1) (hG : strings_ToValidUTF8.Gd w) (h : match_All.f l0 l1 = some r) :
    Calls Tryd.prog 23 #[.slice A0 l0.length c0, .slice A1 l1.length c1] w fun e w' => e = .returned (.bool r) ∧ Below w.heap.size w w' := by
  obtain rfl := Option.some.inj h
  refine (match_All.calls A0 c0 l0 A1 c1 l1 w hr0 hc0 hr1 hc1 hG).mono ?_
  rintro e w' ⟨⟨b, rfl, hb⟩, hB⟩
  have : b = match_All.ans l0 l1 := Bool.eq_iff_iff.2 (hb.trans (regex_Match.dec_iff _).symm)
  exact ⟨by rw [this], hB⟩

end Go.Proofs.YtgnehcgaplnfkaaDoor.PAll
