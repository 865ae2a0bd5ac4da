-- Written by a program of this seat (wip/tools), out of the translation. Not trusted: Lean checks it.
import Derived.Test.YtgnehcgaplnfkaaDoorPAllx0
import Derived.Test.YtgnehcgaplnfkaaDoorPAllx3
import Derived.Test.YtgnehcgaplnfkaaDoorPAllx18
import Derived.Test.YtgnehcgaplnfkaaDoorPAllx22
import Derived.Test.YtgnehcgaplnfkaaDoorPAllx33
namespace Go.Proofs.YtgnehcgaplnfkaaDoor.PAll
open Go.RowKit Go.Proofs.YtgnehcgaplnfkaaDoorW.PrintWords Go.Proofs.YtgnehcgaplnfkaaDoorW.PrintLast Go.Proofs.YtgnehcgaplnfkaaDoorW.PrintMore
attribute [local go_sem] max2_int min2_int max_two min_two max_three min_three max_four min_four   -- for this text's walks alone
set_option linter.unusedVariables false
set_option linter.unusedSimpArgs false

/-! ### match_One: function 18 -/
-- uses labels_Get regex_Match
/-- A pattern fits a text. -/
def match_One.Fits (p s : ByteArray) : Prop := ∃ code, regex_parse.parseM p = some code ∧ regex_Match.Acc code (Base.runesOf s)
/-- A matcher fits a value. -/
def match_One.OneP (kind : Int) (value v : ByteArray) : Prop := (kind = 1 ∧ v = value) ∨ (kind = 2 ∧ v ≠ value) ∨ (kind = 3 ∧ match_One.Fits value v) ∨ (kind = 4 ∧ ¬ match_One.Fits value v)
theorem match_One.match_ (w : World) (p s : ByteArray) (hG : strings_ToValidUTF8.Gd w) :
    Calls Tryd.prog 12 #[.string p, .string s] w fun e w' => Below w.heap.size w w' ∧ ∃ b, e = .returned (.tuple #[.bool b, .int .i64 (if (regex_parse.parseM p).isSome = true then 0 else 5)]) ∧ (b = true ↔ match_One.Fits p s) := by
  refine (regex_Match.calls w p s hG).mono ?_
  rintro e w' ⟨hb, hm⟩
  refine ⟨hb, ?_⟩
  cases hp : regex_parse.parseM p with
  | none =>
    rw [hp] at hm
    exact ⟨false, hm, ⟨fun h => (by cases h), fun ⟨c, h, _⟩ => (by rw [hp] at h; cases h)⟩⟩
  | some code =>
    rw [hp] at hm
    obtain ⟨b, rfl, hb2⟩ := hm
    exact ⟨b, rfl, hb2.trans ⟨fun h => ⟨code, hp, h⟩, fun ⟨c, h, h2⟩ => (by rw [hp] at h; injection h with h; subst h; exact h2)⟩⟩
theorem match_One.same_iff (a b : ByteArray) : (a.toList == b.toList) = true ↔ a = b := by
  rw [beq_iff_eq]
  constructor
  · intro h
    rw [ByteArray.toList_eq, ByteArray.toList_eq] at h
    exact Base.ext_data h
  · rintro rfl
    rfl
/-- An answer that tells whether P. -/
def match_One.Ret (P : Prop) (e : Ending) : Prop := ∃ b, e = .returned (.bool b) ∧ (b = true ↔ P)
def match_One.RetN (P : Prop) (e : Ending) : Prop := ∃ b, e = .returned (.bool b) ∧ (b = false ↔ P)
def match_One.RetI (P : Prop) (e : Ending) : Prop := ∃ i : Int, e = .returned (.int .i64 i) ∧ (¬ 0 ≤ i ↔ P)
set_option maxHeartbeats 2000000 in
theorem match_One.calls (w : World) (A : Option Addr) (c : Nat) (l : List S42) (kind : Int) (name value : ByteArray) (hr : Kd.C k42 w A l.length l) (hc : l.length ≤ c) (hG : strings_ToValidUTF8.Gd w) :
    Calls Tryd.prog 18 #[.agg #[.int .i64 kind, .string name, .string value], .slice A l.length c] w fun e w' => match_One.Ret (match_One.OneP kind value (labels_Get.get name l)) e ∧ Below w.heap.size w w' := by
  obtain ⟨Wa, hWa⟩ : ∃ Wa, Aside0 (w.alloc (.cells #[.int .i64 kind, .string name, .string value] 35) = Wa) := ⟨_, ⟨rfl⟩⟩
  have hbl : Below w.heap.size w Wa := by rw [← hWa.out]; exact below_alloc (Below.refl _ _) _
  have hbx : Wa.heap[w.heap.size]? = some (.cells #[.int .i64 kind, .string name, .string value] 35 (0, 0)) := by rw [← hWa.out]; exact blk_new _ _
  have HB := Aside0.mk hbl
  have HX := Aside0.mk hbx
  have HG := Aside0.mk (hG.below hbl)
  have HR := Aside0.mk (Kd.C_below hr hbl)
  obtain ⟨v, hv⟩ : ∃ v, Aside0 (labels_Get.get name l = v) := ⟨_, ⟨rfl⟩⟩
  have hf : Aside0 (labels_Get.f l name = some v) := ⟨by rw [← hv.out]; rfl⟩
  rw [hv.out]
  obtain ⟨sm, hsm⟩ : ∃ sm, (v.toList == value.toList) = sm := ⟨_, rfl⟩
  have HSM : Aside0 (sm = true ↔ v = value) := ⟨by rw [← hsm]; exact match_One.same_iff v value⟩
  clear hbl hbx hr hG
  have k1 : ∀ b : Bool, (b = true ↔ v = value) → (b = true ↔ match_One.OneP 1 value v) := fun b h => h.trans ⟨fun h9 => Or.inl ⟨rfl, h9⟩, fun h9 => by
    rcases h9 with ⟨_, h9⟩ | ⟨h9, _⟩ | ⟨h9, _⟩ | ⟨h9, _⟩
    · exact h9
    · exact absurd h9 (by decide)
    · exact absurd h9 (by decide)
    · exact absurd h9 (by decide)⟩
  have k2 : ∀ b : Bool, (b = true ↔ v = value) → ((!b) = true ↔ match_One.OneP 2 value v) := fun b h => by
    have h2 : (!b) = true ↔ v ≠ value := by
      rw [Ne, ← h]
      cases b <;> simp
    refine h2.trans ⟨fun h9 => Or.inr (Or.inl ⟨rfl, h9⟩), fun h9 => ?_⟩
    rcases h9 with ⟨h9, _⟩ | ⟨_, h9⟩ | ⟨h9, _⟩ | ⟨h9, _⟩
    · exact absurd h9 (by decide)
    · exact h9
    · exact absurd h9 (by decide)
    · exact absurd h9 (by decide)
  have k3 : ∀ b : Bool, (b = true ↔ match_One.Fits value v) → (b = true ↔ match_One.OneP 3 value v) := fun b h => h.trans ⟨fun h9 => Or.inr (Or.inr (Or.inl ⟨rfl, h9⟩)), fun h9 => by
    rcases h9 with ⟨h9, _⟩ | ⟨h9, _⟩ | ⟨_, h9⟩ | ⟨h9, _⟩
    · exact absurd h9 (by decide)
    · exact absurd h9 (by decide)
    · exact h9
    · exact absurd h9 (by decide)⟩
  have k4 : ∀ b : Bool, (b = true ↔ match_One.Fits value v) → ((!b) = true ↔ match_One.OneP 4 value v) := fun b h => by
    have h2 : (!b) = true ↔ ¬ match_One.Fits value v := by
      rw [← h]
      cases b <;> simp
    refine h2.trans ⟨fun h9 => Or.inr (Or.inr (Or.inr ⟨rfl, h9⟩)), fun h9 => ?_⟩
    rcases h9 with ⟨h9, _⟩ | ⟨h9, _⟩ | ⟨h9, _⟩ | ⟨_, h9⟩
    · exact absurd h9 (by decide)
    · exact absurd h9 (by decide)
    · exact absurd h9 (by decide)
    · exact h9
  have K1 := Aside0.mk k1
  have K2 := Aside0.mk k2
  have K3 := Aside0.mk k3
  have K4 := Aside0.mk k4
  clear k1 k2 k3 k4
  by_cases h12 : kind = 1 ∨ kind = 2
  · rcases h12 with rfl | rfl
    · go_enter Tryd.func18, Tryd.ntmps18
      go_wp2_with (first
         | (go_at_call 35; rw [hWa.out]; (with_reducible refine (labels_Get.calls A c l name v Wa HR.out hc hf.out).mono ?_); rintro e W1 ⟨rfl, hB1⟩
            have hx1 := blk_below HX.out hB1
            have c0 := blk_cell hx1 0
            have c1 := blk_cell hx1 1
            have c2 := blk_cell hx1 2
            simp only [List.size_toArray, List.length_cons, List.length_nil, List.getElem?_toArray, List.getElem?_cons_zero, List.getElem?_cons_succ] at c0 c1 c2
            have HB1 := Aside0.mk hB1
            have HBB : Aside0 (Below w.heap.size w W1) := ⟨below_then HB.out HB.out.size hB1⟩
            have HG1 := Aside0.mk (HG.out.below hB1)
            clear hB1 hx1))
      cases sm
      all_goals
        go_wp2
        go_ret
        first
          | exact ⟨⟨_, rfl, K1.out true (by first | exact HSM.out | exact ⟨fun _ => HSM.out.1 trivial, fun _ => rfl⟩)⟩, below_then HB.out HB.out.size HB1.out⟩
          | exact ⟨⟨_, rfl, K1.out false (by first | exact HSM.out | exact ⟨fun _ => HSM.out.1 trivial, fun _ => rfl⟩)⟩, below_then HB.out HB.out.size HB1.out⟩
    · go_enter Tryd.func18, Tryd.ntmps18
      go_wp2_with (first
         | (go_at_call 35; rw [hWa.out]; (with_reducible refine (labels_Get.calls A c l name v Wa HR.out hc hf.out).mono ?_); rintro e W1 ⟨rfl, hB1⟩
            have hx1 := blk_below HX.out hB1
            have c0 := blk_cell hx1 0
            have c1 := blk_cell hx1 1
            have c2 := blk_cell hx1 2
            simp only [List.size_toArray, List.length_cons, List.length_nil, List.getElem?_toArray, List.getElem?_cons_zero, List.getElem?_cons_succ] at c0 c1 c2
            have HB1 := Aside0.mk hB1
            have HBB : Aside0 (Below w.heap.size w W1) := ⟨below_then HB.out HB.out.size hB1⟩
            have HG1 := Aside0.mk (HG.out.below hB1)
            clear hB1 hx1))
      cases sm
      all_goals
        go_wp2
        go_ret
        first
          | exact ⟨⟨_, rfl, K2.out true (by first | exact HSM.out | exact ⟨fun _ => HSM.out.1 trivial, fun _ => rfl⟩)⟩, below_then HB.out HB.out.size HB1.out⟩
          | exact ⟨⟨_, rfl, K2.out false (by first | exact HSM.out | exact ⟨fun _ => HSM.out.1 trivial, fun _ => rfl⟩)⟩, below_then HB.out HB.out.size HB1.out⟩
  · by_cases h34 : kind = 3 ∨ kind = 4
    · clear h12
      rcases h34 with rfl | rfl
      · go_enter Tryd.func18, Tryd.ntmps18
        go_wp2_with (first
         | (go_at_call 35; rw [hWa.out]; (with_reducible refine (labels_Get.calls A c l name v Wa HR.out hc hf.out).mono ?_); rintro e W1 ⟨rfl, hB1⟩
            have hx1 := blk_below HX.out hB1
            have c0 := blk_cell hx1 0
            have c1 := blk_cell hx1 1
            have c2 := blk_cell hx1 2
            simp only [List.size_toArray, List.length_cons, List.length_nil, List.getElem?_toArray, List.getElem?_cons_zero, List.getElem?_cons_succ] at c0 c1 c2
            have HB1 := Aside0.mk hB1
            have HBB : Aside0 (Below w.heap.size w W1) := ⟨below_then HB.out HB.out.size hB1⟩
            have HG1 := Aside0.mk (HG.out.below hB1)
            clear hB1 hx1)
         | (go_at_call 12; (with_reducible refine (match_One.match_ W1 value v HG1.out).mono ?_); rintro e W2 ⟨hB2, b, rfl, hF2⟩
            have hx2 := blk_below (blk_below HX.out HB1.out) hB2
            have d0 := blk_cell hx2 0
            simp only [List.size_toArray, List.length_cons, List.length_nil, List.getElem?_toArray, List.getElem?_cons_zero, List.getElem?_cons_succ] at d0
            have HB2 := Aside0.mk hB2
            have HF2 := Aside0.mk hF2
            clear hB2 hx2 hF2))
        all_goals
          go_ret
          exact ⟨⟨_, rfl, K3.out b HF2.out⟩, below_then HBB.out HBB.out.size HB2.out⟩
      · go_enter Tryd.func18, Tryd.ntmps18
        go_wp2_with (first
         | (go_at_call 35; rw [hWa.out]; (with_reducible refine (labels_Get.calls A c l name v Wa HR.out hc hf.out).mono ?_); rintro e W1 ⟨rfl, hB1⟩
            have hx1 := blk_below HX.out hB1
            have c0 := blk_cell hx1 0
            have c1 := blk_cell hx1 1
            have c2 := blk_cell hx1 2
            simp only [List.size_toArray, List.length_cons, List.length_nil, List.getElem?_toArray, List.getElem?_cons_zero, List.getElem?_cons_succ] at c0 c1 c2
            have HB1 := Aside0.mk hB1
            have HBB : Aside0 (Below w.heap.size w W1) := ⟨below_then HB.out HB.out.size hB1⟩
            have HG1 := Aside0.mk (HG.out.below hB1)
            clear hB1 hx1)
         | (go_at_call 12; (with_reducible refine (match_One.match_ W1 value v HG1.out).mono ?_); rintro e W2 ⟨hB2, b, rfl, hF2⟩
            have hx2 := blk_below (blk_below HX.out HB1.out) hB2
            have d0 := blk_cell hx2 0
            simp only [List.size_toArray, List.length_cons, List.length_nil, List.getElem?_toArray, List.getElem?_cons_zero, List.getElem?_cons_succ] at d0
            have HB2 := Aside0.mk hB2
            have HF2 := Aside0.mk hF2
            clear hB2 hx2 hF2))
        all_goals
          go_ret
          exact ⟨⟨_, rfl, K4.out b HF2.out⟩, below_then HBB.out HBB.out.size HB2.out⟩
    · have b1 : (kind == 1) = false := by simp; omega
      have b2 : (kind == 2) = false := by simp; omega
      have b3 : (kind == 3) = false := by simp; omega
      have b4 : (kind == 4) = false := by simp; omega
      have HO : Aside0 ((false = true) ↔ match_One.OneP kind value v) := ⟨⟨fun h => (by cases h), fun h => by
        rcases h with ⟨h9, _⟩ | ⟨h9, _⟩ | ⟨h9, _⟩ | ⟨h9, _⟩
        · exact absurd (Or.inl h9) h12
        · exact absurd (Or.inr h9) h12
        · exact absurd (Or.inl h9) h34
        · exact absurd (Or.inr h9) h34⟩⟩
      clear h12 h34
      go_enter Tryd.func18, Tryd.ntmps18
      go_wp2_with (first
         | (go_at_call 35; rw [hWa.out]; (with_reducible refine (labels_Get.calls A c l name v Wa HR.out hc hf.out).mono ?_); rintro e W1 ⟨rfl, hB1⟩
            have hx1 := blk_below HX.out hB1
            have c0 := blk_cell hx1 0
            have c1 := blk_cell hx1 1
            have c2 := blk_cell hx1 2
            simp only [List.size_toArray, List.length_cons, List.length_nil, List.getElem?_toArray, List.getElem?_cons_zero, List.getElem?_cons_succ] at c0 c1 c2
            have HB1 := Aside0.mk hB1
            have HBB : Aside0 (Below w.heap.size w W1) := ⟨below_then HB.out HB.out.size hB1⟩
            have HG1 := Aside0.mk (HG.out.below hB1)
            clear hB1 hx1))
      go_ret
      exact ⟨⟨_, rfl, HO.out⟩, below_then HB.out HB.out.size HB1.out⟩
-- in the form of the print
noncomputable def match_One.ans (a0 : Int) (a1 a2 : ByteArray) (l : List S42) : Bool := regex_Match.dec (match_One.OneP a0 a2 (labels_Get.get a1 l))
noncomputable def match_One.f (a0 : Int) (a1 a2 : ByteArray) (l1 : List S42) : Option Bool := some (match_One.ans a0 a1 a2 l1)
theorem match_One.callsP (a0 : Int) (a1 a2 : ByteArray) (A1 : Option Addr) (c1 : Nat) (l1 : List S42) (r : Bool) (w : World) (hr1 : Kd.C k42 w A1 l1.length l1) (hc1 : l1.length ≤ c1) (hG : strings_ToValidUTF8.Gd w) (h : match_One.f a0 a1 a2 l1 = some r) :
    Calls Tryd.prog 18 #[.agg #[.int .i64 a0, .string a1, .string a2], .slice A1 l1.length c1] w fun e w' => e = .returned (.bool r) ∧ Below w.heap.size w w' := by
  obtain rfl := Option.some.inj h
  refine (match_One.calls w A1 c1 l1 a0 a1 a2 hr1 hc1 hG).mono ?_
  rintro e w' ⟨⟨b, rfl, hb⟩, hB⟩
  have : b = match_One.ans a0 a1 a2 l1 := Bool.eq_iff_iff.2 (hb.trans (regex_Match.dec_iff _).symm)
  exact ⟨by rw [this], hB⟩

end Go.Proofs.YtgnehcgaplnfkaaDoor.PAll
