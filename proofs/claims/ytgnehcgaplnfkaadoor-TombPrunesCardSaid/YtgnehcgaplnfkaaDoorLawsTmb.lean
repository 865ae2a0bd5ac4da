/- Plain law: TombPrunes: what the program and the reference leave of deletes is the same. No program runs in it. -/
import Derived.Test.YtgnehcgaplnfkaaDoorPAllx4
import Derived.Test.YtgnehcgaplnfkaaDoorPAllx12
import Derived.Test.YtgnehcgaplnfkaaDoorPAllx10
import Derived.Test.YtgnehcgaplnfkaaDoorPAllx13
namespace Go.Proofs.YtgnehcgaplnfkaaDoor.Laws
open Go.RowKit Go.Proofs.YtgnehcgaplnfkaaDoor.PAll Go.Proofs.YtgnehcgaplnfkaaDoorW.PrintWords Go.Proofs.YtgnehcgaplnfkaaDoorW.PrintLast
set_option linter.unusedVariables false
set_option linter.unusedSimpArgs false

theorem wrap_up (i : Nat) (h : i < 9223372036854775807) : wrap64 ((i : Int) + 1) = ((i + 1 : Nat) : Int) := by
  unfold wrap64
  omega
/-- A delete that blocks of some ranks still heed. -/
def heed (b : List Int) (x : S77) : Bool := b.any fun r => decide (r ≤ x.f3)
def prune (b : List Int) (a : List S77) : List S77 := a.filter (heed b)
def fits (a : List S77) : Prop := a.length ≤ 20 ∧ ∀ x ∈ a, x.f0.length * 40 ≤ 140737488351232
theorem least_le : ∀ (q : List Int) (m t : Int), slices_Min_int_int.least q m ≤ t ↔ (m ≤ t ∨ q.any (fun r => decide (r ≤ t)) = true)
  | [], m, t => by simp [slices_Min_int_int.least]
  | x :: q, m, t => by
    simp only [slices_Min_int_int.least]
    rw [least_le q]
    simp only [List.any_cons, Bool.or_eq_true, decide_eq_true_eq]
    split <;> constructor <;> intro h <;> rcases h with h | h <;> first | (left; omega) | (right; left; omega) | (right; right; exact h) | (right; exact h) | (rcases h with h | h <;> first | (left; omega) | (right; exact h)) | omega
theorem rd_drop (l : List S77) (i : Nat) (x : S77) (r : List S77) (h : l.drop i = x :: r) : rd_T77 l (i : Int) = x ∧ i < l.length ∧ l.drop (i + 1) = r := by
  have hlt : i < l.length := by
    rcases Nat.lt_or_ge i l.length with h1 | h1
    · exact h1
    · rw [List.drop_eq_nil_of_le h1] at h
      cases h
  rw [List.drop_eq_getElem_cons hlt] at h
  obtain ⟨h1, h2⟩ := List.cons.inj h
  refine ⟨?_, hlt, h2⟩
  simp [rd_T77, List.getD_eq_getElem?_getD, hlt, h1]
theorem prune_l0 (a : List S77) (b : List Int) (ha : fits a) (hb : b.length ≤ 20) : ∀ (r : List S77) (i : Nat) (acc : List S77), a.drop i = r → acc.length ≤ i →
    Ev (fun k => tomb_Prune.l0 k b acc a (a.length : Int) (i : Int)) (acc ++ prune b r) := by
  intro r
  induction r with
  | nil =>
    intro i acc h hac
    have hi : a.length ≤ i := List.drop_eq_nil_iff.1 h
    refine Ev.step (f := fun _ => some acc) (fun k => ?_) (by simpa [prune] using Ev.now acc)
    simp only [tomb_Prune.l0]
    rw [if_neg (by omega)]
  | cons x r ih =>
    intro i acc h hac
    obtain ⟨hx, hi, hr⟩ := rd_drop a i x r h
    have hl := ha.1
    have hw := wrap_up i (by omega)
    have hxm : x ∈ a := List.mem_of_mem_drop (by rw [h]; simp)
    have hx40 := ha.2 x hxm
    have hclone : ∃ z, api_Matcher_22.f x.f0 = some z ∧ (⟨z, x.f1, x.f2, x.f3⟩ : S77) = x := ⟨x.f0, by unfold api_Matcher_22.f; rw [if_pos (by omega)], rfl⟩
    obtain ⟨z, hz1, hz2⟩ := hclone
    cases b with
    | nil =>
      have e : acc ++ prune [] (x :: r) = acc ++ prune [] r := by simp [prune, heed]
      rw [e]
      refine Ev.step (fun k => ?_) (ih (i + 1) acc hr (by omega))
      simp only [tomb_Prune.l0]
      rw [if_pos (by omega), if_pos (by omega), if_pos (by omega), if_neg (by simp), hw]
    | cons y q =>
      have hmin : slices_Min_int_int.f (y :: q) = some (slices_Min_int_int.least q y) := by
        simp only [slices_Min_int_int.f]
        rw [if_pos (by simp at hb ⊢; omega)]
      by_cases hle : slices_Min_int_int.least q y ≤ x.f3
      · have hh : heed (y :: q) x = true := by
          have := (least_le q y x.f3).1 hle
          simpa [heed] using this
        have e : acc ++ prune (y :: q) (x :: r) = (acc ++ [x]) ++ prune (y :: q) r := by simp [prune, hh]
        rw [e]
        refine Ev.step (fun k => ?_) (ih (i + 1) (acc ++ [x]) hr (by simp; omega))
        simp only [tomb_Prune.l0]
        rw [if_pos (by omega), if_pos (by omega), if_pos (by omega), if_pos (by simp), hmin]
        simp only [Option.bind_some]
        rw [hx, if_pos hle, hz1]
        simp only [Option.bind_some]
        rw [if_pos (by omega), hw, hz2]
      · have hh : heed (y :: q) x = false := by
          have := mt (least_le q y x.f3).2 hle
          simpa [heed] using this
        have e : acc ++ prune (y :: q) (x :: r) = acc ++ prune (y :: q) r := by simp [prune, hh]
        rw [e]
        refine Ev.step (fun k => ?_) (ih (i + 1) acc hr (by omega))
        simp only [tomb_Prune.l0]
        rw [if_pos (by omega), if_pos (by omega), if_pos (by omega), if_pos (by simp), hmin]
        simp only [Option.bind_some]
        rw [hx, if_neg hle, hw]
theorem prune_ev (a : List S77) (b : List Int) (ha : fits a) (hb : b.length ≤ 20) : Ev (fun k => tomb_Prune.f k a b) (prune b a) := prune_l0 a b ha hb a 0 [] rfl (by simp)
theorem rd_drop_int (l : List Int) (i : Nat) (x : Int) (r : List Int) (h : l.drop i = x :: r) : rd l (i : Int) = x ∧ i < l.length ∧ l.drop (i + 1) = r := by
  have hi : i < l.length := by
    rcases Nat.lt_or_ge i l.length with h1 | h1
    · exact h1
    · rw [List.drop_eq_nil_of_le h1] at h
      cases h
  rw [List.drop_eq_getElem_cons hi] at h
  obtain ⟨h1, h2⟩ := List.cons.inj h
  refine ⟨?_, hi, h2⟩
  simp [rd, List.getD_eq_getElem?_getD, hi, h1]
/-- The reference's inner loop: whether one of the ranks is heeded. -/
theorem rprune_l1 (a : List S77) (b : List Int) (acc : List S77) (i : Nat) (x : S77) (hb : b.length ≤ 20) (v : List S77)
    (hv : ∀ h : Bool, h = heed b x → Ev (fun k => if h = true then ((dryrotref09_Copy.f x.f0).bind fun t121 => (if acc.length < 2932031007402 then (dryrotref14_Prune.l0 k b (acc ++ [(⟨t121, x.f1, x.f2, x.f3⟩ : S77)]) a (a.length : Int) (wrap64 ((i : Int) + 1))) else none)) else (dryrotref14_Prune.l0 k b acc a (a.length : Int) (wrap64 ((i : Int) + 1)))) v) :
    ∀ (q : List Int) (j : Nat) (h : Bool), b.drop j = q → (h || q.any fun r => decide (r ≤ x.f3)) = heed b x →
    Ev (fun k => dryrotref14_Prune.l1 k b acc h a (a.length : Int) (i : Int) b (b.length : Int) (j : Int) x.f0 x.f1 x.f2 x.f3) v := by
  intro q
  induction q with
  | nil =>
    intro j h hq hh
    have hj : b.length ≤ j := List.drop_eq_nil_iff.1 hq
    refine Ev.step (fun k => ?_) (hv h (by simpa using hh))
    simp only [dryrotref14_Prune.l1]
    rw [if_neg (by omega)]
  | cons y q ih =>
    intro j h hq hh
    obtain ⟨hy, hj, hr⟩ := rd_drop_int b j y q hq
    have hw := wrap_up j (by omega)
    cases h with
    | true =>
      refine Ev.step (fun k => ?_) (ih (j + 1) true hr (by simpa using hh))
      simp only [dryrotref14_Prune.l1]
      rw [if_pos (by omega), if_pos (by omega), if_pos (by omega)]
      first | rw [if_pos rfl, hw] | rw [if_pos trivial, hw]
    | false =>
      refine Ev.step (fun k => ?_) (ih (j + 1) (decide (x.f3 ≥ y)) hr (by simpa [GE.ge] using hh))
      simp only [dryrotref14_Prune.l1]
      rw [if_pos (by omega), if_pos (by omega), if_pos (by omega), if_neg (by simp), hw, hy]
theorem rprune_l0 (a : List S77) (b : List Int) (ha : fits a) (hb : b.length ≤ 20) : ∀ (r : List S77) (i : Nat) (acc : List S77), a.drop i = r → acc.length ≤ i →
    Ev (fun k => dryrotref14_Prune.l0 k b acc a (a.length : Int) (i : Int)) (acc ++ prune b r) := by
  intro r
  induction r with
  | nil =>
    intro i acc h hac
    have hi : a.length ≤ i := List.drop_eq_nil_iff.1 h
    refine Ev.step (f := fun _ => some acc) (fun k => ?_) (by simpa [prune] using Ev.now acc)
    simp only [dryrotref14_Prune.l0]
    rw [if_neg (by omega)]
  | cons x r ih =>
    intro i acc h hac
    obtain ⟨hx, hi, hr⟩ := rd_drop a i x r h
    have hl := ha.1
    have hw := wrap_up i (by omega)
    have hxm : x ∈ a := List.mem_of_mem_drop (by rw [h]; simp)
    have hx40 := ha.2 x hxm
    have hcopy : ∃ z, dryrotref09_Copy.f x.f0 = some z ∧ (⟨z, x.f1, x.f2, x.f3⟩ : S77) = x := ⟨x.f0, by
      unfold dryrotref09_Copy.f
      simp only [Option.bind_some]
      rw [if_pos (by simp; omega)]
      rfl, rfl⟩
    obtain ⟨z, hz1, hz2⟩ := hcopy
    refine Ev.step (f := fun k => dryrotref14_Prune.l1 k b acc false a (a.length : Int) (i : Int) b (b.length : Int) ((0 : Nat) : Int) x.f0 x.f1 x.f2 x.f3) (fun k => ?_) (rprune_l1 a b acc i x hb _ (fun h hh => ?_) b 0 false rfl (by simp [heed]))
    · simp only [dryrotref14_Prune.l0]
      rw [if_pos (by omega), if_pos (by omega), if_pos (by omega), hx]
      rfl
    · cases h with
      | true =>
        have e : acc ++ prune b (x :: r) = (acc ++ [x]) ++ prune b r := by simp [prune, ← hh]
        rw [e]
        refine Ev.congr (fun k => ?_) (ih (i + 1) (acc ++ [x]) hr (by simp; omega))
        simp only [if_true, hz1, Option.bind_some]
        rw [if_pos (by omega), hw, hz2]
      | false =>
        have e : acc ++ prune b (x :: r) = acc ++ prune b r := by simp [prune, ← hh]
        rw [e]
        refine Ev.congr (fun k => ?_) (ih (i + 1) acc hr (by omega))
        rw [hw]
        simp
theorem rprune_ev (a : List S77) (b : List Int) (ha : fits a) (hb : b.length ≤ 20) : Ev (fun k => dryrotref14_Prune.f k a b) (prune b a) := rprune_l0 a b ha hb a 0 [] rfl (by simp)
theorem rd_drop_m (l : List S35) (i : Nat) (x : S35) (r : List S35) (h : l.drop i = x :: r) : rd_T35 l (i : Int) = x ∧ i < l.length ∧ l.drop (i + 1) = r := by
  have hlt : i < l.length := by
    rcases Nat.lt_or_ge i l.length with h1 | h1
    · exact h1
    · rw [List.drop_eq_nil_of_le h1] at h
      cases h
  rw [List.drop_eq_getElem_cons hlt] at h
  obtain ⟨h1, h2⟩ := List.cons.inj h
  refine ⟨?_, hlt, h2⟩
  simp [rd_T35, List.getD_eq_getElem?_getD, hlt, h1]
theorem same_m (m : List S35) (hm : m.length ≤ 9223372036854775806) : ∀ (r : List S35) (i : Nat), m.drop i = r → Ev (fun k => api_Matcher_49.l0 k m m (m.length : Int) (i : Int)) true := by
  intro r
  induction r with
  | nil =>
    intro i h
    have hi : m.length ≤ i := List.drop_eq_nil_iff.1 h
    refine Ev.step (f := fun _ => some true) (fun k => ?_) (Ev.now true)
    simp only [api_Matcher_49.l0]
    rw [if_neg (by omega)]
  | cons x r ih =>
    intro i h
    obtain ⟨hx, hi, hr⟩ := rd_drop_m m i x r h
    have hw := wrap_up i (by omega)
    refine Ev.step (fun k => ?_) (ih (i + 1) hr)
    simp only [api_Matcher_49.l0]
    rw [if_pos (by omega), if_pos (by omega), if_pos (by omega), if_pos (by omega), hx, if_neg (by simp), hw]
theorem same_ms (m : List S35) (hm : m.length ≤ 9223372036854775806) : Ev (fun k => api_Matcher_49.f k m m) true := by
  refine Ev.congr (fun k => ?_) (same_m m hm m 0 rfl)
  show api_Matcher_49.f k m m = _
  unfold api_Matcher_49.f
  rw [if_pos rfl]
  rfl
theorem same_all : ∀ (l : List S77), (∀ x ∈ l, x.f0.length ≤ 9223372036854775806) → Ev (fun k => dryrotplain_SameDeletes.all k l l) true
  | [], _ => Ev.now true
  | x :: l, h => by
    refine Ev.bind (a := true) (g := fun k => dryrotplain_SameDeletes.same k x x) ?_ ?_
    · refine Ev.bind (same_ms x.f0 (h x (List.mem_cons_self ..))) ?_
      exact Ev.congr (fun k => by simp) (Ev.now true)
    · exact Ev.congr (fun k => by simp) (same_all l (fun y hy => h y (List.mem_cons_of_mem _ hy)))
theorem prunes_row (a : List S77) (b : List Int) (ha : ∀ x ∈ a, x.f0.length * 40 ≤ 140737488351232) : Ev (fun k => dryrotlaw14_TombPrunes.f k a b) true := by
  have hf : fits (a.take 20) := ⟨by rw [List.length_take]; omega, fun x hx => ha x (List.mem_of_mem_take hx)⟩
  have hb : (b.take 20).length ≤ 20 := by rw [List.length_take]; omega
  refine Ev.bind (prune_ev _ _ hf hb) (Ev.bind (rprune_ev _ _ hf hb) (Ev.bind (a := true) ?_ ?_))
  · have hlen : (prune (b.take 20) (a.take 20)).length ≤ 20 := Nat.le_trans (List.length_filter_le _ _) hf.1
    refine Ev.congr (fun k => ?_) (same_all (prune (b.take 20) (a.take 20)) (fun x hx => by
      have := hf.2 x ((List.mem_filter.1 hx).1)
      omega))
    show dryrotplain_SameDeletes.f k _ _ = _
    unfold dryrotplain_SameDeletes.f
    rw [if_pos rfl, if_pos (by omega)]
  · exact Ev.congr (fun k => by simp [dryrotlaw14_awake.f]) (Ev.now true)
/-- The same, with the row's own bounds. -/
theorem prunes_law (a : List S77) (b : List Int) (ha : a.length * 48 ≤ 140737488351232 ∧ ∀ y ∈ a, ((y.f0.length * 40 ≤ 140737488351232 ∧ ∀ z ∈ y.f0, (Lit.int .i64 z.f0).wf = true ∧ z.f1.size ≤ 140737488351232 ∧ z.f2.size ≤ 140737488351232) ∧ (Lit.int .i64 y.f1).wf = true ∧ (Lit.int .i64 y.f2).wf = true ∧ (Lit.int .i64 y.f3).wf = true))
    (hb : b.length * 8 ≤ 140737488351232 ∧ ∀ y ∈ b, (Lit.int .i64 y).wf = true) : Ev (fun k => dryrotlaw14_TombPrunes.f k a b) true :=
  prunes_row a b (fun x hx => (ha.2 x hx).1.1)
end Go.Proofs.YtgnehcgaplnfkaaDoor.Laws
