/- Plain laws: the order of labels, and whether two slices of labels are alike. No program runs in it. -/
import Derived.Test.YtdbbfhmcbogknaaLaws1
import Derived.Test.YtdbbfhmcbogknaaPAllx36
import Derived.Test.YtdbbfhmcbogknaaPAllx30
import Derived.Test.YtdbbfhmcbogknaaPAllx42
import Derived.Sort.Walk0
namespace Go.Proofs.Ytdbbfhmcbogknaa.Laws
open Go.RowKit Go.Proofs.Ytdbbfhmcbogknaa.PAll Go.Proofs.YtdbbfhmcbogknaaW.PrintWords Go.Proofs.YtdbbfhmcbogknaaW.PrintLast
set_option linter.unusedVariables false
set_option linter.unusedSimpArgs false

/-- A comparing function that is an order. -/
structure O3 {α : Type} (o : α → α → Int) : Prop where
  zero : ∀ x y, o x y = 0 ↔ x = y
  turn : ∀ x y, o y x = - o x y
  trans : ∀ x y z, o x y < 0 → o y z < 0 → o x z < 0
theorem less_iff (a b : List UInt8) : Op.bytesLess a b = true ↔ a < b := by rw [Go.Proofs.bytesLess_eq]; exact decide_eq_true_iff
theorem less_trans {a b c : List UInt8} (h1 : Op.bytesLess a b = true) (h2 : Op.bytesLess b c = true) : Op.bytesLess a c = true := by
  rw [less_iff] at *
  exact List.lt_trans h1 h2
theorem less_anti {a b : List UInt8} (h1 : Op.bytesLess a b = true) : Op.bytesLess b a = false := by
  cases h2 : Op.bytesLess b a with
  | false => rfl
  | true => have := less_trans h1 h2; rw [Base.less_irrefl] at this; cases this
theorem less_total {a b : List UInt8} (h1 : Op.bytesLess a b = false) (h2 : Op.bytesLess b a = false) : a = b := by
  have h := Base.less_or a b
  rw [h1, h2] at h
  simpa using h
theorem cmp_order : O3 Base.cmpS := by
  refine ⟨fun x y => ?_, fun x y => ?_, fun x y z => ?_⟩
  · simp only [Base.cmpS, ByteArray.toList_eq]
    constructor
    · intro h
      split at h
      · omega
      · rename_i h1
        split at h
        · omega
        · rename_i h2
          exact Base.ext_data (less_total (by simpa using h1) (by simpa using h2))
    · rintro rfl
      simp [Base.less_irrefl]
  · simp only [Base.cmpS, ByteArray.toList_eq]
    cases h1 : Op.bytesLess x.data.toList y.data.toList with
    | true => simp [less_anti h1]
    | false =>
      cases h2 : Op.bytesLess y.data.toList x.data.toList with
      | true => simp
      | false => simp
  · simp only [Base.cmpS, ByteArray.toList_eq]
    intro h1 h2
    have e1 : Op.bytesLess x.data.toList y.data.toList = true := by
      split at h1
      · assumption
      · split at h1 <;> omega
    have e2 : Op.bytesLess y.data.toList z.data.toList = true := by
      split at h2
      · assumption
      · split at h2 <;> omega
    rw [if_pos (less_trans e1 e2)]
    omega
theorem O3.self {α : Type} {o : α → α → Int} (h : O3 o) (x : α) : o x x = 0 := (h.zero x x).2 rfl
theorem O3.le {α : Type} {o : α → α → Int} (h : O3 o) {x y z : α} (h1 : o x y ≤ 0) (h2 : o y z ≤ 0) : o x z ≤ 0 := by
  by_cases e1 : o x y = 0
  · rw [(h.zero x y).1 e1]
    exact h2
  · by_cases e2 : o y z = 0
    · rw [← (h.zero y z).1 e2]
      exact h1
    · have := h.trans x y z (by omega) (by omega)
      omega
theorem O3.lex {α β γ : Type} {o : α → α → Int} {p : β → β → Int} (ho : O3 o) (hp : O3 p) (f : γ → α) (g : γ → β) (hfg : ∀ x y, f x = f y → g x = g y → x = y) :
    O3 (fun x y : γ => if o (f x) (f y) ≠ 0 then o (f x) (f y) else p (g x) (g y)) := by
  refine ⟨fun x y => ?_, fun x y => ?_, fun x y z => ?_⟩
  · constructor
    · intro h
      split at h
      · omega
      · rename_i h1
        exact hfg x y ((ho.zero _ _).1 (Decidable.not_not.1 h1)) ((hp.zero _ _).1 h)
    · rintro rfl
      rw [if_neg (by rw [ho.self]; simp), hp.self]
  · rw [ho.turn (f x) (f y)]
    by_cases h1 : o (f x) (f y) = 0
    · rw [if_neg (by omega), if_neg (by omega), hp.turn]
    · rw [if_pos (by omega), if_pos (by omega)]
  · intro h1 h2
    by_cases e1 : o (f x) (f y) = 0
    · rw [if_neg (by omega)] at h1
      rw [(ho.zero _ _).1 e1]
      by_cases e2 : o (f y) (f z) = 0
      · rw [if_neg (by omega)] at h2 ⊢
        exact hp.trans _ _ _ h1 h2
      · rw [if_pos (by omega)] at h2 ⊢
        exact h2
    · rw [if_pos (by omega)] at h1
      by_cases e2 : o (f y) (f z) = 0
      · rw [← (ho.zero _ _).1 e2, if_pos (by omega)]
        exact h1
      · rw [if_pos (by omega)] at h2
        have := ho.trans _ _ _ h1 h2
        rw [if_pos (by omega)]
        exact this
theorem one_order : O3 labels_Compare.one := O3.lex cmp_order cmp_order S41.f0 S41.f1 (fun x y h0 h1 => by cases x; cases y; simp_all)
theorem cmp_cons (x y : S41) (r q : List S41) : labels_Compare.cmp (x :: r) (y :: q) = if labels_Compare.one x y ≠ 0 then labels_Compare.one x y else labels_Compare.cmp r q := by rw [labels_Compare.cmp]
theorem cmp_nil : labels_Compare.cmp [] [] = 0 := by rw [labels_Compare.cmp]
theorem cmp_nil_cons (y : S41) (q : List S41) : labels_Compare.cmp [] (y :: q) = -1 := by rw [labels_Compare.cmp]
theorem cmp_cons_nil (x : S41) (r : List S41) : labels_Compare.cmp (x :: r) [] = 1 := by rw [labels_Compare.cmp]
theorem list_order : O3 labels_Compare.cmp := by
  refine ⟨fun x => ?_, fun x => ?_, fun x => ?_⟩
  · induction x with
    | nil => intro y; cases y with
      | nil => simp [cmp_nil]
      | cons y q => simp [cmp_nil_cons]
    | cons x r ih => intro y; cases y with
      | nil => simp [cmp_cons_nil]
      | cons y q =>
        rw [cmp_cons]
        constructor
        · intro h
          split at h
          · omega
          · rename_i h1
            rw [(one_order.zero x y).1 (Decidable.not_not.1 h1), (ih q).1 h]
        · intro h
          cases h
          rw [if_neg (by rw [one_order.self]; simp)]
          exact (ih r).2 rfl
  · induction x with
    | nil => intro y; cases y with
      | nil => simp [cmp_nil]
      | cons y q => simp [cmp_nil_cons, cmp_cons_nil]
    | cons x r ih => intro y; cases y with
      | nil => simp [cmp_nil_cons, cmp_cons_nil]
      | cons y q =>
        rw [cmp_cons, cmp_cons, one_order.turn x y]
        by_cases h1 : labels_Compare.one x y = 0
        · rw [if_neg (by omega), if_neg (by omega), ih]
        · rw [if_pos (by omega), if_pos (by omega)]
  · induction x with
    | nil => intro y z h1 h2; cases y with
      | nil => rw [cmp_nil] at h1; omega
      | cons y q => cases z with
        | nil => rw [cmp_cons_nil] at h2; omega
        | cons z s => rw [cmp_nil_cons]; omega
    | cons x r ih => intro y z h1 h2; cases y with
      | nil => rw [cmp_cons_nil] at h1; omega
      | cons y q => cases z with
        | nil => rw [cmp_cons_nil] at h2; omega
        | cons z s =>
          rw [cmp_cons] at h1 h2 ⊢
          by_cases e1 : labels_Compare.one x y = 0
          · rw [if_neg (by omega)] at h1
            rw [(one_order.zero _ _).1 e1]
            by_cases e2 : labels_Compare.one y z = 0
            · rw [if_neg (by omega)] at h2 ⊢
              exact ih _ _ h1 h2
            · rw [if_pos (by omega)] at h2 ⊢
              exact h2
          · rw [if_pos (by omega)] at h1
            by_cases e2 : labels_Compare.one y z = 0
            · rw [← (one_order.zero _ _).1 e2, if_pos (by omega)]
              exact h1
            · rw [if_pos (by omega)] at h2
              have := one_order.trans _ _ _ h1 h2
              rw [if_pos (by omega)]
              exact this
theorem cmpS_range (a b : ByteArray) : -1 ≤ Base.cmpS a b ∧ Base.cmpS a b ≤ 1 := by
  unfold Base.cmpS
  split
  · omega
  · split <;> omega
theorem cmp_range : ∀ a b : List S41, -1 ≤ labels_Compare.cmp a b ∧ labels_Compare.cmp a b ≤ 1 := by
  intro a
  induction a with
  | nil => intro b; cases b with
    | nil => rw [cmp_nil]; omega
    | cons y q => rw [cmp_nil_cons]; omega
  | cons x r ih => intro b; cases b with
    | nil => rw [cmp_cons_nil]; omega
    | cons y q =>
      rw [cmp_cons]
      have h1 := cmpS_range x.f0 y.f0
      have h2 := cmpS_range x.f1 y.f1
      have h3 := ih q
      split
      · unfold labels_Compare.one
        split <;> omega
      · exact h3

/-! ### alike -/
def eqL : List S41 → List S41 → Bool
  | [], [] => true
  | x :: r, y :: q => (x.f0.data.toList == y.f0.data.toList && x.f1.data.toList == y.f1.data.toList) && eqL r q
  | _, _ => false
theorem eqL_self : ∀ l : List S41, eqL l l = true
  | [] => rfl
  | x :: r => by simp [eqL, eqL_self r]
theorem eqL_len : ∀ (a b : List S41), a.length ≠ b.length → eqL a b = false := by
  intro a
  induction a with
  | nil => intro b h; cases b with
    | nil => exact absurd rfl h
    | cons y q => rfl
  | cons x r ih => intro b h; cases b with
    | nil => rfl
    | cons y q =>
      have := ih q (by simpa using h)
      simp [eqL, this]
theorem wrap_far (i : Nat) (h : i < 9223372036854775807) : wrap64 ((i : Int) + 1) = ((i + 1 : Nat) : Int) := by
  unfold wrap64
  omega
theorem same_l0 (a b : List S41) (ha : a.length ≤ 9223372036854775807) (hab : a.length = b.length) : ∀ (r q : List S41) (i : Nat), a.drop i = r → b.drop i = q →
    Ev (fun k => api_Label.l0 k a b (a.length : Int) (i : Int)) (eqL r q) := by
  intro r
  induction r with
  | nil =>
    intro q i h1 h2
    have hi : a.length ≤ i := List.drop_eq_nil_iff.1 h1
    have hq : q = [] := by rw [← h2]; exact List.drop_eq_nil_iff.2 (by omega)
    subst hq
    refine Ev.step (f := fun _ => some true) (fun k => ?_) (Ev.now _)
    simp only [api_Label.l0]
    rw [if_neg (by omega)]
  | cons x r ih =>
    intro q i h1 h2
    obtain ⟨hx, hi, hr⟩ := rd_drop a i x r h1
    cases q with
    | nil =>
      have : b.length ≤ i := List.drop_eq_nil_iff.1 h2
      omega
    | cons y q =>
      obtain ⟨hy, hi2, hq⟩ := rd_drop b i y q h2
      have hw : wrap64 ((i : Int) + 1) = ((i + 1 : Nat) : Int) := wrap_far i (by omega)
      have ih2 := ih q (i + 1) hr hq
      cases hc : (x.f0.data.toList == y.f0.data.toList && x.f1.data.toList == y.f1.data.toList) with
      | true =>
        have he : eqL (x :: r) (y :: q) = eqL r q := by simp only [eqL, hc, Bool.true_and]
        rw [he]
        simp only [Bool.and_eq_true] at hc
        refine Ev.step (fun k => ?_) ih2
        simp only [api_Label.l0]
        rw [if_pos (by omega), if_pos (by omega), if_pos (by omega), if_pos (by omega), hx, hy, hw, if_neg (by simp [ByteArray.toList_eq, hc.1, hc.2])]
      | false =>
        have he : eqL (x :: r) (y :: q) = false := by simp only [eqL, hc, Bool.false_and]
        rw [he]
        refine Ev.step (f := fun _ => some false) (fun k => ?_) (Ev.now _)
        simp only [api_Label.l0]
        rw [if_pos (by omega), if_pos (by omega), if_pos (by omega), if_pos (by omega), hx, hy, if_pos (by simp only [ByteArray.toList_eq]; rw [← Bool.not_and, hc]; rfl)]
theorem same_ev (a b : List S41) (ha : a.length ≤ 9223372036854775807) : Ev (fun k => api_Label.f k a b) (eqL a b) := by
  by_cases h : a.length = b.length
  · refine Ev.congr (fun k => ?_) (same_l0 a b ha h a b 0 rfl rfl)
    simp only [api_Label.f]
    rw [if_pos (by omega)]
    rfl
  · rw [eqL_len a b h]
    refine Ev.congr (fun k => ?_) (Ev.now _)
    simp only [api_Label.f]
    rw [if_neg (by omega)]

/-! ### the law -/
theorem order_ev (a b c : List S41) (ha : a.length ≤ 9223372036854775807) : Ev (fun k => dryrotlaw07_LabelsOrder.f k a b c) true := by
  obtain ⟨K1, h1⟩ := same_ev a b ha
  obtain ⟨K2, h2⟩ := awake_ev
  refine ⟨max K1 K2, fun k hk => ?_⟩
  have e1 := h1 k (by omega)
  have e2 := h2 k (by omega)
  have hr := cmp_range a b
  have ht := list_order.turn a b
  have hw : wrap64 (-labels_Compare.cmp a b) = -labels_Compare.cmp a b := by unfold wrap64; omega
  simp only [dryrotlaw07_LabelsOrder.f, labels_Compare.f, Option.bind_some, e1, e2]
  rw [hw, if_pos ht, if_pos (list_order.self a)]
  have key : (if labels_Compare.cmp a b = 0 then (if eqL a b = true then some true else some false) else some true) = some true := by
    split
    · rename_i h0
      have := (list_order.zero a b).1 h0
      subst this
      rw [eqL_self, if_pos rfl]
    · rfl
  rw [key]
  split
  · rfl
  · split
    · rfl
    · rename_i h3 h4
      have := list_order.le (x := a) (y := b) (z := c) (by omega) (by omega)
      rw [if_pos this]
theorem order_row (a b c : List S41) (ha : a.length ≤ maxLen ∧ ∀ y ∈ a, y.f0.size ≤ maxLen ∧ y.f1.size ≤ maxLen) (hb : b.length ≤ maxLen ∧ ∀ y ∈ b, y.f0.size ≤ maxLen ∧ y.f1.size ≤ maxLen) (hc : c.length ≤ maxLen ∧ ∀ y ∈ c, y.f0.size ≤ maxLen ∧ y.f1.size ≤ maxLen) :
    Ev (fun k => dryrotlaw07_LabelsOrder.f k a b c) true := order_ev a b c (Nat.le_trans ha.1 (by decide))
end Go.Proofs.Ytdbbfhmcbogknaa.Laws
