/- Plain law: a program that stands within a greater one; a split onto two programs fits what one of both fits. No program runs in it. -/
import Derived.Test.YtgnehcgaplnfkaaDoorPAllx22
namespace Go.Proofs.YtgnehcgaplnfkaaDoor.PAll
open Go.RowKit Go.Proofs.YtgnehcgaplnfkaaDoorW.PrintWords Go.Proofs.YtgnehcgaplnfkaaDoorW.PrintLast
set_option linter.unusedVariables false
set_option linter.unusedSimpArgs false
namespace Nfa
abbrev I := S62
open regex_follow (Eps RN)
open regex_Match (Step RunS)
/-- A program's instructions (but its last) stand in a greater one from b on. -/
structure Emb (code big : List I) (N b : Nat) : Prop where
  len : code.length = N + 1
  last : ∀ x, code[N]? = some x → x.f0 = 4
  at_ : ∀ (i : Nat) (x : I), i < N → code[i]? = some x → ∃ y, big[b + i]? = some y ∧ y.f0 = x.f0 ∧ y.f1 = x.f1 ∧ y.f2 = x.f2 ∧ (x.f0 = 2 → y.f3 = x.f3 + b ∧ y.f4 = x.f4 + b) ∧ (x.f0 = 3 → y.f3 = x.f3 + b)
  tg2 : ∀ (i : Nat) (x : I), code[i]? = some x → x.f0 = 2 → 0 ≤ x.f3 ∧ x.f3 ≤ N ∧ 0 ≤ x.f4 ∧ x.f4 ≤ N
  tg3 : ∀ (i : Nat) (x : I), code[i]? = some x → x.f0 = 3 → 0 ≤ x.f3 ∧ x.f3 ≤ N
theorem Emb.get {code big : List I} {N b : Nat} (h : Emb code big N b) {i : Nat} (hi : i < N) : ∃ x, code[i]? = some x := ⟨code[i]'(by rw [h.len]; omega), List.getElem?_eq_getElem _⟩
theorem Emb.eps {code big : List I} {N b : Nat} (h : Emb code big N b) {i j : Nat} (hi : i < N) : Eps big (b + i) j ↔ ∃ j', j = b + j' ∧ j' ≤ N ∧ Eps code i j' := by
  obtain ⟨x, hx⟩ := h.get hi
  obtain ⟨y, hy, f0, f1, f2, f3, f4⟩ := h.at_ i x hi hx
  constructor
  · rintro ⟨y', hy', he⟩
    rw [hy] at hy'
    have := Option.some.inj hy'
    subst this
    rcases he with ⟨h2, h3⟩ | ⟨h2, h3⟩
    · rw [f0] at h2
      obtain ⟨e3, e4⟩ := f3 h2
      obtain ⟨t1, t2, t3, t4⟩ := h.tg2 i x hx h2
      rcases h3 with h3 | h3
      · exact ⟨x.f3.toNat, by omega, by omega, x, hx, Or.inl ⟨h2, Or.inl (by omega)⟩⟩
      · exact ⟨x.f4.toNat, by omega, by omega, x, hx, Or.inl ⟨h2, Or.inr (by omega)⟩⟩
    · rw [f0] at h2
      have e3 := f4 h2
      obtain ⟨t1, t2⟩ := h.tg3 i x hx h2
      exact ⟨x.f3.toNat, by omega, by omega, x, hx, Or.inr ⟨h2, by omega⟩⟩
  · rintro ⟨j', rfl, hj, x', hx', he⟩
    rw [hx] at hx'
    have := Option.some.inj hx'
    subst this
    refine ⟨y, hy, ?_⟩
    rcases he with ⟨h2, h3⟩ | ⟨h2, h3⟩
    · obtain ⟨e3, e4⟩ := f3 h2
      rcases h3 with h3 | h3
      · exact Or.inl ⟨by rw [f0, h2], Or.inl (by omega)⟩
      · exact Or.inl ⟨by rw [f0, h2], Or.inr (by omega)⟩
    · have e3 := f4 h2
      exact Or.inr ⟨by rw [f0, h2], by omega⟩
theorem Emb.stop {code big : List I} {N b : Nat} (h : Emb code big N b) {j : Nat} : ¬ Eps code N j := by
  rintro ⟨x, hx, he⟩
  have := h.last x hx
  rcases he with ⟨h2, _⟩ | ⟨h2, _⟩ <;> omega
theorem Emb.reach_out {code big : List I} {N b : Nat} (h : Emb code big N b) {i j : Nat} (hi : i ≤ N) (hr : regex_follow.Reach big (b + i) j) : (∃ j', j' < N ∧ j = b + j' ∧ regex_follow.Reach code i j') ∨ (regex_follow.Reach code i N ∧ regex_follow.Reach big (b + N) j) := by
  obtain ⟨n, hn⟩ := hr
  induction n generalizing j with
  | zero =>
    have e : b + i = j := hn
    subst e
    rcases Nat.lt_or_ge i N with h1 | h1
    · exact Or.inl ⟨i, h1, rfl, regex_follow.Reach.refl _ _⟩
    · have : i = N := by omega
      subst this
      exact Or.inr ⟨regex_follow.Reach.refl _ _, regex_follow.Reach.refl _ _⟩
  | succ n ih =>
    obtain ⟨m, h1, h2⟩ := hn
    rcases ih h1 with ⟨m', g1, rfl, g3⟩ | ⟨g1, g2⟩
    · obtain ⟨j', rfl, k2, k3⟩ := (h.eps g1).1 h2
      rcases Nat.lt_or_ge j' N with h3 | h3
      · exact Or.inl ⟨j', h3, rfl, g3.step k3⟩
      · have : j' = N := by omega
        subst this
        exact Or.inr ⟨g3.step k3, regex_follow.Reach.refl _ _⟩
    · exact Or.inr ⟨g1, g2.step h2⟩
theorem Emb.reach_in {code big : List I} {N b : Nat} (h : Emb code big N b) {i j : Nat} (hi : i ≤ N) (hr : regex_follow.Reach code i j) : j ≤ N ∧ regex_follow.Reach big (b + i) (b + j) := by
  obtain ⟨n, hn⟩ := hr
  induction n generalizing j with
  | zero =>
    have e : i = j := hn
    subst e
    exact ⟨hi, regex_follow.Reach.refl _ _⟩
  | succ n ih =>
    obtain ⟨m, h1, h2⟩ := hn
    obtain ⟨g1, g2⟩ := ih h1
    have hm : m < N := by
      rcases Nat.lt_or_ge m N with h3 | h3
      · exact h3
      · have : m = N := by omega
        subst this
        exact absurd h2 h.stop
    have hj : j ≤ N := by
      obtain ⟨x, hx, he⟩ := h2
      rcases he with ⟨k2, k3⟩ | ⟨k2, k3⟩
      · have := h.tg2 m x hx k2
        rcases k3 with k3 | k3 <;> omega
      · have := h.tg3 m x hx k2
        omega
    exact ⟨hj, g2.step ((h.eps hm).2 ⟨j, rfl, hj, h2⟩)⟩
theorem Emb.reach {code big : List I} {N b : Nat} (h : Emb code big N b) {i j : Nat} (hi : i ≤ N) : regex_follow.Reach big (b + i) j ↔ (∃ j', j' < N ∧ j = b + j' ∧ regex_follow.Reach code i j') ∨ (regex_follow.Reach code i N ∧ regex_follow.Reach big (b + N) j) := by
  refine ⟨h.reach_out hi, ?_⟩
  rintro (⟨j', _, rfl, h3⟩ | ⟨h1, h2⟩)
  · exact (h.reach_in hi h3).2
  · exact (h.reach_in hi h1).2.trans h2
/-- A code point's step that begins in the block. -/
def StepIn (big : List I) (N b : Nat) (r : Int) (T : Nat → Prop) (j : Nat) : Prop := ∃ (i : Nat) (y : I), i < N ∧ T (b + i) ∧ big[b + i]? = some y ∧ y.f0 = 1 ∧ regex_inst_fits.fitsB y.f2 y.f1 r = true ∧ regex_follow.Reach big (b + i + 1) j
theorem Emb.step {code big : List I} {N b : Nat} (h : Emb code big N b) {r : Int} {T S : Nat → Prop} (hT : ∀ i, i < N → (T (b + i) ↔ S i)) (j : Nat) : StepIn big N b r T j ↔ (∃ j', j' < N ∧ j = b + j' ∧ Step code r S j') ∨ (Step code r S N ∧ regex_follow.Reach big (b + N) j) := by
  have key : ∀ i, i < N → ∀ x, code[i]? = some x → ∀ y, big[b + i]? = some y → y.f0 = x.f0 ∧ y.f1 = x.f1 ∧ y.f2 = x.f2 := fun i hi x hx y hy => by
    obtain ⟨y', hy', f0, f1, f2, _⟩ := h.at_ i x hi hx
    rw [hy] at hy'
    have := Option.some.inj hy'
    subst this
    exact ⟨f0, f1, f2⟩
  constructor
  · rintro ⟨i, y, hi, h1, h2, h3, h4, h5⟩
    obtain ⟨x, hx⟩ := h.get hi
    obtain ⟨f0, f1, f2⟩ := key i hi x hx y h2
    rw [f1, f2] at h4
    rw [f0] at h3
    rw [Nat.add_assoc] at h5
    rcases (h.reach (show i + 1 ≤ N by omega)).1 h5 with ⟨j', g1, g2, g3⟩ | ⟨g1, g2⟩
    · exact Or.inl ⟨j', g1, g2, i, x, (hT i hi).1 h1, hx, h3, h4, g3⟩
    · exact Or.inr ⟨⟨i, x, (hT i hi).1 h1, hx, h3, h4, g1⟩, g2⟩
  · have go : ∀ j', Step code r S j' → ∃ i x y, i < N ∧ S i ∧ code[i]? = some x ∧ big[b + i]? = some y ∧ y.f0 = 1 ∧ regex_inst_fits.fitsB y.f2 y.f1 r = true ∧ regex_follow.Reach code (i + 1) j' := by
      rintro j' ⟨i, x, h1, hx, h3, h4, h5⟩
      have hi : i < N := by
        rcases Nat.lt_or_ge i N with h9 | h9
        · exact h9
        · have h8 := (List.getElem?_eq_some_iff.1 hx).1
          rw [h.len] at h8
          have : i = N := by omega
          subst this
          have := h.last x hx
          omega
      obtain ⟨y, hy, f0, f1, f2, _⟩ := h.at_ i x hi hx
      exact ⟨i, x, y, hi, h1, hx, hy, by rw [f0, h3], by rw [f1, f2]; exact h4, h5⟩
    rintro (⟨j', hj, rfl, hs⟩ | ⟨hs, hr⟩)
    · obtain ⟨i, x, y, hi, g1, g2, g3, g4, g5, g6⟩ := go j' hs
      exact ⟨i, y, hi, (hT i hi).2 g1, g3, g4, g5, by rw [Nat.add_assoc]; exact (h.reach_in (show i + 1 ≤ N by omega) g6).2⟩
    · obtain ⟨i, x, y, hi, g1, g2, g3, g4, g5, g6⟩ := go N hs
      exact ⟨i, y, hi, (hT i hi).2 g1, g3, g4, g5, by rw [Nat.add_assoc]; exact (h.reach_in (show i + 1 ≤ N by omega) g6).2.trans hr⟩
/-- A split onto two programs, a jump between. -/
structure Two (p q big : List I) (N1 N2 : Nat) : Prop where
  p : Emb p big N1 1
  q : Emb q big N2 (N1 + 2)
  len : big.length = N1 + N2 + 3
  fst : ∃ x, big[0]? = some x ∧ x.f0 = 2 ∧ x.f3 = 1 ∧ x.f4 = ((N1 + 2 : Nat) : Int)
  mid : ∃ x, big[N1 + 1]? = some x ∧ x.f0 = 3 ∧ x.f3 = ((N1 + N2 + 2 : Nat) : Int)
  lst : ∃ x, big[N1 + N2 + 2]? = some x ∧ x.f0 = 4
theorem Two.reach_end {p q big : List I} {N1 N2 : Nat} (h : Two p q big N1 N2) {j : Nat} (hr : regex_follow.Reach big (N1 + N2 + 2) j) : j = N1 + N2 + 2 := by
  obtain ⟨n, hn⟩ := hr
  induction n generalizing j with
  | zero => exact (show N1 + N2 + 2 = j from hn).symm
  | succ n ih =>
    obtain ⟨m, h1, x, hx, he⟩ := hn
    rw [ih h1] at hx
    obtain ⟨y, hy, h4⟩ := h.lst
    rw [hx] at hy
    have := Option.some.inj hy
    subst this
    rcases he with ⟨h2, _⟩ | ⟨h2, _⟩ <;> omega
theorem Two.reach_mid {p q big : List I} {N1 N2 : Nat} (h : Two p q big N1 N2) {j : Nat} : regex_follow.Reach big (1 + N1) j ↔ (j = 1 + N1 ∨ j = N1 + N2 + 2) := by
  obtain ⟨y, hy, h3, h4⟩ := h.mid
  have he : Eps big (1 + N1) (N1 + N2 + 2) := ⟨y, by rw [Nat.add_comm]; exact hy, Or.inr ⟨h3, h4⟩⟩
  constructor
  · rintro ⟨n, hn⟩
    induction n generalizing j with
    | zero => exact Or.inl (show 1 + N1 = j from hn).symm
    | succ n ih =>
      obtain ⟨m, h1, h2⟩ := hn
      rcases ih h1 with rfl | rfl
      · obtain ⟨x, hx, he⟩ := h2
        rw [Nat.add_comm, hy] at hx
        have := Option.some.inj hx
        subst this
        rcases he with ⟨g2, _⟩ | ⟨_, g3⟩
        · omega
        · exact Or.inr (by omega)
      · exact Or.inr (h.reach_end ((regex_follow.Reach.refl _ _).step h2))
  · rintro (rfl | rfl)
    · exact regex_follow.Reach.refl _ _
    · exact (regex_follow.Reach.refl _ _).step he
theorem Two.reach0 {p q big : List I} {N1 N2 : Nat} (h : Two p q big N1 N2) {j : Nat} : regex_follow.Reach big 0 j ↔ (j = 0 ∨ regex_follow.Reach big 1 j ∨ regex_follow.Reach big (N1 + 2) j) := by
  obtain ⟨y, hy, h2, h3, h4⟩ := h.fst
  constructor
  · rintro ⟨n, hn⟩
    induction n generalizing j with
    | zero => exact Or.inl (show 0 = j from hn).symm
    | succ n ih =>
      obtain ⟨m, g1, g2⟩ := hn
      rcases ih g1 with rfl | h9 | h9
      · obtain ⟨x, hx, he⟩ := g2
        rw [hy] at hx
        have := Option.some.inj hx
        subst this
        rcases he with ⟨_, g3 | g3⟩ | ⟨g3, _⟩
        · have : j = 1 := by omega
          subst this
          exact Or.inr (Or.inl (regex_follow.Reach.refl _ _))
        · have : j = N1 + 2 := by omega
          subst this
          exact Or.inr (Or.inr (regex_follow.Reach.refl _ _))
        · omega
      · exact Or.inr (Or.inl (h9.step g2))
      · exact Or.inr (Or.inr (h9.step g2))
  · rintro (rfl | h9 | h9)
    · exact regex_follow.Reach.refl _ _
    · exact regex_follow.Reach.trans ((regex_follow.Reach.refl _ _).step ⟨y, hy, Or.inl ⟨h2, Or.inl (by omega)⟩⟩) h9
    · exact regex_follow.Reach.trans ((regex_follow.Reach.refl _ _).step ⟨y, hy, Or.inl ⟨h2, Or.inr h4⟩⟩) h9
/-- The great program's places, told by the two programs'. -/
structure Q (N1 N2 : Nat) (T S1 S2 : Nat → Prop) : Prop where
  p : ∀ i, i < N1 → (T (1 + i) ↔ S1 i)
  q : ∀ i, i < N2 → (T (N1 + 2 + i) ↔ S2 i)
  e : T (N1 + N2 + 2) ↔ (S1 N1 ∨ S2 N2)
theorem Two.step {p q big : List I} {N1 N2 : Nat} (h : Two p q big N1 N2) {T S1 S2 : Nat → Prop} (hQ : Q N1 N2 T S1 S2) (r : Int) : Q N1 N2 (Step big r T) (Step p r S1) (Step q r S2) := by
  have hs : ∀ j, Step big r T j ↔ (StepIn big N1 1 r T j ∨ StepIn big N2 (N1 + 2) r T j) := fun j => by
    constructor
    · rintro ⟨i, y, h1, h2, h3, h4, h5⟩
      have hi := (List.getElem?_eq_some_iff.1 h2).1
      rw [h.len] at hi
      have hno : ∀ (k : Nat) (v : Int), i = k → (∃ x, big[k]? = some x ∧ x.f0 = v) → v = 1 := by
        rintro k v rfl ⟨x, hx, hv⟩
        rw [h2] at hx
        have := Option.some.inj hx
        subst this
        omega
      have h0 : i ≠ 0 := fun h9 => by
        obtain ⟨x, g1, g2, _⟩ := h.fst
        exact absurd (hno 0 2 h9 ⟨x, g1, g2⟩) (by decide)
      have hm : i ≠ N1 + 1 := fun h9 => by
        obtain ⟨x, g1, g2, _⟩ := h.mid
        exact absurd (hno _ 3 h9 ⟨x, g1, g2⟩) (by decide)
      have hl : i ≠ N1 + N2 + 2 := fun h9 => by
        obtain ⟨x, g1, g2⟩ := h.lst
        exact absurd (hno _ 4 h9 ⟨x, g1, g2⟩) (by decide)
      rcases Nat.lt_or_ge i (N1 + 1) with h9 | h9
      · obtain ⟨i', rfl⟩ : ∃ i', i = 1 + i' := ⟨i - 1, by omega⟩
        exact Or.inl ⟨i', y, by omega, h1, h2, h3, h4, h5⟩
      · obtain ⟨i', rfl⟩ : ∃ i', i = N1 + 2 + i' := ⟨i - (N1 + 2), by omega⟩
        exact Or.inr ⟨i', y, by omega, h1, h2, h3, h4, h5⟩
    · rintro (⟨i, y, _, h1, h2, h3, h4, h5⟩ | ⟨i, y, _, h1, h2, h3, h4, h5⟩)
      · exact ⟨1 + i, y, h1, h2, h3, h4, h5⟩
      · exact ⟨N1 + 2 + i, y, h1, h2, h3, h4, h5⟩
  have a := fun j => h.p.step (r := r) hQ.p j
  have b := fun j => h.q.step (r := r) hQ.q j
  have hend : N1 + 2 + N2 = N1 + N2 + 2 := by omega
  rw [hend] at b
  refine ⟨fun i hi => ?_, fun i hi => ?_, ?_⟩
  · rw [hs, a, b]
    constructor
    · rintro ((⟨j', k1, k2, k3⟩ | ⟨_, k2⟩) | (⟨j', k1, k2, k3⟩ | ⟨_, k2⟩))
      · have : i = j' := by omega
        subst this
        exact k3
      · have := h.reach_mid.1 k2
        omega
      · omega
      · have := h.reach_end k2
        omega
    · exact fun k => Or.inl (Or.inl ⟨i, hi, rfl, k⟩)
  · rw [hs, a, b]
    constructor
    · rintro ((⟨j', k1, k2, k3⟩ | ⟨_, k2⟩) | (⟨j', k1, k2, k3⟩ | ⟨_, k2⟩))
      · omega
      · have := h.reach_mid.1 k2
        omega
      · have : i = j' := by omega
        subst this
        exact k3
      · have := h.reach_end k2
        omega
    · exact fun k => Or.inr (Or.inl ⟨i, hi, rfl, k⟩)
  · rw [hs, a, b]
    constructor
    · rintro ((⟨j', k1, k2, k3⟩ | ⟨k1, k2⟩) | (⟨j', k1, k2, k3⟩ | ⟨k1, k2⟩))
      · omega
      · exact Or.inl k1
      · omega
      · exact Or.inr k1
    · rintro (k | k)
      · exact Or.inl (Or.inr ⟨k, h.reach_mid.2 (Or.inr rfl)⟩)
      · exact Or.inr (Or.inr ⟨k, regex_follow.Reach.refl _ _⟩)
theorem Two.run {p q big : List I} {N1 N2 : Nat} (h : Two p q big N1 N2) : ∀ (rs : List Int) (T S1 S2 : Nat → Prop), Q N1 N2 T S1 S2 → (RunS big rs T (N1 + N2 + 2) ↔ (RunS p rs S1 N1 ∨ RunS q rs S2 N2)) := by
  intro rs
  induction rs with
  | nil => exact fun T S1 S2 hQ => hQ.e
  | cons r rs ih => exact fun T S1 S2 hQ => ih _ _ _ (h.step hQ r)
theorem Two.acc {p q big : List I} {N1 N2 : Nat} (h : Two p q big N1 N2) (rs : List Int) : regex_Match.Acc big rs ↔ (regex_Match.Acc p rs ∨ regex_Match.Acc q rs) := by
  unfold regex_Match.Acc
  rw [h.len, h.p.len, h.q.len]
  have hend : N1 + 2 + N2 = N1 + N2 + 2 := by omega
  have a := fun j => h.p.reach (i := 0) (j := j) (by omega)
  have b := fun j => h.q.reach (i := 0) (j := j) (by omega)
  rw [hend] at b
  simp only [Nat.add_zero] at a b
  refine h.run rs _ _ _ ⟨fun i hi => ?_, fun i hi => ?_, ?_⟩
  · rw [h.reach0, a, b]
    constructor
    · rintro (k | (⟨j', k1, k2, k3⟩ | ⟨_, k2⟩) | (⟨j', k1, k2, k3⟩ | ⟨_, k2⟩))
      · omega
      · have : i = j' := by omega
        subst this
        exact k3
      · have := h.reach_mid.1 k2
        omega
      · omega
      · have := h.reach_end k2
        omega
    · exact fun k => Or.inr (Or.inl (Or.inl ⟨i, hi, rfl, k⟩))
  · rw [h.reach0, a, b]
    constructor
    · rintro (k | (⟨j', k1, k2, k3⟩ | ⟨_, k2⟩) | (⟨j', k1, k2, k3⟩ | ⟨_, k2⟩))
      · omega
      · omega
      · have := h.reach_mid.1 k2
        omega
      · have : i = j' := by omega
        subst this
        exact k3
      · have := h.reach_end k2
        omega
    · exact fun k => Or.inr (Or.inr (Or.inl ⟨i, hi, rfl, k⟩))
  · rw [h.reach0, a, b]
    constructor
    · rintro (k | (⟨j', k1, k2, k3⟩ | ⟨k1, k2⟩) | (⟨j', k1, k2, k3⟩ | ⟨k1, k2⟩))
      · omega
      · omega
      · exact Or.inl k1
      · omega
      · exact Or.inr k1
    · rintro (k | k)
      · exact Or.inr (Or.inl (Or.inr ⟨k, h.reach_mid.2 (Or.inr rfl)⟩))
      · exact Or.inr (Or.inr (Or.inr ⟨k, regex_follow.Reach.refl _ _⟩))
end Nfa
end Go.Proofs.YtgnehcgaplnfkaaDoor.PAll
