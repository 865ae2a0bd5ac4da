/- Plain law: a pattern's parse with a closing bracket behind it, deeper and behind other instructions, is the pattern's own parse, shifted. No program runs in it. -/
import Derived.Test.YtgnehcgaplnfkaaDoorPAllx20
import Derived.Test.YtgnehcgaplnfkaaDoorPAllx18
namespace Go.Proofs.YtgnehcgaplnfkaaDoor.PAll
open Go.RowKit Go.Proofs.YtgnehcgaplnfkaaDoorW.PrintWords Go.Proofs.YtgnehcgaplnfkaaDoorW.PrintLast
set_option linter.unusedVariables false
set_option linter.unusedSimpArgs false
namespace Sim
abbrev CS := regex_coder_take.CS
abbrev I := S62
abbrev step := regex_coder_take.step
abbrev am := regex_coder_among.am
abbrev nx := regex_coder_next.nx
abbrev mo := regex_coder_more.mo
abbrev mem := regex_coder_member.mem
abbrev spanM := regex_coder_class.spanM
abbrev loopM := regex_coder_class.loopM
abbrev cls := regex_coder_class.cls
abbrev neg := regex_coder_class.neg
open regex_coder_atom (M put need close)
theorem step_cons (r : Int) (q : List Int) (c : List I) (b : Bool) : step ⟨r :: q, c, b⟩ = (r, ⟨q, c, b⟩) := rfl
theorem step_nil (c : List I) (b : Bool) : step ⟨[], c, b⟩ = (0, ⟨[], c, true⟩) := rfl
theorem am_cons (m : ByteArray) (r : Int) (q q' : List Int) (c c' : List I) (b b' : Bool) : am m ⟨r :: q, c, b⟩ = am m ⟨r :: q', c', b'⟩ := rfl
theorem am_nil (m : ByteArray) (c : List I) (b : Bool) : am m ⟨[], c, b⟩ = false := rfl
theorem am41_dash (q : List Int) (c : List I) (b : Bool) : am ⟨#[45]⟩ ⟨41 :: q, c, b⟩ = false := by kernel_rfl
theorem am41_qual (q : List Int) (c : List I) (b : Bool) : am ⟨#[42, 43, 63]⟩ ⟨41 :: q, c, b⟩ = false := by kernel_rfl
theorem am41_stop (q : List Int) (c : List I) (b : Bool) : am ⟨#[124, 41]⟩ ⟨41 :: q, c, b⟩ = true := by kernel_rfl
theorem mem_cons (r : Int) (q : List Int) (c : List I) (b : Bool) : mem ⟨r :: q, c, b⟩ = if r = 92 then step ⟨q, c, b || am ⟨#[93, 45]⟩ ⟨r :: q, c, b⟩⟩ else (r, ⟨q, c, b || am ⟨#[93, 45]⟩ ⟨r :: q, c, b⟩⟩) := rfl
theorem mem_nil (c : List I) (b : Bool) : (mem ⟨[], c, b⟩).2.bad = true := rfl
theorem mem_sim (p : List Int) (c c' : List I) (t : List Int) (h : (mem ⟨p, c, false⟩).2.bad = false) :
    ∃ x q, mem ⟨p, c, false⟩ = (x, ⟨q, c, false⟩) ∧ mem ⟨p ++ t, c', false⟩ = (x, ⟨q ++ t, c', false⟩) ∧ q.length + 1 ≤ p.length := by
  cases p with
  | nil => rw [mem_nil] at h; cases h
  | cons r q =>
    rw [mem_cons] at h
    have hc : mem ⟨r :: q ++ t, c', false⟩ = if r = 92 then step ⟨q ++ t, c', false || am ⟨#[93, 45]⟩ ⟨r :: q, c, false⟩⟩ else (r, ⟨q ++ t, c', false || am ⟨#[93, 45]⟩ ⟨r :: q, c, false⟩⟩) := rfl
    rw [mem_cons, hc]
    cases ha : am ⟨#[93, 45]⟩ ⟨r :: q, c, false⟩ with
    | true =>
      rw [ha] at h
      exfalso
      by_cases h92 : r = 92
      · rw [if_pos h92] at h
        cases q with
        | nil => cases h
        | cons _ _ => cases h
      · rw [if_neg h92] at h
        cases h
    | false =>
      rw [ha] at h
      by_cases h92 : r = 92
      · rw [if_pos h92] at h
        rw [if_pos h92, if_pos h92]
        cases q with
        | nil => cases h
        | cons x q => exact ⟨x, q, rfl, rfl, by simp⟩
      · rw [if_neg h92, if_neg h92]
        exact ⟨r, q, rfl, rfl, by simp⟩
/-- The second end of a span. -/
def hiM (x : Int) (s1 : CS) : Int × CS := if s1.bad = false ∧ am ⟨#[45]⟩ s1 = true then mem (step s1).2 else (x, s1)
theorem span_is (s : CS) (x : Int) (s1 : CS) (y : Int) (q : List Int) (c : List I) (b : Bool) (h : mem s = (x, s1)) (h2 : hiM x s1 = (y, ⟨q, c, b⟩)) : spanM s = ((⟨x, y⟩ : S95), ⟨q, c, b || decide (y < x)⟩) := by
  have e : spanM s = ((⟨(mem s).1, (hiM (mem s).1 (mem s).2).1⟩ : S95), ⟨(hiM (mem s).1 (mem s).2).2.p, (hiM (mem s).1 (mem s).2).2.code, (hiM (mem s).1 (mem s).2).2.bad || decide ((hiM (mem s).1 (mem s).2).1 < (mem s).1)⟩) := rfl
  rw [e, h]
  simp only
  rw [h2]
theorem span_sim (p : List Int) (c c' : List I) (t : List Int) (h : (spanM ⟨p, c, false⟩).2.bad = false) :
    ∃ x q, spanM ⟨p, c, false⟩ = (x, ⟨q, c, false⟩) ∧ spanM ⟨p ++ 41 :: t, c', false⟩ = (x, ⟨q ++ 41 :: t, c', false⟩) ∧ q.length + 1 ≤ p.length := by
  have hm : (mem ⟨p, c, false⟩).2.bad = false := by
    cases hb : (mem ⟨p, c, false⟩).2.bad with
    | false => rfl
    | true =>
      have e0 : hiM (mem ⟨p, c, false⟩).1 (mem ⟨p, c, false⟩).2 = ((mem ⟨p, c, false⟩).1, ⟨(mem ⟨p, c, false⟩).2.p, (mem ⟨p, c, false⟩).2.code, true⟩) := by
        unfold hiM
        rw [if_neg (by rw [hb]; simp), ← hb]
      rw [span_is _ (mem ⟨p, c, false⟩).1 (mem ⟨p, c, false⟩).2 _ _ _ _ rfl e0] at h
      cases h
  obtain ⟨x, q, h1, h2, hl⟩ := mem_sim p c c' (41 :: t) hm
  have hself : decide (x < x) = false := decide_eq_false (by omega)
  cases q with
  | nil =>
    have g1 : hiM x ⟨[], c, false⟩ = (x, ⟨[], c, false⟩) := by unfold hiM; rw [if_neg (by rw [am_nil]; simp)]
    have g2 : hiM x ⟨[] ++ 41 :: t, c', false⟩ = (x, ⟨[] ++ 41 :: t, c', false⟩) := by unfold hiM; rw [if_neg (by rw [List.nil_append, am41_dash]; simp)]
    refine ⟨⟨x, x⟩, [], ?_, ?_, hl⟩
    · rw [span_is _ _ _ _ _ _ _ h1 g1, hself]
      rfl
    · rw [span_is _ _ _ _ _ _ _ h2 g2, hself]
      rfl
  | cons r q =>
    have ha : am ⟨#[45]⟩ ⟨r :: q ++ 41 :: t, c', false⟩ = am ⟨#[45]⟩ ⟨r :: q, c, false⟩ := rfl
    cases hb : am ⟨#[45]⟩ ⟨r :: q, c, false⟩ with
    | false =>
      have g1 : hiM x ⟨r :: q, c, false⟩ = (x, ⟨r :: q, c, false⟩) := by unfold hiM; rw [if_neg (by rw [hb]; simp)]
      have g2 : hiM x ⟨r :: q ++ 41 :: t, c', false⟩ = (x, ⟨r :: q ++ 41 :: t, c', false⟩) := by unfold hiM; rw [if_neg (by rw [ha, hb]; simp)]
      refine ⟨⟨x, x⟩, r :: q, ?_, ?_, hl⟩
      · rw [span_is _ _ _ _ _ _ _ h1 g1, hself]
        rfl
      · rw [span_is _ _ _ _ _ _ _ h2 g2, hself]
        rfl
    | true =>
      have g1 : hiM x ⟨r :: q, c, false⟩ = mem ⟨q, c, false⟩ := by unfold hiM; rw [if_pos ⟨rfl, hb⟩]; rfl
      have g2 : hiM x ⟨r :: q ++ 41 :: t, c', false⟩ = mem ⟨q ++ 41 :: t, c', false⟩ := by unfold hiM; rw [if_pos ⟨rfl, by rw [ha, hb]⟩]; rfl
      have hg : (mem ⟨q, c, false⟩).2.bad = false ∧ decide ((mem ⟨q, c, false⟩).1 < x) = false := by
        rw [span_is _ _ _ (mem ⟨q, c, false⟩).1 (mem ⟨q, c, false⟩).2.p (mem ⟨q, c, false⟩).2.code (mem ⟨q, c, false⟩).2.bad h1 g1] at h
        exact Bool.or_eq_false_iff.1 h
      obtain ⟨y, q2, k1, k2, kl⟩ := mem_sim q c c' (41 :: t) hg.1
      have hd := hg.2
      rw [k1] at g1 hd
      rw [k2] at g2
      refine ⟨⟨x, y⟩, q2, ?_, ?_, ?_⟩
      · rw [span_is _ _ _ _ _ _ _ h1 g1, hd]
        rfl
      · rw [span_is _ _ _ _ _ _ _ h2 g2, hd]
        rfl
      · simp only [List.length_cons] at hl
        omega
theorem loop_bad (k : Nat) (f : Bool) (s : CS) (l : List S95) (h : s.bad = true) : loopM k f s l = (l, s) := by
  cases k with
  | zero => rfl
  | succ k =>
    show (if s.bad = false ∧ (f = true ∨ am ⟨#[93]⟩ s = false) then loopM k false (spanM s).2 (l ++ [(spanM s).1]) else (l, s)) = (l, s)
    rw [if_neg (by rw [h]; simp)]
theorem loop_sim (c c' : List I) (t : List Int) : ∀ (k k' : Nat) (f : Bool) (p : List Int) (l : List S95), p.length + 1 ≤ k → (p ++ 41 :: t).length + 1 ≤ k' → (loopM k f ⟨p, c, false⟩ l).2.bad = false → (loopM k f ⟨p, c, false⟩ l).2.p ≠ [] →
    ∃ l' q, loopM k f ⟨p, c, false⟩ l = (l', ⟨q, c, false⟩) ∧ loopM k' f ⟨p ++ 41 :: t, c', false⟩ l = (l', ⟨q ++ 41 :: t, c', false⟩) := by
  intro k
  induction k with
  | zero => exact fun k' f p l h => absurd h (by omega)
  | succ k ih =>
    intro k' f p l hk hk' hb hp
    obtain ⟨k', rfl⟩ : ∃ k2, k' = k2 + 1 := ⟨k' - 1, by omega⟩
    have e1 : loopM (k + 1) f ⟨p, c, false⟩ l = if (false : Bool) = false ∧ (f = true ∨ am ⟨#[93]⟩ ⟨p, c, false⟩ = false) then loopM k false (spanM ⟨p, c, false⟩).2 (l ++ [(spanM ⟨p, c, false⟩).1]) else (l, ⟨p, c, false⟩) := rfl
    have e2 : loopM (k' + 1) f ⟨p ++ 41 :: t, c', false⟩ l = if (false : Bool) = false ∧ (f = true ∨ am ⟨#[93]⟩ ⟨p ++ 41 :: t, c', false⟩ = false) then loopM k' false (spanM ⟨p ++ 41 :: t, c', false⟩).2 (l ++ [(spanM ⟨p ++ 41 :: t, c', false⟩).1]) else (l, ⟨p ++ 41 :: t, c', false⟩) := rfl
    rw [e1] at hb hp
    rw [e1, e2]
    by_cases hc : (false : Bool) = false ∧ (f = true ∨ am ⟨#[93]⟩ ⟨p, c, false⟩ = false)
    · rw [if_pos hc] at hb hp
      rw [if_pos hc]
      have hs : (spanM ⟨p, c, false⟩).2.bad = false := by
        cases hb2 : (spanM ⟨p, c, false⟩).2.bad with
        | false => rfl
        | true =>
          rw [loop_bad _ _ _ _ hb2] at hb
          simp only at hb
          rw [hb2] at hb
          cases hb
      obtain ⟨x, q, g1, g2, gl⟩ := span_sim p c c' t hs
      rw [g1] at hb hp
      rw [g1, g2]
      have hpn : p ≠ [] := by rintro rfl; simp at gl
      have hc2 : (false : Bool) = false ∧ (f = true ∨ am ⟨#[93]⟩ ⟨p ++ 41 :: t, c', false⟩ = false) := by
        cases p with
        | nil => exact absurd rfl hpn
        | cons r p => exact hc
      rw [if_pos hc2]
      exact ih k' false q _ (by omega) (by simp only [List.length_append] at hk' ⊢; omega) hb hp
    · rw [if_neg hc] at hb hp
      rw [if_neg hc]
      have hpn : p ≠ [] := hp
      have hc2 : ¬ ((false : Bool) = false ∧ (f = true ∨ am ⟨#[93]⟩ ⟨p ++ 41 :: t, c', false⟩ = false)) := by
        cases p with
        | nil => exact absurd rfl hpn
        | cons r p => exact hc
      rw [if_neg hc2]
      exact ⟨l, p, rfl, rfl⟩
def cl0 (s : CS) : CS := if neg s then (step s).2 else s
theorem cls_is (s : CS) : cls s = ⟨(step (loopM ((cl0 s).p.length + 2) true (cl0 s) []).2).2.p, (step (loopM ((cl0 s).p.length + 2) true (cl0 s) []).2).2.code ++ [⟨1, (loopM ((cl0 s).p.length + 2) true (cl0 s) []).1, neg s, 0, 0⟩], (step (loopM ((cl0 s).p.length + 2) true (cl0 s) []).2).2.bad⟩ := rfl
theorem step_good {s : CS} (h : (step s).2.bad = false) : s.p ≠ [] ∧ s.bad = false := by
  obtain ⟨p, c, b⟩ := s
  cases p with
  | nil => cases h
  | cons r p => exact ⟨by simp, h⟩
theorem cls_sim (p : List Int) (c c' : List I) (t : List Int) (h : (cls ⟨p, c, false⟩).bad = false) :
    ∃ q l no, cls ⟨p, c, false⟩ = ⟨q, c ++ [⟨1, l, no, 0, 0⟩], false⟩ ∧ cls ⟨p ++ 41 :: t, c', false⟩ = ⟨q ++ 41 :: t, c' ++ [⟨1, l, no, 0, 0⟩], false⟩ := by
  obtain ⟨p0, e0, e1, en⟩ : ∃ p0, cl0 ⟨p, c, false⟩ = ⟨p0, c, false⟩ ∧ cl0 ⟨p ++ 41 :: t, c', false⟩ = ⟨p0 ++ 41 :: t, c', false⟩ ∧ neg ⟨p ++ 41 :: t, c', false⟩ = neg ⟨p, c, false⟩ := by
    cases p with
    | nil => exact ⟨[], rfl, rfl, rfl⟩
    | cons r p =>
      have en : neg ⟨r :: p ++ 41 :: t, c', false⟩ = neg ⟨r :: p, c, false⟩ := rfl
      unfold cl0
      rw [en]
      cases neg ⟨r :: p, c, false⟩ with
      | true => exact ⟨p, rfl, rfl, rfl⟩
      | false => exact ⟨r :: p, rfl, rfl, rfl⟩
  rw [cls_is] at h
  rw [cls_is, cls_is, e0, e1, en]
  rw [e0] at h
  obtain ⟨h1, h2⟩ := step_good h
  obtain ⟨l', q, g1, g2⟩ := loop_sim c c' t (p0.length + 2) ((p0 ++ 41 :: t).length + 2) true p0 [] (by omega) (by omega) h2 h1
  have g1' : loopM ((⟨p0, c, false⟩ : CS).p.length + 2) true ⟨p0, c, false⟩ [] = (l', ⟨q, c, false⟩) := g1
  have g2' : loopM ((⟨p0 ++ 41 :: t, c', false⟩ : CS).p.length + 2) true ⟨p0 ++ 41 :: t, c', false⟩ [] = (l', ⟨q ++ 41 :: t, c', false⟩) := g2
  rw [g1'] at h1
  rw [g1', g2']
  cases q with
  | nil => exact absurd rfl h1
  | cons r q => exact ⟨q, l', _, rfl, rfl⟩
end Sim
end Go.Proofs.YtgnehcgaplnfkaaDoor.PAll
