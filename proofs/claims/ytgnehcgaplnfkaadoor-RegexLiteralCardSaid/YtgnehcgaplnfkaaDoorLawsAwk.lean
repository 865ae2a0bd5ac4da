/- Plain law: a fit that is found by following marks; the awake patterns of layer 8. No program runs in it. -/
import Derived.Test.YtgnehcgaplnfkaaDoorPAllx24
namespace Go.Proofs.YtgnehcgaplnfkaaDoor.PAll
open Go.RowKit Go.Proofs.YtgnehcgaplnfkaaDoorW.PrintWords Go.Proofs.YtgnehcgaplnfkaaDoorW.PrintLast
set_option linter.unusedVariables false
set_option linter.unusedSimpArgs false
namespace Awk
abbrev I := S62
/-- Where a place leads to without a code point. -/
def tg (code : List I) (i : Nat) : List Nat := match code[i]? with
  | some x => if x.f0 = 2 ∧ 0 ≤ x.f3 ∧ 0 ≤ x.f4 then [x.f3.toNat, x.f4.toNat] else if x.f0 = 3 ∧ 0 ≤ x.f3 then [x.f3.toNat] else []
  | none => []
theorem tg_eps {code : List I} {i j : Nat} (h : j ∈ tg code i) : regex_follow.Eps code i j := by
  unfold tg at h
  cases hx : code[i]? with
  | none => rw [hx] at h; simp at h
  | some x =>
    rw [hx] at h
    simp only at h
    split at h
    · rename_i h2
      rcases List.mem_cons.1 h with h3 | h3
      · exact ⟨x, hx, Or.inl ⟨h2.1, Or.inl (by omega)⟩⟩
      · have h4 : j = x.f4.toNat := by simpa using h3
        exact ⟨x, hx, Or.inl ⟨h2.1, Or.inr (by omega)⟩⟩
    · split at h
      · rename_i h2
        have h4 : j = x.f3.toNat := by simpa using h
        exact ⟨x, hx, Or.inr ⟨h2.1, by omega⟩⟩
      · simp at h
def add : List Nat → List Nat → List Nat
  | [], l => l
  | j :: js, l => add js (if l.contains j then l else j :: l)
theorem add_mem (j : Nat) : ∀ (a l : List Nat), j ∈ add a l → j ∈ a ∨ j ∈ l
  | [], l, h => Or.inr h
  | x :: a, l, h => by
    rcases add_mem j a _ h with h1 | h1
    · exact Or.inl (List.mem_cons_of_mem _ h1)
    · split at h1
      · exact Or.inr h1
      · rcases List.mem_cons.1 h1 with h2 | h2
        · exact Or.inl (by rw [h2]; exact List.mem_cons_self)
        · exact Or.inr h2
def cl (code : List I) : Nat → List Nat → List Nat
  | 0, l => l
  | f + 1, l => cl code f (add (l.flatMap (tg code)) l)
theorem cl_reach (code : List I) (j : Nat) : ∀ (f : Nat) (l : List Nat), j ∈ cl code f l → ∃ i, i ∈ l ∧ regex_follow.Reach code i j
  | 0, l, h => ⟨j, h, regex_follow.Reach.refl _ _⟩
  | f + 1, l, h => by
    obtain ⟨i, h1, h2⟩ := cl_reach code j f _ h
    rcases add_mem i _ _ h1 with h3 | h3
    · obtain ⟨k, h4, h5⟩ := List.mem_flatMap.1 h3
      exact ⟨k, h4, regex_follow.Reach.trans ((regex_follow.Reach.refl _ _).step (tg_eps h5)) h2⟩
    · exact ⟨i, h3, h2⟩
def on (code : List I) (r : Int) (i : Nat) : List Nat := match code[i]? with
  | some x => if x.f0 = 1 ∧ regex_inst_fits.fitsB x.f2 x.f1 r = true then [i + 1] else []
  | none => []
def run (code : List I) (f : Nat) : List Int → List Nat → List Nat
  | [], l => l
  | r :: rs, l => run code f rs (cl code f (l.flatMap (on code r)))
theorem run_sound (code : List I) (f j : Nat) : ∀ (rs : List Int) (l : List Nat) (S : Nat → Prop), (∀ i, i ∈ l → S i) → j ∈ run code f rs l → regex_Match.RunS code rs S j
  | [], l, S, hS, h => hS j h
  | r :: rs, l, S, hS, h => by
    refine run_sound code f j rs _ (regex_Match.Step code r S) (fun i hi => ?_) h
    obtain ⟨k, h1, h2⟩ := cl_reach code i f _ hi
    obtain ⟨m, h3, h4⟩ := List.mem_flatMap.1 h1
    unfold on at h4
    cases hx : code[m]? with
    | none => rw [hx] at h4; simp at h4
    | some x =>
      rw [hx] at h4
      simp only at h4
      split at h4
      · rename_i h5
        have h6 : k = m + 1 := by simpa using h4
        subst h6
        exact ⟨m, x, hS m h3, hx, h5.1, h5.2, h2⟩
      · simp at h4
theorem acc_of (code : List I) (f : Nat) (rs : List Int) (h : (run code f rs (cl code f [0])).contains (code.length - 1) = true) : regex_Match.Acc code rs := by
  refine run_sound code f _ rs _ _ (fun i hi => ?_) (List.contains_iff_mem.1 h)
  obtain ⟨k, h1, h2⟩ := cl_reach code i f _ hi
  have : k = 0 := by simpa using h1
  rw [this] at h2
  exact h2
theorem ans_of (p s : ByteArray) (code : List I) (f : Nat) (hp : regex_parse.parseM p = some code) (h : (run code f (Base.runesOf s) (cl code f [0])).contains (code.length - 1) = true) : regex_Match.ans p s = (true, 0) := by
  unfold regex_Match.ans
  rw [hp]
  simp only [(regex_Match.dec_iff _).2 (acc_of code f _ h)]
def code8 : List I := (regex_parse.parseM (⟨#[97, 40, 98, 124, 99, 41, 42, 91, 120, 45, 122, 93, 63]⟩ : ByteArray)).getD []
theorem parse8 : regex_parse.parseM (⟨#[97, 40, 98, 124, 99, 41, 42, 91, 120, 45, 122, 93, 63]⟩ : ByteArray) = some code8 := by kernel_rfl
theorem awake8 : dryrotlaw08_awake.f = some true := by
  unfold dryrotlaw08_awake.f regex_Match.f
  rw [ans_of _ _ code8 8 parse8 (by kernel_rfl)]
  rfl
end Awk
end Go.Proofs.YtgnehcgaplnfkaaDoor.PAll
