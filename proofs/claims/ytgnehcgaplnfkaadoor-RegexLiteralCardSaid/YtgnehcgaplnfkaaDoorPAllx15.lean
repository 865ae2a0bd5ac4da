-- Written by a program of this seat (wip/tools), out of the translation. Not trusted: Lean checks it.
import Derived.Test.YtgnehcgaplnfkaaDoorPAllx0
import Derived.Test.YtgnehcgaplnfkaaDoorPAllx5
import Derived.Test.YtgnehcgaplnfkaaDoorPAllx6
import Derived.Test.YtgnehcgaplnfkaaDoorPAllx7
import Derived.Test.YtgnehcgaplnfkaaDoorPAllx8
import Derived.Test.YtgnehcgaplnfkaaDoorPAllx9
import Derived.Test.YtgnehcgaplnfkaaDoorPAllx11
import Derived.Test.YtgnehcgaplnfkaaDoorPAllx12
import Derived.Test.YtgnehcgaplnfkaaDoorPAllx14
namespace Go.Proofs.YtgnehcgaplnfkaaDoor.PAll
open Go.RowKit Go.Proofs.YtgnehcgaplnfkaaDoorW.PrintWords Go.Proofs.YtgnehcgaplnfkaaDoorW.PrintLast Go.Proofs.YtgnehcgaplnfkaaDoorW.PrintMore
attribute [local go_sem] max2_int min2_int max_two min_two max_three min_three max_four min_four   -- for this text's walks alone
set_option linter.unusedVariables false
set_option linter.unusedSimpArgs false

/-! ### regex_coder_atom: function 111 -/
-- uses regex_coder_take regex_coder_next regex_coder_more regex_coder_among regex_coder_put regex_coder_part regex_coder_class regex_shifted
def regex_coder_atom.f : Option Int := none
abbrev regex_coder_atom.CS := regex_coder_take.CS
def regex_coder_atom.put (s : regex_coder_atom.CS) (l : List S62) : regex_coder_atom.CS := { s with code := s.code ++ l }
/-- The bracket behind alternatives is taken. -/
def regex_coder_atom.close (s : regex_coder_atom.CS) : regex_coder_atom.CS := (regex_coder_take.step ⟨s.p, s.code, s.bad || regex_coder_next.nx s != 41⟩).2
/-- An atom; what stands in brackets is told by 'alts'. -/
def regex_coder_atom.atomM (alts : Nat → regex_coder_atom.CS → regex_coder_atom.CS) (d : Nat) (s : regex_coder_atom.CS) : regex_coder_atom.CS :=
  if regex_coder_among.am ⟨#[42, 43, 63, 124, 41, 93]⟩ s = true then { s with bad := true }
  else if (regex_coder_take.step s).1 = 46 then regex_coder_atom.put (regex_coder_take.step s).2 [⟨1, [], true, 0, 0⟩]
  else if (regex_coder_take.step s).1 = 91 then regex_coder_class.cls (regex_coder_take.step s).2
  else if (regex_coder_take.step s).1 = 40 then
    if (regex_coder_take.step s).2.bad = true ∨ 10 ≤ d then { (regex_coder_take.step s).2 with bad := true }
    else regex_coder_atom.close (alts (d + 1) (regex_coder_take.step s).2)
  else if (regex_coder_take.step s).1 = 92 then regex_coder_atom.put (regex_coder_take.step (regex_coder_take.step s).2).2 [⟨1, [⟨(regex_coder_take.step (regex_coder_take.step s).2).1, (regex_coder_take.step (regex_coder_take.step s).2).1⟩], false, 0, 0⟩]
  else regex_coder_atom.put (regex_coder_take.step s).2 [⟨1, [⟨(regex_coder_take.step s).1, (regex_coder_take.step s).1⟩], false, 0, 0⟩]
/-- What stands behind an atom whose instructions begin at n. -/
def regex_coder_atom.qual (n : Nat) (s : regex_coder_atom.CS) : regex_coder_atom.CS :=
  if s.bad = false ∧ regex_coder_among.am ⟨#[42, 43, 63]⟩ s = true then
    if (regex_coder_take.step { s with code := s.code.take n }).1 = 42 then regex_coder_atom.put (regex_coder_atom.put (regex_coder_atom.put (regex_coder_take.step { s with code := s.code.take n }).2 [⟨2, [], false, (n : Int) + 1, (n : Int) + ((s.code.drop n).length : Int) + 2⟩]) ((s.code.drop n).map (regex_shifted.sh 1))) [⟨3, [], false, n, 0⟩]
    else if (regex_coder_take.step { s with code := s.code.take n }).1 = 43 then regex_coder_atom.put (regex_coder_atom.put (regex_coder_take.step { s with code := s.code.take n }).2 (s.code.drop n)) [⟨2, [], false, n, (n : Int) + ((s.code.drop n).length : Int) + 1⟩]
    else regex_coder_atom.put (regex_coder_atom.put (regex_coder_take.step { s with code := s.code.take n }).2 [⟨2, [], false, (n : Int) + 1, (n : Int) + ((s.code.drop n).length : Int) + 1⟩]) ((s.code.drop n).map (regex_shifted.sh 1))
  else s
/-- What is put ahead of and behind the first alternative, whose instructions begin at n. -/
def regex_coder_atom.bar (n : Nat) (s : regex_coder_atom.CS) : regex_coder_atom.CS :=
  regex_coder_atom.put (regex_coder_atom.put (regex_coder_atom.put { (regex_coder_take.step s).2 with code := s.code.take n } [⟨2, [], false, (n : Int) + 1, (n : Int) + ((s.code.drop n).length : Int) + 2⟩]) ((s.code.drop n).map (regex_shifted.sh 1))) [⟨3, [], false, 0, 0⟩]
/-- The jump at j goes to the end. -/
def regex_coder_atom.aim (j : Nat) (s : regex_coder_atom.CS) : regex_coder_atom.CS := match s.code[j]? with
  | some x => { s with code := s.code.set j ⟨x.f0, x.f1, x.f2, (s.code.length : Int), x.f4⟩ }
  | none => s
/-- An atom (0), pieces (1), alternatives (2). -/
def regex_coder_atom.M : Nat → Nat → Nat → regex_coder_atom.CS → regex_coder_atom.CS
  | 0, _, _, s => s
  | f + 1, 0, d, s => regex_coder_atom.atomM (fun d' s' => regex_coder_atom.M f 2 d' s') d s
  | f + 1, 1, d, s => if regex_coder_more.mo s = true ∧ regex_coder_among.am ⟨#[124, 41]⟩ s = false then regex_coder_atom.M f 1 d (regex_coder_atom.qual s.code.length (regex_coder_atom.M f 0 d s)) else s
  | f + 1, _ + 2, d, s =>
    if regex_coder_more.mo (regex_coder_atom.M f 1 d s) = true ∧ regex_coder_next.nx (regex_coder_atom.M f 1 d s) = 124 then
      regex_coder_atom.aim (s.code.length + 1 + ((regex_coder_atom.M f 1 d s).code.drop s.code.length).length) (regex_coder_atom.M f 2 d (regex_coder_atom.bar s.code.length (regex_coder_atom.M f 1 d s)))
    else regex_coder_atom.M f 1 d s
def regex_coder_atom.need (k : Nat) (n : Nat) : Nat := 4 * n + 1 + k
theorem regex_coder_atom.step_ne {s : regex_coder_atom.CS} (h : s.p ≠ []) : (regex_coder_take.step s).2.p.length + 1 = s.p.length ∧ (regex_coder_take.step s).2.bad = s.bad ∧ (regex_coder_take.step s).2.code = s.code := by
  obtain ⟨p, code, bad⟩ := s
  cases p with
  | nil => exact absurd rfl h
  | cons r q => exact ⟨rfl, rfl, rfl⟩
theorem regex_coder_atom.am_ne {m : ByteArray} {s : regex_coder_atom.CS} (h : regex_coder_among.am m s = true) : s.p ≠ [] := by
  intro h0
  unfold regex_coder_among.am at h
  rw [h0] at h
  cases h
theorem regex_coder_atom.mo_ne {s : regex_coder_atom.CS} (h : regex_coder_more.mo s = true) : s.p ≠ [] ∧ s.bad = false := by
  unfold regex_coder_more.mo at h
  refine ⟨?_, ?_⟩
  · rintro h0
    rw [h0] at h
    simp at h
  · cases hb : s.bad with
    | false => rfl
    | true => rw [hb] at h; simp at h
theorem regex_coder_atom.cls_dec (s : regex_coder_atom.CS) : (regex_coder_class.cls s).p.length ≤ s.p.length ∧ (regex_coder_class.cls s).code.length = s.code.length + 1 := by
  unfold regex_coder_class.cls
  dsimp only
  have h3 := regex_coder_class.step_code (regex_coder_class.loopM ((if regex_coder_class.neg s = true then (regex_coder_take.step s).2 else s).p.length + 2) true (if regex_coder_class.neg s = true then (regex_coder_take.step s).2 else s) []).2
  have h4 := (regex_coder_class.step_dec (regex_coder_class.loopM ((if regex_coder_class.neg s = true then (regex_coder_take.step s).2 else s).p.length + 2) true (if regex_coder_class.neg s = true then (regex_coder_take.step s).2 else s) []).2).1
  obtain ⟨h1, h2⟩ := regex_coder_class.loopM_code ((if regex_coder_class.neg s = true then (regex_coder_take.step s).2 else s).p.length + 2) true (if regex_coder_class.neg s = true then (regex_coder_take.step s).2 else s) []
  have h5 : (if regex_coder_class.neg s = true then (regex_coder_take.step s).2 else s).p.length ≤ s.p.length ∧ (if regex_coder_class.neg s = true then (regex_coder_take.step s).2 else s).code = s.code := by
    split
    · exact ⟨(regex_coder_class.step_dec s).1, regex_coder_class.step_code s⟩
    · exact ⟨Nat.le_refl _, rfl⟩
  refine ⟨by omega, ?_⟩
  rw [List.length_append, h3, h1, h5.2]
  rfl
theorem regex_coder_atom.close_dec (s : regex_coder_atom.CS) : (regex_coder_atom.close s).p.length ≤ s.p.length ∧ (regex_coder_atom.close s).code = s.code :=
  ⟨(regex_coder_class.step_dec ⟨s.p, s.code, s.bad || regex_coder_next.nx s != 41⟩).1, regex_coder_class.step_code ⟨s.p, s.code, s.bad || regex_coder_next.nx s != 41⟩⟩
/-- What a step of the coder leaves: no code point more, no instruction less; an instruction at most for half a code point. -/
structure regex_coder_atom.Dec (s s' : regex_coder_atom.CS) : Prop where
  p : s'.p.length ≤ s.p.length
  code : s.code.length ≤ s'.code.length
  both : s'.code.length + 2 * s'.p.length ≤ s.code.length + 2 * s.p.length
theorem regex_coder_atom.Dec.refl (s : regex_coder_atom.CS) : regex_coder_atom.Dec s s := ⟨Nat.le_refl _, Nat.le_refl _, Nat.le_refl _⟩
theorem regex_coder_atom.Dec.trans {s s' s'' : regex_coder_atom.CS} (h : regex_coder_atom.Dec s s') (h' : regex_coder_atom.Dec s' s'') : regex_coder_atom.Dec s s'' := ⟨Nat.le_trans h'.p h.p, Nat.le_trans h.code h'.code, Nat.le_trans h'.both h.both⟩
theorem regex_coder_atom.qual_dec {n : Nat} {s : regex_coder_atom.CS} (hn : n ≤ s.code.length) : (regex_coder_atom.qual n s).p.length ≤ s.p.length ∧ n ≤ (regex_coder_atom.qual n s).code.length ∧ (regex_coder_atom.qual n s).code.length + 2 * (regex_coder_atom.qual n s).p.length ≤ s.code.length + 2 * s.p.length ∧ (s.bad = true → (regex_coder_atom.qual n s).bad = true) := by
  unfold regex_coder_atom.qual
  by_cases hc : s.bad = false ∧ regex_coder_among.am ⟨#[42, 43, 63]⟩ s = true
  · rw [if_pos hc]
    obtain ⟨h1, h2, h3⟩ := regex_coder_atom.step_ne (s := { s with code := s.code.take n }) (regex_coder_atom.am_ne hc.2)
    simp only at h1 h2 h3
    have hl : (regex_coder_take.step { s with code := s.code.take n }).2.code.length = n := by rw [h3, List.length_take]; omega
    refine ⟨?_, ?_, ?_, fun h => absurd h (by rw [hc.1]; decide)⟩
    all_goals (split; (simp only [regex_coder_atom.put, List.length_append, List.length_map, List.length_drop, List.length_cons, List.length_nil, hl]; omega); split; (simp only [regex_coder_atom.put, List.length_append, List.length_map, List.length_drop, List.length_cons, List.length_nil, hl]; omega); (simp only [regex_coder_atom.put, List.length_append, List.length_map, List.length_drop, List.length_cons, List.length_nil, hl]; omega))
  · rw [if_neg hc]
    exact ⟨Nat.le_refl _, hn, Nat.le_refl _, fun h => h⟩
theorem regex_coder_atom.bar_dec {n : Nat} {s : regex_coder_atom.CS} (hn : n ≤ s.code.length) (hp : s.p ≠ []) : regex_coder_atom.Dec s (regex_coder_atom.bar n s) ∧ (regex_coder_atom.bar n s).p.length + 1 = s.p.length ∧ (regex_coder_atom.bar n s).code.length = s.code.length + 2 := by
  obtain ⟨h1, h2, h3⟩ := regex_coder_atom.step_ne hp
  have hl : (regex_coder_atom.bar n s).code.length = s.code.length + 2 := by
    simp only [regex_coder_atom.bar, regex_coder_atom.put, List.length_append, List.length_map, List.length_drop, List.length_cons, List.length_nil, List.length_take]
    omega
  have hq : (regex_coder_atom.bar n s).p.length + 1 = s.p.length := h1
  exact ⟨⟨by omega, by omega, by omega⟩, hq, hl⟩
theorem regex_coder_atom.aim_len (j : Nat) (s : regex_coder_atom.CS) : (regex_coder_atom.aim j s).code.length = s.code.length ∧ (regex_coder_atom.aim j s).p = s.p ∧ (regex_coder_atom.aim j s).bad = s.bad := by
  unfold regex_coder_atom.aim
  split
  · exact ⟨List.length_set, rfl, rfl⟩
  · exact ⟨rfl, rfl, rfl⟩
theorem regex_coder_atom.M_dec (f : Nat) : ∀ (k d : Nat) (s : regex_coder_atom.CS), (k = 0 → s.p ≠ []) → regex_coder_atom.Dec s (regex_coder_atom.M f k d s) ∧ (k = 0 → 0 < f → (regex_coder_atom.M f k d s).bad = true ∨ (regex_coder_atom.M f k d s).p.length + 1 ≤ s.p.length) := by
  induction f with
  | zero => exact fun k d s _ => ⟨regex_coder_atom.Dec.refl s, fun _ h => absurd h (by omega)⟩
  | succ f ih =>
    intro k d s hk
    match k with
    | 0 =>
      obtain ⟨a1, a2, a3⟩ := regex_coder_atom.step_ne (hk rfl)
      simp only [regex_coder_atom.M]
      unfold regex_coder_atom.atomM
      by_cases c1 : regex_coder_among.am ⟨#[42, 43, 63, 124, 41, 93]⟩ s = true
      · rw [if_pos c1]
        exact ⟨⟨Nat.le_refl _, Nat.le_refl _, Nat.le_refl _⟩, fun _ _ => Or.inl rfl⟩
      rw [if_neg c1]
      by_cases c2 : (regex_coder_take.step s).1 = 46
      · rw [if_pos c2]
        refine ⟨⟨?_, ?_, ?_⟩, fun _ _ => Or.inr ?_⟩
        all_goals simp only [regex_coder_atom.put, List.length_append, List.length_cons, List.length_nil, a3]
        all_goals omega
      rw [if_neg c2]
      by_cases c3 : (regex_coder_take.step s).1 = 91
      · rw [if_pos c3]
        obtain ⟨b1, b2⟩ := regex_coder_atom.cls_dec (regex_coder_take.step s).2
        rw [a3] at b2
        exact ⟨⟨by omega, by omega, by omega⟩, fun _ _ => Or.inr (by omega)⟩
      rw [if_neg c3]
      by_cases c4 : (regex_coder_take.step s).1 = 40
      · rw [if_pos c4]
        by_cases c5 : (regex_coder_take.step s).2.bad = true ∨ 10 ≤ d
        · rw [if_pos c5]
          refine ⟨⟨?_, ?_, ?_⟩, fun _ _ => Or.inl rfl⟩
          all_goals simp only [a3]
          all_goals omega
        · rw [if_neg c5]
          obtain ⟨⟨b1, b2, b3⟩, _⟩ := ih 2 (d + 1) (regex_coder_take.step s).2 (fun h => absurd h (by decide))
          dsimp only
          obtain ⟨e2, e1⟩ := regex_coder_atom.close_dec (regex_coder_atom.M f 2 (d + 1) (regex_coder_take.step s).2)
          rw [a3] at b2 b3
          refine ⟨⟨?_, ?_, ?_⟩, fun _ _ => Or.inr ?_⟩
          all_goals first | rw [e1] | skip
          all_goals omega
      rw [if_neg c4]
      by_cases c5 : (regex_coder_take.step s).1 = 92
      · rw [if_pos c5]
        have e1 := regex_coder_class.step_code (regex_coder_take.step s).2
        have e2 := (regex_coder_class.step_dec (regex_coder_take.step s).2).1
        refine ⟨⟨?_, ?_, ?_⟩, fun _ _ => Or.inr ?_⟩
        all_goals simp only [regex_coder_atom.put, List.length_append, List.length_cons, List.length_nil, e1, a3]
        all_goals omega
      · rw [if_neg c5]
        refine ⟨⟨?_, ?_, ?_⟩, fun _ _ => Or.inr ?_⟩
        all_goals simp only [regex_coder_atom.put, List.length_append, List.length_cons, List.length_nil, a3]
        all_goals omega
    | 1 =>
      refine ⟨?_, fun h => absurd h (by decide)⟩
      simp only [regex_coder_atom.M]
      split
      · rename_i hc
        have hp := (regex_coder_atom.mo_ne hc.1).1
        obtain ⟨⟨b1, b2, b3⟩, _⟩ := ih 0 d s (fun _ => hp)
        obtain ⟨e1, e2, e3, _⟩ := regex_coder_atom.qual_dec b2
        obtain ⟨⟨g1, g2, g3⟩, _⟩ := ih 1 d (regex_coder_atom.qual s.code.length (regex_coder_atom.M f 0 d s)) (fun h => absurd h (by decide))
        exact ⟨by omega, by omega, by omega⟩
      · exact regex_coder_atom.Dec.refl s
    | k + 2 =>
      refine ⟨?_, fun h => absurd h (by omega)⟩
      simp only [regex_coder_atom.M]
      obtain ⟨hb, _⟩ := ih 1 d s (fun h => absurd h (by decide))
      split
      · rename_i hc
        have hp := (regex_coder_atom.mo_ne hc.1).1
        obtain ⟨hd, _, _⟩ := regex_coder_atom.bar_dec hb.code hp
        obtain ⟨hl, _⟩ := ih 2 d (regex_coder_atom.bar s.code.length (regex_coder_atom.M f 1 d s)) (fun h => absurd h (by decide))
        obtain ⟨i1, i2, i3⟩ := regex_coder_atom.aim_len (s.code.length + 1 + ((regex_coder_atom.M f 1 d s).code.drop s.code.length).length) (regex_coder_atom.M f 2 d (regex_coder_atom.bar s.code.length (regex_coder_atom.M f 1 d s)))
        obtain ⟨j1, j2, j3⟩ := hb.trans (hd.trans hl)
        exact ⟨by rw [i2]; exact j1, by rw [i1]; exact j2, by rw [i1, i2]; exact j3⟩
      · exact hb
/-- What a walk of kind k with fuel f shows. -/
def regex_coder_atom.Sp (n k f : Nat) : Prop := ∀ (w0 W : World) (g gp : Nat) (vc : Value) (s : regex_coder_atom.CS) (d : Nat), regex_coder_take.St w0 W g gp vc s → d ≤ 10 → (s.bad = true ∨ regex_coder_atom.need k s.p.length ≤ f) → s.code.length + 2 * s.p.length ≤ 1000 → (k = 0 → s.bad = false ∧ s.p ≠ []) →
  Calls Tryd.prog n #[.pointer (some ⟨g, 0, none⟩), .int .i64 (d : Int)] W fun e W' => e = .returned (.tuple #[]) ∧ ∃ vc', regex_coder_take.St w0 W' g gp vc' (regex_coder_atom.M f k d s)
set_option maxHeartbeats 4000000 in
set_option maxRecDepth 10000 in
theorem regex_coder_atom.calls (f : Nat) (hL : regex_coder_atom.Sp 53 2 f) : regex_coder_atom.Sp 111 0 (f + 1) := by
  intro w0 W g gp vc s d h hd hneed hsz hk
  obtain ⟨hbad, hp⟩ := hk rfl
  obtain ⟨A, c, ⟨h0, h1, h2⟩, ⟨f0, f1, f2⟩, hl, hb, hr⟩ := h.look
  obtain ⟨am1, ham⟩ : ∃ am1, Aside0 (regex_coder_among.am ⟨#[42, 43, 63, 124, 41, 93]⟩ s = am1) := ⟨_, ⟨rfl⟩⟩
  have HM : Aside0 (regex_coder_atom.M (f + 1) 0 d s = regex_coder_atom.atomM (fun d' s' => regex_coder_atom.M f 2 d' s') d s) := ⟨rfl⟩
  have HS := Aside0.mk h
  have HN : Aside0 (4 * s.p.length + 1 ≤ f + 1) := ⟨by
    have := hneed.resolve_left (by simp [hbad])
    simpa [regex_coder_atom.need] using this⟩
  cases am1 with
  | true =>
    have HB : Aside0 (regex_coder_take.St w0 (W.setCell ⟨g, 2, none⟩ (.bool true)) g gp vc { s with bad := true }) := ⟨h.set hb rfl hl hr rfl⟩
    have HM2 : Aside0 (regex_coder_atom.M (f + 1) 0 d s = { s with bad := true }) := ⟨by
      rw [HM.out]
      unfold regex_coder_atom.atomM
      rw [if_pos ham.out]⟩
    clear h hb hr hl hneed hk hp hbad
    go_enter Tryd.func111, Tryd.ntmps111
    go_wp2_with (go_at_call 110; (with_reducible refine (regex_coder_among.calls w0 W g gp vc s _ HS.out).mono ?_); rintro e W1 ⟨rfl, hW1⟩; rw [hW1, ham.out])
    (try simp only [Exit.inBlock, Exit.then]); refine bodyPost_ret (results_none rfl _ _ _) rfl ?_
    exact ⟨rfl, vc, by rw [HM2.out]; exact HB.out⟩
  | false =>
    obtain ⟨a1, a2, a3⟩ := regex_coder_atom.step_ne hp
    obtain ⟨x1, hx1⟩ : ∃ x1, Aside0 (regex_coder_take.step s = x1) := ⟨_, ⟨rfl⟩⟩
    obtain ⟨r1, s1⟩ := x1
    rw [hx1.out] at a1 a2 a3
    rw [hbad] at a2
    have A1 := Aside0.mk a1
    have A2 := Aside0.mk a2
    have A3 := Aside0.mk (congrArg List.length a3)
    have HM2 : Aside0 (regex_coder_atom.M (f + 1) 0 d s = if r1 = 46 then regex_coder_atom.put s1 [⟨1, [], true, 0, 0⟩] else if r1 = 91 then regex_coder_class.cls s1 else if r1 = 40 then if s1.bad = true ∨ 10 ≤ d then { s1 with bad := true } else regex_coder_atom.close (regex_coder_atom.M f 2 (d + 1) s1) else if r1 = 92 then regex_coder_atom.put (regex_coder_take.step s1).2 [⟨1, [⟨(regex_coder_take.step s1).1, (regex_coder_take.step s1).1⟩], false, 0, 0⟩] else regex_coder_atom.put s1 [⟨1, [⟨r1, r1⟩], false, 0, 0⟩]) := ⟨by
      rw [HM.out]
      unfold regex_coder_atom.atomM
      rw [if_neg (by rw [ham.out]; decide), hx1.out]⟩
    have HK : Aside0 (d ≤ 10 ∧ s.code.length + 2 * s.p.length ≤ 1000) := ⟨hd, hsz⟩
    clear h hb hr hl hneed hk hp hbad a1 a2 a3 HM hd hsz
    by_cases c46 : r1 = 46
    · subst c46
      rw [if_pos rfl] at HM2
      go_enter Tryd.func111, Tryd.ntmps111
      go_wp2_with (first
        | (go_at_call 110; (with_reducible refine (regex_coder_among.calls w0 W g gp vc s _ HS.out).mono ?_); rintro e W1 ⟨rfl, hW1⟩; rw [hW1, ham.out])
        | (go_at_call 84; (with_reducible refine (regex_coder_take.calls w0 W g gp vc s HS.out).mono ?_); rintro e W1 ⟨rfl, hS1, hK1⟩; rw [hx1.out] at hS1 ⊢; have HS1 := Aside0.mk hS1; clear hS1 hK1)
        | (go_at_call 54; (with_reducible refine (regex_coder_put.put1 HS1.out (Kd.R_nil _ _ _ _ _) (by have := A3.out; have := HK.out.2; omega)).mono ?_); rintro e W3 ⟨rfl, vc3, hS3, hF3⟩; have HS3 := Aside0.mk hS3; clear hS3 hF3))
      (try simp only [Exit.inBlock, Exit.then]); refine bodyPost_ret (results_none rfl _ _ _) rfl ?_
      exact ⟨rfl, _, by rw [HM2.out]; exact HS3.out⟩
    rw [if_neg c46] at HM2
    by_cases c91 : r1 = 91
    · subst c91
      rw [if_pos rfl] at HM2
      go_enter Tryd.func111, Tryd.ntmps111
      go_wp2_with (first
        | (go_at_call 110; (with_reducible refine (regex_coder_among.calls w0 W g gp vc s _ HS.out).mono ?_); rintro e W1 ⟨rfl, hW1⟩; rw [hW1, ham.out])
        | (go_at_call 84; (with_reducible refine (regex_coder_take.calls w0 W g gp vc s HS.out).mono ?_); rintro e W1 ⟨rfl, hS1, hK1⟩; rw [hx1.out] at hS1 ⊢; have HS1 := Aside0.mk hS1; clear hS1 hK1)
        | (go_at_call 124; (with_reducible refine (regex_coder_class.calls w0 W1 g gp vc s1 HS1.out (by have := A1.out; have := A3.out; have := HK.out.2; omega)).mono ?_); rintro e W3 ⟨rfl, vc3, hS3⟩; have HS3 := Aside0.mk hS3; clear hS3))
      (try simp only [Exit.inBlock, Exit.then]); refine bodyPost_ret (results_none rfl _ _ _) rfl ?_
      exact ⟨rfl, _, by rw [HM2.out]; exact HS3.out⟩
    rw [if_neg c91] at HM2
    by_cases c40 : r1 = 40
    · subst c40
      rw [if_pos rfl] at HM2
      by_cases hd10 : 10 ≤ d
      · rw [if_pos (Or.inr hd10)] at HM2
        have hdd : decide (10 ≤ (d : Int)) = true := by simp; omega
        go_enter Tryd.func111, Tryd.ntmps111
        go_wp2_with (first
          | (go_at_call 110; (with_reducible refine (regex_coder_among.calls w0 W g gp vc s _ HS.out).mono ?_); rintro e W1 ⟨rfl, hW1⟩; rw [hW1, ham.out])
          | (go_at_call 84; (with_reducible refine (regex_coder_take.calls w0 W g gp vc s HS.out).mono ?_); rintro e W1 ⟨rfl, hS1, hK1⟩; rw [hx1.out] at hS1 ⊢
             obtain ⟨B1, c1, ⟨k0, k1, k2⟩, ⟨q0, q1, q2⟩, kl, kb, kr⟩ := hS1.look
             rw [A2.out] at k2
             have HT1 : Aside0 (regex_coder_take.St w0 (W1.setCell ⟨g, 2, none⟩ (.bool true)) g gp vc { s1 with bad := true }) := ⟨hS1.set kb rfl kl kr rfl⟩
             clear hS1 hK1 kb kr kl))
        (try simp only [Exit.inBlock, Exit.then]); refine bodyPost_ret (results_none rfl _ _ _) rfl ?_
        exact ⟨rfl, _, by rw [HM2.out]; exact HT1.out⟩
      · rw [if_neg (by rw [A2.out]; simp; omega)] at HM2
        have hdd : decide (10 ≤ (d : Int)) = false := by simp; omega
        obtain ⟨s2, hs2⟩ : ∃ s2, Aside0 (regex_coder_atom.M f 2 (d + 1) s1 = s2) := ⟨_, ⟨rfl⟩⟩
        rw [hs2.out] at HM2
        have hw : Aside0 (((d + 1 : Nat) : Int) = (d : Int) + 1) := ⟨by omega⟩
        by_cases hn2 : regex_coder_next.nx s2 = 41
        · have HC : Aside0 (regex_coder_atom.close s2 = (regex_coder_take.step s2).2) := ⟨by
            unfold regex_coder_atom.close
            rw [hn2]
            obtain ⟨p, code, bad⟩ := s2
            cases bad <;> rfl⟩
          have HN2 := Aside0.mk hn2
          clear hn2
          obtain ⟨x3, hx3⟩ : ∃ x3, Aside0 (regex_coder_take.step s2 = x3) := ⟨_, ⟨rfl⟩⟩
          obtain ⟨r3, s3⟩ := x3
          go_enter Tryd.func111, Tryd.ntmps111
          go_wp2_with (first
            | (go_at_call 110; (with_reducible refine (regex_coder_among.calls w0 W g gp vc s _ HS.out).mono ?_); rintro e W1 ⟨rfl, hW1⟩; rw [hW1, ham.out])
            | (go_at_call 84; (with_reducible refine (regex_coder_take.calls w0 W g gp vc s HS.out).mono ?_); rintro e W1 ⟨rfl, hS1, hK1⟩; rw [hx1.out] at hS1 ⊢
               obtain ⟨B1, c1, ⟨k0, k1, k2⟩, ⟨q0, q1, q2⟩, kl, kb, kr⟩ := hS1.look
               rw [A2.out] at k2
               have HT1 : Aside0 (regex_coder_take.St w0 (W1.setCell ⟨g, 2, none⟩ (.bool false)) g gp vc s1) := ⟨hS1.set kb (by rw [A2.out]; rfl) kl kr rfl⟩
               clear hS1 hK1 kb kr kl)
            | (go_at_call 53
               have hLd := hL w0 (W1.setCell ⟨g, 2, none⟩ (.bool false)) g gp vc s1 (d + 1) HT1.out (by omega) (Or.inr (by have := A1.out; have := HN.out; unfold regex_coder_atom.need; omega)) (by have := A1.out; have := A3.out; have := HK.out.2; omega) (fun h => absurd h (by decide))
               rw [hw.out, hs2.out] at hLd
               (with_reducible refine hLd.mono ?_)
               rintro e W2 ⟨rfl, vc2, hS2⟩
               have HS2 := Aside0.mk hS2
               clear hS2 hLd)
            | (go_at_call 83; (with_reducible refine (regex_coder_next.calls w0 W2 g gp vc2 s2 HS2.out).mono ?_); rintro e W3 ⟨rfl, hW3⟩; rw [hW3, HN2.out])
            | (go_at_call 84; (with_reducible refine (regex_coder_take.calls w0 W2 g gp vc2 s2 HS2.out).mono ?_); rintro e W3 ⟨rfl, hS3, hK3⟩; rw [hx3.out] at hS3 ⊢; have HS3 := Aside0.mk hS3; clear hS3 hK3))
          (try simp only [Exit.inBlock, Exit.then]); refine bodyPost_ret (results_none rfl _ _ _) rfl ?_
          exact ⟨rfl, _, by rw [HM2.out, HC.out, hx3.out]; exact HS3.out⟩
        · have HC : Aside0 (regex_coder_atom.close s2 = (regex_coder_take.step ⟨s2.p, s2.code, true⟩).2) := ⟨by
            unfold regex_coder_atom.close
            rw [show (regex_coder_next.nx s2 != 41) = true from by simpa using hn2, Bool.or_true]⟩
          obtain ⟨n2, HN2⟩ : ∃ n2, Aside0 (regex_coder_next.nx s2 = n2) := ⟨_, ⟨rfl⟩⟩
          rw [HN2.out] at hn2
          have hn3 : (n2 != 41) = true := by simpa using hn2
          clear hn2
          obtain ⟨x3, hx3⟩ : ∃ x3, Aside0 (regex_coder_take.step ⟨s2.p, s2.code, true⟩ = x3) := ⟨_, ⟨rfl⟩⟩
          obtain ⟨r3, s3⟩ := x3
          go_enter Tryd.func111, Tryd.ntmps111
          go_wp2_with (first
            | (go_at_call 110; (with_reducible refine (regex_coder_among.calls w0 W g gp vc s _ HS.out).mono ?_); rintro e W1 ⟨rfl, hW1⟩; rw [hW1, ham.out])
            | (go_at_call 84; (with_reducible refine (regex_coder_take.calls w0 W g gp vc s HS.out).mono ?_); rintro e W1 ⟨rfl, hS1, hK1⟩; rw [hx1.out] at hS1 ⊢
               obtain ⟨B1, c1, ⟨k0, k1, k2⟩, ⟨q0, q1, q2⟩, kl, kb, kr⟩ := hS1.look
               rw [A2.out] at k2
               have HT1 : Aside0 (regex_coder_take.St w0 (W1.setCell ⟨g, 2, none⟩ (.bool false)) g gp vc s1) := ⟨hS1.set kb (by rw [A2.out]; rfl) kl kr rfl⟩
               clear hS1 hK1 kb kr kl)
            | (go_at_call 53
               have hLd := hL w0 (W1.setCell ⟨g, 2, none⟩ (.bool false)) g gp vc s1 (d + 1) HT1.out (by omega) (Or.inr (by have := A1.out; have := HN.out; unfold regex_coder_atom.need; omega)) (by have := A1.out; have := A3.out; have := HK.out.2; omega) (fun h => absurd h (by decide))
               rw [hw.out, hs2.out] at hLd
               (with_reducible refine hLd.mono ?_)
               rintro e W2 ⟨rfl, vc2, hS2⟩
               obtain ⟨B2, c2, ⟨z0, z1, z2⟩, ⟨y0, y1, y2⟩, kl, kb, kr⟩ := hS2.look
               have HS2 := Aside0.mk hS2
               have HT2 : Aside0 (regex_coder_take.St w0 (W2.setCell ⟨g, 2, none⟩ (.bool true)) g gp vc2 ⟨s2.p, s2.code, true⟩) := ⟨hS2.set kb rfl kl kr rfl⟩
               clear hS2 hLd kl kb kr z0 z1)
            | (go_at_call 83; (with_reducible refine (regex_coder_next.calls w0 W2 g gp vc2 s2 HS2.out).mono ?_); rintro e W3 ⟨rfl, hW3⟩; rw [hW3, HN2.out])
            | (go_at_call 84; (with_reducible refine (regex_coder_take.calls w0 (W2.setCell ⟨g, 2, none⟩ (.bool true)) g gp vc2 ⟨s2.p, s2.code, true⟩ HT2.out).mono ?_); rintro e W3 ⟨rfl, hS3, hK3⟩; rw [hx3.out] at hS3 ⊢; have HS3 := Aside0.mk hS3; clear hS3 hK3))
          (try simp only [Exit.inBlock, Exit.then]); refine bodyPost_ret (results_none rfl _ _ _) rfl ?_
          exact ⟨rfl, _, by rw [HM2.out, HC.out, hx3.out]; exact HS3.out⟩
    rw [if_neg c40] at HM2
    by_cases c92 : r1 = 92
    · subst c92
      rw [if_pos rfl] at HM2
      obtain ⟨x2, hx2⟩ : ∃ x2, Aside0 (regex_coder_take.step s1 = x2) := ⟨_, ⟨rfl⟩⟩
      obtain ⟨r2, s2⟩ := x2
      rw [hx2.out] at HM2
      have A4 : Aside0 (s2.code.length = s1.code.length) := ⟨by
        have h9 := regex_coder_class.step_code s1
        rw [hx2.out] at h9
        exact congrArg List.length h9⟩
      go_enter Tryd.func111, Tryd.ntmps111
      go_wp2_with (first
        | (go_at_call 110; (with_reducible refine (regex_coder_among.calls w0 W g gp vc s _ HS.out).mono ?_); rintro e W1 ⟨rfl, hW1⟩; rw [hW1, ham.out])
        | (go_at_call 84; (with_reducible refine (regex_coder_take.calls w0 W g gp vc s HS.out).mono ?_); rintro e W1 ⟨rfl, hS1, hK1⟩; rw [hx1.out] at hS1 ⊢; have HS1 := Aside0.mk hS1; clear hS1 hK1)
        | (go_at_call 84; (with_reducible refine (regex_coder_take.calls w0 W1 g gp vc s1 HS1.out).mono ?_); rintro e W2 ⟨rfl, hS2, hK2⟩; rw [hx2.out] at hS2 ⊢; have HS2 := Aside0.mk hS2; clear hS2 hK2)
        | (go_at_call 54; (with_reducible refine (regex_coder_put.put1a (by simp) (regex_coder_part.St_below HS2.out (below_alloc (Below.refl _ _) _)) (regex_coder_put.span1 rfl HS2.out.below) (by have := A3.out; have := A4.out; have := HK.out.2; omega)).mono ?_); rintro e W3 ⟨rfl, vc3, hS3, hF3⟩; have HS3 := Aside0.mk hS3; clear hS3 hF3))
      go_end0
      exact ⟨rfl, _, by rw [HM2.out]; exact HS3.out⟩
    · rw [if_neg c92] at HM2
      have b46 : (r1 == 46) = false := by simp [c46]
      have b91 : (r1 == 91) = false := by simp [c91]
      have b40 : (r1 == 40) = false := by simp [c40]
      have b92 : (r1 == 92) = false := by simp [c92]
      clear c46 c91 c40 c92
      go_enter Tryd.func111, Tryd.ntmps111
      go_wp2_with (first
        | (go_at_call 110; (with_reducible refine (regex_coder_among.calls w0 W g gp vc s _ HS.out).mono ?_); rintro e W1 ⟨rfl, hW1⟩; rw [hW1, ham.out])
        | (go_at_call 84; (with_reducible refine (regex_coder_take.calls w0 W g gp vc s HS.out).mono ?_); rintro e W1 ⟨rfl, hS1, hK1⟩; rw [hx1.out] at hS1 ⊢; have HS1 := Aside0.mk hS1; clear hS1 hK1)
        | (go_at_call 54; (with_reducible refine (regex_coder_put.put1a (by simp) (regex_coder_part.St_below HS1.out (below_alloc (Below.refl _ _) _)) (regex_coder_put.span1 rfl HS1.out.below) (by have := A3.out; have := HK.out.2; omega)).mono ?_); rintro e W3 ⟨rfl, vc3, hS3, hF3⟩; have HS3 := Aside0.mk hS3; clear hS3 hF3))
      go_end0
      exact ⟨rfl, _, by rw [HM2.out]; exact HS3.out⟩

end Go.Proofs.YtgnehcgaplnfkaaDoor.PAll
