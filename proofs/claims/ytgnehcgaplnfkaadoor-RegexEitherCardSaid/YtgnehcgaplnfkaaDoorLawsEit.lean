/- Plain law: RegexEither. No program runs in it. -/
import Derived.Test.YtgnehcgaplnfkaaDoorLawsSim3
import Derived.Test.YtgnehcgaplnfkaaDoorLawsNfa
import Derived.Test.YtgnehcgaplnfkaaDoorLawsRun
import Derived.Test.YtgnehcgaplnfkaaDoorLawsAwk
import Derived.Test.YtgnehcgaplnfkaaDoorPAllx25
namespace Go.Proofs.YtgnehcgaplnfkaaDoor.PAll
open Go.RowKit Go.Proofs.YtgnehcgaplnfkaaDoorW.PrintWords Go.Proofs.YtgnehcgaplnfkaaDoorW.PrintLast
set_option linter.unusedVariables false
set_option linter.unusedSimpArgs false
namespace Eit
abbrev CS := regex_coder_take.CS
abbrev I := S62
open regex_coder_atom (M need)
open Sim (Rel R barred Sm)
theorem group (F : Nat) (X T : List Int) (c' n : List I) (hX : M (4 * X.length + 3) 2 0 ⟨X, [], false⟩ = ⟨[], n, false⟩) (hF : 4 * (X.length + T.length + 2) + 2 ≤ F) (hc : c'.length + 2 * (X.length + T.length + 2) ≤ 1000) (hX1 : 2 * X.length ≤ 1000)
    (hT : T = [] ∨ ∃ T', T = 124 :: T') (hg : (M F 1 0 ⟨40 :: (X ++ 41 :: T), c', false⟩).bad = false) : ∃ n', Rel (c'.length : Int) n n' ∧ M F 1 0 ⟨40 :: (X ++ 41 :: T), c', false⟩ = ⟨T, c' ++ n', false⟩ := by
  obtain ⟨F, rfl⟩ : ∃ F', F = F' + 3 := ⟨F - 3, by omega⟩
  have e0 : M (F + 3) 1 0 ⟨40 :: (X ++ 41 :: T), c', false⟩ = M (F + 2) 1 0 (regex_coder_atom.qual c'.length (M (F + 2) 0 0 ⟨40 :: (X ++ 41 :: T), c', false⟩)) := by
    rw [Sim.piece_is, if_pos ⟨rfl, by kernel_rfl⟩]
  have e1 : M (F + 2) 0 0 ⟨40 :: (X ++ 41 :: T), c', false⟩ = regex_coder_atom.close (M (F + 1) 2 1 ⟨X ++ 41 :: T, c', false⟩) := by
    have h := Sim.atom_is (fun d' s' => M (F + 1) 2 d' s') 0 40 (X ++ 41 :: T) c'
    rw [if_neg (by rw [show Sim.am ⟨#[42, 43, 63, 124, 41, 93]⟩ ⟨40 :: (X ++ 41 :: T), c', false⟩ = false by kernel_rfl]; decide), if_neg (by decide), if_neg (by decide), if_pos rfl, if_neg (by simp)] at h
    exact h
  rw [e0, e1] at hg
  rw [e0, e1]
  have g1 := Sim.good_qual (Sim.good_of (by decide) hg)
  obtain ⟨q1, c1, h1⟩ := Sim.close_good g1
  obtain ⟨q, m, m', k1, k2, k3⟩ := Sim.sim (4 * X.length + 3) (F + 1) 2 0 1 X [] c' T (Nat.le_refl _) (fun h => absurd h (by decide)) (by simp only [need]; omega) (by simp only [need, List.length_append, List.length_cons]; omega) (by simp only [List.length_nil]; omega) (by simp only [List.length_append, List.length_cons]; omega) (by rw [hX]) (by rw [h1])
  rw [hX] at k1
  have eq : q = [] := by
    have := congrArg (fun s : CS => s.p) k1
    exact this.symm
  have en : m = n := by
    have := congrArg (fun s : CS => s.code) k1
    simpa using this.symm
  subst eq
  subst en
  have e2 : regex_coder_atom.close (M (F + 1) 2 1 ⟨X ++ 41 :: T, c', false⟩) = ⟨T, c' ++ m', false⟩ := by
    rw [k2]
    exact Sim.close_is T _
  rw [e2]
  refine ⟨m', by simpa using k3, ?_⟩
  rcases hT with rfl | ⟨T', rfl⟩
  · have e3 : regex_coder_atom.qual c'.length ⟨[], c' ++ m', false⟩ = ⟨[], c' ++ m', false⟩ := by
      unfold regex_coder_atom.qual
      rw [if_neg (fun h9 => by have h8 := h9.2; rw [show regex_coder_among.am ⟨#[42, 43, 63]⟩ ⟨[], c' ++ m', false⟩ = false from rfl] at h8; cases h8)]
    rw [e3, Sim.piece_is, if_neg (by rw [Sim.mo_nil]; simp)]
  · have e3 : regex_coder_atom.qual c'.length ⟨124 :: T', c' ++ m', false⟩ = ⟨124 :: T', c' ++ m', false⟩ := by
      unfold regex_coder_atom.qual
      rw [if_neg (fun h9 => by have h8 := h9.2; rw [show regex_coder_among.am ⟨#[42, 43, 63]⟩ ⟨124 :: T', c' ++ m', false⟩ = false by kernel_rfl] at h8; cases h8)]
    rw [e3, Sim.piece_is, if_neg (fun h9 => by have h8 := h9.2; rw [show Sim.am ⟨#[124, 41]⟩ ⟨124 :: T', c' ++ m', false⟩ = true by kernel_rfl] at h8; cases h8)]
theorem whole (F : Nat) (X Y : List Int) (n1 n2 : List I) (hX : M (4 * X.length + 3) 2 0 ⟨X, [], false⟩ = ⟨[], n1, false⟩) (hY : M (4 * Y.length + 3) 2 0 ⟨Y, [], false⟩ = ⟨[], n2, false⟩) (hx : X.length ≤ 60) (hy : Y.length ≤ 60)
    (hF : 4 * (X.length + Y.length + 5) + 3 ≤ F) (hg : (M F 2 0 ⟨40 :: (X ++ 41 :: (124 :: 40 :: (Y ++ 41 :: []))), [], false⟩).bad = false) :
    ∃ n1' n2', Rel 0 n1 n1' ∧ Rel ((n1.length : Int) + 2) n2 n2' ∧ (M F 2 0 ⟨40 :: (X ++ 41 :: (124 :: 40 :: (Y ++ 41 :: []))), [], false⟩).code = barred 0 n1' ((n1.length + n2.length + 2 : Nat) : Int) ++ n2' := by
  obtain ⟨F, rfl⟩ : ∃ F', F = F' + 2 := ⟨F - 2, by omega⟩
  rw [Sim.alts_is] at hg
  rw [Sim.alts_is]
  have hn1 : n1.length ≤ 120 := by
    have h := (regex_coder_atom.M_dec (4 * X.length + 3) 2 0 ⟨X, [], false⟩ (fun h => absurd h (by decide))).1.both
    rw [hX] at h
    simp only [List.length_nil] at h
    omega
  have g1 : (M (F + 1) 1 0 ⟨40 :: (X ++ 41 :: (124 :: 40 :: (Y ++ 41 :: []))), [], false⟩).bad = false := by
    by_cases hc : Sim.mo (M (F + 1) 1 0 ⟨40 :: (X ++ 41 :: (124 :: 40 :: (Y ++ 41 :: []))), [], false⟩) = true ∧ Sim.nx (M (F + 1) 1 0 ⟨40 :: (X ++ 41 :: (124 :: 40 :: (Y ++ 41 :: []))), [], false⟩) = 124
    · exact (regex_coder_atom.mo_ne hc.1).2
    · rw [if_neg hc] at hg
      exact hg
  obtain ⟨n1', r1, h1⟩ := group (F + 1) X (124 :: 40 :: (Y ++ 41 :: [])) [] n1 hX (by simp only [List.length_cons, List.length_append, List.length_nil]; omega) (by simp only [List.length_cons, List.length_append, List.length_nil]; omega) (by omega) (Or.inr ⟨_, rfl⟩) g1
  have hl1 := r1.1
  have hb : regex_coder_atom.bar ([] : List I).length ⟨124 :: 40 :: (Y ++ 41 :: []), [] ++ n1', false⟩ = ⟨40 :: (Y ++ 41 :: []), [] ++ barred (([] : List I).length : Int) n1' 0, false⟩ := Sim.bar_is 124 _ [] n1'
  rw [h1, if_pos ⟨rfl, rfl⟩, show (⟨40 :: (X ++ 41 :: (124 :: 40 :: (Y ++ 41 :: []))), [], false⟩ : CS).code.length = ([] : List I).length from rfl, hb, (regex_coder_atom.aim_len _ _).2.2] at hg
  rw [h1, if_pos ⟨rfl, rfl⟩, show (⟨40 :: (X ++ 41 :: (124 :: 40 :: (Y ++ 41 :: []))), [], false⟩ : CS).code.length = ([] : List I).length from rfl, hb]
  simp only [List.nil_append] at hg ⊢
  rw [Sim.alts_is] at hg
  rw [Sim.alts_is]
  have g2 : (M F 1 0 ⟨40 :: (Y ++ 41 :: []), barred (([] : List I).length : Int) n1' 0, false⟩).bad = false := by
    by_cases hc : Sim.mo (M F 1 0 ⟨40 :: (Y ++ 41 :: []), barred (([] : List I).length : Int) n1' 0, false⟩) = true ∧ Sim.nx (M F 1 0 ⟨40 :: (Y ++ 41 :: []), barred (([] : List I).length : Int) n1' 0, false⟩) = 124
    · exact (regex_coder_atom.mo_ne hc.1).2
    · rw [if_neg hc] at hg
      exact hg
  obtain ⟨n2', r2, h2⟩ := group F Y [] (barred (([] : List I).length : Int) n1' 0) n2 hY (by simp only [List.length_nil]; omega) (by simp only [List.length_nil, Sim.barred_len]; omega) (by omega) (Or.inl rfl) g2
  have hl2 := r2.1
  rw [h2, if_neg (by rw [Sim.mo_nil]; simp)]
  have ha := Sim.aim_is [] [] n1' n2' (([] : List I).length : Int)
  simp only [List.nil_append, List.length_nil, Nat.zero_add] at ha
  simp only [List.length_nil, List.drop_zero, Nat.zero_add]
  rw [ha]
  refine ⟨n1', n2', by simpa using r1, ?_, ?_⟩
  · rw [Sim.barred_len, hl1] at r2
    simpa using r2
  · rw [hl1, hl2, show n1.length + 2 + n2.length = n1.length + n2.length + 2 by omega]
    rfl
theorem parse_some {s : ByteArray} {code : List I} (h : regex_parse.parseM s = some code) : s.size ≤ 60 ∧ strings_ToValidUTF8.badW s = false ∧ (regex_parse.runM (Base.runesOf s)).bad = false ∧ (regex_parse.runM (Base.runesOf s)).p = [] ∧ code = (regex_parse.runM (Base.runesOf s)).code ++ [⟨4, [], false, 0, 0⟩] := by
  unfold regex_parse.parseM at h
  split at h
  · cases h
  · rename_i h60
    split at h
    · cases h
    · rename_i hr
      injection h with h
      refine ⟨?_, ?_, ?_, ?_, h.symm⟩
      · rcases Nat.lt_or_ge 60 s.size with h9 | h9
        · exact absurd (Or.inl h9) h60
        · exact h9
      · cases hb : strings_ToValidUTF8.badW s with
        | false => rfl
        | true => exact absurd (Or.inr (by unfold regex_parse.tv; rw [if_pos hb])) h60
      · cases hb : (regex_parse.runM (Base.runesOf s)).bad with
        | false => rfl
        | true => exact absurd (Or.inl hb) hr
      · rcases Nat.eq_zero_or_pos (regex_parse.runM (Base.runesOf s)).p.length with h9 | h9
        · exact List.eq_nil_of_length_eq_zero h9
        · exact absurd (Or.inr h9) hr
theorem run_is {s : ByteArray} (hb : (regex_parse.runM (Base.runesOf s)).bad = false) (hp : (regex_parse.runM (Base.runesOf s)).p = []) : M (4 * (Base.runesOf s).length + 3) 2 0 ⟨Base.runesOf s, [], false⟩ = ⟨[], (regex_parse.runM (Base.runesOf s)).code, false⟩ := by
  have e : M (4 * (Base.runesOf s).length + 3) 2 0 ⟨Base.runesOf s, [], false⟩ = regex_parse.runM (Base.runesOf s) := rfl
  rw [e]
  generalize regex_parse.runM (Base.runesOf s) = z at hb hp
  obtain ⟨zp, zc, zb⟩ := z
  simp only at hb hp
  rw [hb, hp]
/-- The pattern of both. -/
def both (p q : ByteArray) : ByteArray := ((((⟨#[40]⟩ : ByteArray) ++ p) ++ (⟨#[41, 124, 40]⟩ : ByteArray)) ++ q) ++ (⟨#[41]⟩ : ByteArray)
theorem both_runes (p q : ByteArray) (hp : strings_ToValidUTF8.badW p = false) (hq : strings_ToValidUTF8.badW q = false) : Base.runesOf (both p q) = 40 :: (Base.runesOf p ++ 41 :: (124 :: 40 :: (Base.runesOf q ++ 41 :: []))) := by
  have e : both p q = (⟨#[40]⟩ : ByteArray) ++ (p ++ ((⟨#[41, 124, 40]⟩ : ByteArray) ++ (q ++ (⟨#[41]⟩ : ByteArray)))) := by
    unfold both
    simp only [ByteArray.append_assoc]
  rw [e, Run.runes_app _ _ (by kernel_rfl), Run.runes_app _ _ hp, Run.runes_app _ _ (by kernel_rfl), Run.runes_app _ _ hq]
  rfl
theorem emb (n : List I) (big : List I) (b : Nat) (hb : b ≤ 1000) (hwf : regex_follow.WF (n ++ [(⟨4, [], false, 0, 0⟩ : I)])) (hn : n.length ≤ 1000)
    (h : ∀ (i : Nat) (x : I), n[i]? = some x → ∃ y, big[b + i]? = some y ∧ y.f0 = x.f0 ∧ y.f1 = x.f1 ∧ y.f2 = x.f2 ∧ (x.f0 = 2 → y.f3 = wrap64 (x.f3 + b) ∧ y.f4 = wrap64 (x.f4 + b)) ∧ (x.f0 = 3 → y.f3 = wrap64 (x.f3 + b))) :
    Nfa.Emb (n ++ [(⟨4, [], false, 0, 0⟩ : I)]) big n.length b := by
  have hl : (n ++ [(⟨4, [], false, 0, 0⟩ : I)]).length = n.length + 1 := by simp
  refine ⟨hl, fun x hx => ?_, fun i x hi hx => ?_, fun i x hx h2 => ?_, fun i x hx h3 => ?_⟩
  · rw [List.getElem?_append_right (Nat.le_refl _)] at hx
    have h9 : (⟨4, [], false, 0, 0⟩ : I) = x := by simpa using hx
    rw [← h9]
  · have hx0 := hx
    rw [List.getElem?_append_left hi] at hx
    obtain ⟨y, hy, f0, f1, f2, f3, f4⟩ := h i x hx
    refine ⟨y, hy, f0, f1, f2, fun h2 => ?_, fun h3 => ?_⟩
    · obtain ⟨e3, e4⟩ := f3 h2
      obtain ⟨w1, w2, w3, w4⟩ := hwf.split i x hx0 h2
      rw [hl] at w2 w4
      rw [Sim.wrap_small _ (by omega) (by omega)] at e3 e4
      exact ⟨e3, e4⟩
    · have e3 := f4 h3
      obtain ⟨w1, w2⟩ := hwf.jump i x hx0 h3
      rw [hl] at w2
      rw [Sim.wrap_small _ (by omega) (by omega)] at e3
      exact e3
  · obtain ⟨w1, w2, w3, w4⟩ := hwf.split i x hx h2
    rw [hl] at w2 w4
    omega
  · obtain ⟨w1, w2⟩ := hwf.jump i x hx h3
    rw [hl] at w2
    omega
theorem either_acc (p q : ByteArray) (cp cq cr : List I) (hp : regex_parse.parseM p = some cp) (hq : regex_parse.parseM q = some cq) (hr : regex_parse.parseM (both p q) = some cr) (rs : List Int) : regex_Match.Acc cr rs ↔ (regex_Match.Acc cp rs ∨ regex_Match.Acc cq rs) := by
  have wp := (regex_Check.parse_wf hp).1
  have wq := (regex_Check.parse_wf hq).1
  obtain ⟨p1, p2, p3, p4, rfl⟩ := parse_some hp
  obtain ⟨q1, q2, q3, q4, rfl⟩ := parse_some hq
  obtain ⟨_, _, r3, _, rfl⟩ := parse_some hr
  have hX := run_is p3 p4
  have hY := run_is q3 q4
  have lx := Nat.le_trans (regex_parse.runes_len p) p1
  have ly := Nat.le_trans (regex_parse.runes_len q) q1
  obtain ⟨n1, hn1⟩ : ∃ n1, (regex_parse.runM (Base.runesOf p)).code = n1 := ⟨_, rfl⟩
  obtain ⟨n2, hn2⟩ : ∃ n2, (regex_parse.runM (Base.runesOf q)).code = n2 := ⟨_, rfl⟩
  have hrun : regex_parse.runM (Base.runesOf (both p q)) = M (4 * (40 :: (Base.runesOf p ++ 41 :: (124 :: 40 :: (Base.runesOf q ++ 41 :: [])))).length + 3) 2 0 ⟨40 :: (Base.runesOf p ++ 41 :: (124 :: 40 :: (Base.runesOf q ++ 41 :: []))), [], false⟩ := by
    rw [both_runes p q p2 q2]
    rfl
  rw [hrun] at r3
  rw [hrun]
  rw [hn1] at hX wp ⊢
  rw [hn2] at hY wq ⊢
  have l1 : n1.length ≤ 120 := by
    have h := (regex_coder_atom.M_dec (4 * (Base.runesOf p).length + 3) 2 0 ⟨Base.runesOf p, [], false⟩ (fun h => absurd h (by decide))).1.both
    rw [hX] at h
    simp only [List.length_nil] at h
    omega
  have l2 : n2.length ≤ 120 := by
    have h := (regex_coder_atom.M_dec (4 * (Base.runesOf q).length + 3) 2 0 ⟨Base.runesOf q, [], false⟩ (fun h => absurd h (by decide))).1.both
    rw [hY] at h
    simp only [List.length_nil] at h
    omega
  obtain ⟨n1', n2', g1, g2, g3⟩ := whole (4 * (40 :: (Base.runesOf p ++ 41 :: (124 :: 40 :: (Base.runesOf q ++ 41 :: [])))).length + 3) (Base.runesOf p) (Base.runesOf q) n1 n2 hX hY lx ly (by simp only [List.length_cons, List.length_append, List.length_nil]; omega) r3
  rw [g3]
  have m1 := g1.1
  have m2 := g2.1
  obtain ⟨E, hE⟩ : ∃ E : Nat, E = n1.length + n2.length + 2 := ⟨_, rfl⟩
  rw [← hE]
  have hbl : (barred 0 n1' (E : Int)).length = n1.length + 2 := by rw [Sim.barred_len, m1]
  refine Nfa.Two.acc (N1 := n1.length) (N2 := n2.length) ⟨emb n1 _ 1 (by omega) wp (by omega) (fun i x hx => ?_), emb n2 _ (n1.length + 2) (by omega) wq (by omega) (fun i x hx => ?_), ?_, ?_, ?_, ?_⟩ rs
  · obtain ⟨y, hy, hR⟩ := g1.2 i x hx
    have hi := (List.getElem?_eq_some_iff.1 hx).1
    refine ⟨regex_shifted.sh 1 y, ?_, hR.f0, hR.f1, hR.f2, fun h2 => ?_, fun h3 => ?_⟩
    · rw [List.append_assoc, List.getElem?_append_left (by omega)]
      unfold barred
      rw [List.append_assoc, show 1 + i = ([(⟨2, [], false, (0 : Int) + 1, (0 : Int) + (n1'.length : Int) + 2⟩ : I)]).length + i from rfl, Sim.get_app, List.getElem?_append_left (by rw [List.length_map]; omega), List.getElem?_map, hy]
      rfl
    · obtain ⟨e3, e4⟩ := hR.two h2
      refine ⟨?_, ?_⟩
      · show wrap64 (y.f3 + 1) = _
        rw [e3]
        unfold wrap64
        omega
      · show wrap64 (y.f4 + 1) = _
        rw [e4]
        unfold wrap64
        omega
    · have e3 := hR.three h3
      show wrap64 (y.f3 + 1) = _
      rw [e3]
      unfold wrap64
      omega
  · obtain ⟨y, hy, hR⟩ := g2.2 i x hx
    have hi := (List.getElem?_eq_some_iff.1 hx).1
    refine ⟨y, ?_, hR.f0, hR.f1, hR.f2, fun h2 => ?_, fun h3 => ?_⟩
    · rw [← hbl, List.append_assoc, Sim.get_app, List.getElem?_append_left (by omega), hy]
    · obtain ⟨e3, e4⟩ := hR.two h2
      rw [e3, e4]
      exact ⟨by congr 1, by congr 1⟩
    · rw [hR.three h3]
      congr 1
  · rw [List.length_append, List.length_append, hbl, m2]
    simp only [List.length_cons, List.length_nil]
    omega
  · refine ⟨_, rfl, rfl, rfl, ?_⟩
    show (0 : Int) + (n1'.length : Int) + 2 = ((n1.length + 2 : Nat) : Int)
    omega
  · refine ⟨⟨3, [], false, (E : Int), 0⟩, ?_, rfl, by show (E : Int) = _; rw [hE]⟩
    rw [List.append_assoc, List.getElem?_append_left (by omega)]
    unfold barred
    rw [show n1.length + 1 = ([(⟨2, [], false, (0 : Int) + 1, (0 : Int) + (n1'.length : Int) + 2⟩ : I)] ++ n1'.map (regex_shifted.sh 1)).length + 0 by simp [m1], Sim.get_app]
    rfl
  · refine ⟨⟨4, [], false, 0, 0⟩, ?_, rfl⟩
    rw [show n1.length + n2.length + 2 = (barred 0 n1' (E : Int) ++ n2').length + 0 by rw [List.length_append, hbl, m2]; omega, Sim.get_app]
    rfl
theorem dec_true {P : Prop} (h : P) : regex_Match.dec P = true := (regex_Match.dec_iff P).2 h
theorem ans_some {p s : ByteArray} {code : List I} (h : regex_parse.parseM p = some code) : regex_Match.ans p s = (regex_Match.dec (regex_Match.Acc code (Base.runesOf s)), 0) := by
  unfold regex_Match.ans
  rw [h]
theorem ans_none {p s : ByteArray} (h : regex_parse.parseM p = none) : regex_Match.ans p s = (false, 5) := by
  unfold regex_Match.ans
  rw [h]
theorem check_is (p s : ByteArray) : regex_Check.f p = some (regex_Match.ans p s).2 := by
  unfold regex_Check.f
  cases h : regex_parse.parseM p with
  | none => rw [ans_none h]; rfl
  | some code => rw [ans_some h]; rfl
theorem j0_bad (k : Nat) (p q s : ByteArray) : dryrotlaw08_RegexEither.j0 (k + 1) p q s (regex_Match.ans p s).1 (regex_Match.ans p s).2 (regex_Match.ans q s).1 (regex_Match.ans q s).2 true = some true := by
  simp only [dryrotlaw08_RegexEither.j0, if_true, check_is p s, check_is q s, Option.bind_some, Awk.awake8]
theorem j0_good (k : Nat) (p q s : ByteArray) (cp cq : List I) (hp : regex_parse.parseM p = some cp) (hq : regex_parse.parseM q = some cq) (h1 : p.size ≤ 25) (h2 : q.size ≤ 25) : dryrotlaw08_RegexEither.j0 (k + 1) p q s (regex_Match.ans p s).1 (regex_Match.ans p s).2 (regex_Match.ans q s).1 (regex_Match.ans q s).2 false = some true := by
  have s1 : ((⟨#[40]⟩ : ByteArray) ++ p).size = 1 + p.size := by rw [ByteArray.size_append]; rfl
  have s2 : (((⟨#[40]⟩ : ByteArray) ++ p) ++ (⟨#[41, 124, 40]⟩ : ByteArray)).size = 1 + p.size + 3 := by rw [ByteArray.size_append, s1]; rfl
  have s3 : ((((⟨#[40]⟩ : ByteArray) ++ p) ++ (⟨#[41, 124, 40]⟩ : ByteArray)) ++ q).size = 1 + p.size + 3 + q.size := by rw [ByteArray.size_append, s2]
  simp only [dryrotlaw08_RegexEither.j0, Bool.false_eq_true, if_false]
  rw [if_pos (by omega), if_pos (by omega), if_pos (by omega), if_pos (by omega)]
  show ((regex_Match.f (both p q) s).bind fun bt116 => (if bt116.2 = 0 then (if (regex_Match.ans p s).1 = true then (if (bt116.1 == true) = true then ((dryrotlaw08_awake.f).bind fun t118 => (some t118)) else (some false)) else (if (bt116.1 == (regex_Match.ans q s).1) = true then ((dryrotlaw08_awake.f).bind fun t119 => (some t119)) else (some false))) else ((dryrotlaw08_awake.f).bind fun t120 => (some t120)))) = some true
  simp only [regex_Match.f, Option.bind_some, Awk.awake8]
  cases hr : regex_parse.parseM (both p q) with
  | none =>
    rw [ans_none hr]
    simp
  | some cr =>
    have hacc := either_acc p q cp cq cr hp hq hr (Base.runesOf s)
    rw [ans_some hr, ans_some hp, ans_some hq]
    have a := regex_Match.dec_iff (regex_Match.Acc cr (Base.runesOf s))
    have b := regex_Match.dec_iff (regex_Match.Acc cp (Base.runesOf s))
    have c := regex_Match.dec_iff (regex_Match.Acc cq (Base.runesOf s))
    rw [if_pos rfl]
    cases hb : regex_Match.dec (regex_Match.Acc cp (Base.runesOf s)) with
    | true =>
      have : regex_Match.dec (regex_Match.Acc cr (Base.runesOf s)) = true := dec_true (hacc.2 (Or.inl (b.1 hb)))
      rw [this]
      simp
    | false =>
      have hno : ¬ regex_Match.Acc cp (Base.runesOf s) := fun h => by rw [b.2 h] at hb; cases hb
      have : regex_Match.dec (regex_Match.Acc cr (Base.runesOf s)) = regex_Match.dec (regex_Match.Acc cq (Base.runesOf s)) := Bool.eq_iff_iff.2 (a.trans ((hacc.trans ⟨fun h => h.resolve_left hno, Or.inr⟩).trans c.symm))
      rw [this]
      simp
theorem either_row (a0 a1 a2 : ByteArray) (_ : a0.size ≤ 140737488351232) (_ : a1.size ≤ 140737488351232) (_ : a2.size ≤ 140737488351232) : Ev (fun k => dryrotlaw08_RegexEither.f k a0 a1 a2) true := by
  have hm : ∀ x : Nat, 0 ≤ mn (x : Int) 25 ∧ mn (x : Int) 25 ≤ (x : Int) ∧ mn (x : Int) 25 ≤ 25 := fun x => by
    unfold mn
    split <;> omega
  have hsz : ∀ x : ByteArray, (x.extract 0 (mn (x.size : Int) 25).toNat).size ≤ 25 := fun x => by
    have := hm x.size
    rw [ByteArray.size_extract]
    omega
  obtain ⟨t, ht⟩ : ∃ t, dryrotlaw08_short.f a2 = some t := ⟨_, by
    unfold dryrotlaw08_short.f
    rw [if_pos (by unfold mn; split <;> omega), if_pos (by unfold mn; split <;> omega)]⟩
  have h1 := hsz a0
  have h2 := hsz a1
  refine Ev.step (f := fun _ => some true) (fun k => ?_) (Ev.now true)
  simp only [dryrotlaw08_RegexEither.f]
  rw [if_pos (hm a0.size).1, if_pos (hm a0.size).2.1, if_pos (hm a1.size).1, if_pos (hm a1.size).2.1, ht]
  generalize a0.extract 0 (mn (a0.size : Int) 25).toNat = p at h1
  generalize a1.extract 0 (mn (a1.size : Int) 25).toNat = q at h2
  simp only [regex_Match.f, Option.bind_some]
  cases hp : regex_parse.parseM p with
  | none =>
    rw [if_neg (by rw [ans_none hp]; decide)]
    exact j0_bad k p q t
  | some cp =>
    rw [if_pos (by rw [ans_some hp])]
    cases hq : regex_parse.parseM q with
    | none =>
      have e : ((regex_Match.ans q t).2 != 0) = true := by rw [ans_none hq]; rfl
      rw [e]
      exact j0_bad k p q t
    | some cq =>
      have e : ((regex_Match.ans q t).2 != 0) = false := by rw [ans_some hq]; rfl
      rw [e]
      exact j0_good k p q t cp cq hp hq h1 h2
end Eit
end Go.Proofs.YtgnehcgaplnfkaaDoor.PAll
