-- Written by a program of this seat (wip/tools), out of the translation. Not trusted: Lean checks it.
import Derived.Test.YtgnehcgaplnfkaaDoorPAllx0
import Derived.Test.YtgnehcgaplnfkaaDoorPAllx3
import Derived.Test.YtgnehcgaplnfkaaDoorPAllx4
import Derived.Test.YtgnehcgaplnfkaaDoorPAllx5
import Derived.Test.YtgnehcgaplnfkaaDoorPAllx6
import Derived.Test.YtgnehcgaplnfkaaDoorPAllx14
import Derived.Test.YtgnehcgaplnfkaaDoorPAllx15
import Derived.Test.YtgnehcgaplnfkaaDoorPAllx18
import Derived.Test.YtgnehcgaplnfkaaDoorPAllx19
namespace Go.Proofs.YtgnehcgaplnfkaaDoor.PAll
open Go.RowKit Go.Proofs.YtgnehcgaplnfkaaDoorW.PrintWords Go.Proofs.YtgnehcgaplnfkaaDoorW.PrintLast Go.Proofs.YtgnehcgaplnfkaaDoorW.PrintMore
attribute [local go_sem] max2_int min2_int max_two min_two max_three min_three max_four min_four   -- for this text's walks alone
set_option linter.unusedVariables false
set_option linter.unusedSimpArgs false

/-! ### regex_Check: function 13 -/
-- uses regex_parse regex_follow
/-- An instruction's places are n at most. -/
def regex_Check.TG (n : Nat) (x : S62) : Prop := (x.f0 = 2 → 0 ≤ x.f3 ∧ x.f3 ≤ n ∧ 0 ≤ x.f4 ∧ x.f4 ≤ n) ∧ (x.f0 = 3 → 0 ≤ x.f3 ∧ x.f3 ≤ n)
theorem regex_Check.TG.mono {n m : Nat} {x : S62} (h : regex_Check.TG n x) (hm : n ≤ m) : regex_Check.TG m x :=
  ⟨fun h9 => by have := h.1 h9; omega, fun h9 => by have := h.2 h9; omega⟩
theorem regex_Check.TG.sh {n : Nat} {x : S62} (h : regex_Check.TG n x) (hn : n ≤ 100000) : regex_Check.TG (n + 1) (regex_shifted.sh 1 x) := by
  refine ⟨fun h9 => ?_, fun h9 => ?_⟩
  · have := h.1 h9
    simp only [regex_shifted.sh, wrap64]
    omega
  · have := h.2 h9
    simp only [regex_shifted.sh, wrap64]
    omega
theorem regex_Check.TG.rune (n : Nat) (l : List S95) (b : Bool) : regex_Check.TG n ⟨1, l, b, 0, 0⟩ := ⟨fun h => absurd h (show ¬ (1 : Int) = 2 by decide), fun h => absurd h (show ¬ (1 : Int) = 3 by decide)⟩
def regex_Check.Inv (s : regex_coder_atom.CS) : Prop := ∀ x, x ∈ s.code → regex_Check.TG s.code.length x
theorem regex_Check.Inv.of_code {s s' : regex_coder_atom.CS} (h : regex_Check.Inv s) (hc : s'.code = s.code) : regex_Check.Inv s' := by
  unfold regex_Check.Inv at *
  rw [hc]
  exact h
theorem regex_Check.Inv.put1 {s : regex_coder_atom.CS} (h : regex_Check.Inv s) (l : List S95) (b : Bool) : regex_Check.Inv (regex_coder_atom.put s [⟨1, l, b, 0, 0⟩]) := by
  intro x hx
  simp only [regex_coder_atom.put, List.mem_append, List.length_append, List.length_cons, List.length_nil] at hx ⊢
  rcases hx with h9 | h9
  · exact (h x h9).mono (by omega)
  · have : x = ⟨1, l, b, 0, 0⟩ := by simpa using h9
    rw [this]
    exact regex_Check.TG.rune _ _ _
theorem regex_Check.Inv.cls {s : regex_coder_atom.CS} (h : regex_Check.Inv s) : regex_Check.Inv (regex_coder_class.cls s) := by
  obtain ⟨s2, l, b, e, hc⟩ : ∃ (s2 : regex_coder_atom.CS) (l : List S95) (b : Bool), regex_coder_class.cls s = regex_coder_atom.put s2 [⟨1, l, b, 0, 0⟩] ∧ s2.code = s.code := by
    refine ⟨_, _, _, rfl, ?_⟩
    rw [regex_coder_class.step_code, (regex_coder_class.loopM_code _ _ _ _).1]
    split
    · exact regex_coder_class.step_code s
    · rfl
  rw [e]
  exact (h.of_code hc).put1 l b
theorem regex_Check.Inv.qual {n : Nat} {s : regex_coder_atom.CS} (h : regex_Check.Inv s) (hn : n ≤ s.code.length) (hz : s.code.length ≤ 1000) : regex_Check.Inv (regex_coder_atom.qual n s) := by
  unfold regex_coder_atom.qual
  have hd : (s.code.drop n).length = s.code.length - n := List.length_drop
  have hs : (regex_coder_take.step { s with code := s.code.take n }).2.code = s.code.take n := regex_coder_class.step_code _
  have ht : (s.code.take n).length = n := by rw [List.length_take]; omega
  have h1 : ∀ x, x ∈ s.code.take n → regex_Check.TG s.code.length x := fun x hx => h x (List.mem_of_mem_take hx)
  have h2 : ∀ x, x ∈ (s.code.drop n).map (regex_shifted.sh 1) → regex_Check.TG (s.code.length + 1) x := fun x hx => by
    obtain ⟨y, hy, rfl⟩ := List.mem_map.1 hx
    exact (h y (List.mem_of_mem_drop hy)).sh (by omega)
  have h3 : ∀ x, x ∈ s.code.drop n → regex_Check.TG s.code.length x := fun x hx => h x (List.mem_of_mem_drop hx)
  split
  · split
    · intro x hx
      simp only [regex_coder_atom.put, hs, List.mem_append, List.mem_singleton, List.length_append, List.length_map, List.length_cons, List.length_nil, ht, hd] at hx ⊢
      rcases hx with ((hx | rfl) | hx) | rfl
      · exact (h1 x hx).mono (by omega)
      · exact ⟨fun _ => by simp only; omega, fun h9 => absurd h9 (show ¬ (2 : Int) = 3 by decide)⟩
      · exact (h2 x hx).mono (by omega)
      · exact ⟨fun h9 => absurd h9 (show ¬ (3 : Int) = 2 by decide), fun _ => by simp only; omega⟩
    · split
      · intro x hx
        simp only [regex_coder_atom.put, hs, List.mem_append, List.mem_singleton, List.length_append, List.length_map, List.length_cons, List.length_nil, ht, hd] at hx ⊢
        rcases hx with (hx | hx) | rfl
        · exact (h1 x hx).mono (by omega)
        · exact (h3 x hx).mono (by omega)
        · exact ⟨fun _ => by simp only; omega, fun h9 => absurd h9 (show ¬ (2 : Int) = 3 by decide)⟩
      · intro x hx
        simp only [regex_coder_atom.put, hs, List.mem_append, List.mem_singleton, List.length_append, List.length_map, List.length_cons, List.length_nil, ht, hd] at hx ⊢
        rcases hx with (hx | rfl) | hx
        · exact (h1 x hx).mono (by omega)
        · exact ⟨fun _ => by simp only; omega, fun h9 => absurd h9 (show ¬ (2 : Int) = 3 by decide)⟩
        · exact (h2 x hx).mono (by omega)
  · exact h
theorem regex_Check.Inv.bar {n : Nat} {s : regex_coder_atom.CS} (h : regex_Check.Inv s) (hn : n ≤ s.code.length) (hz : s.code.length ≤ 1000) : regex_Check.Inv (regex_coder_atom.bar n s) := by
  have hd : (s.code.drop n).length = s.code.length - n := List.length_drop
  have ht : (s.code.take n).length = n := by rw [List.length_take]; omega
  intro x hx
  simp only [regex_coder_atom.bar, regex_coder_atom.put, List.mem_append, List.mem_singleton, List.length_append, List.length_map, List.length_cons, List.length_nil, ht, hd] at hx ⊢
  rcases hx with ((hx | rfl) | hx) | rfl
  · exact (h x (List.mem_of_mem_take hx)).mono (by omega)
  · exact ⟨fun _ => by simp only; omega, fun h9 => absurd h9 (show ¬ (2 : Int) = 3 by decide)⟩
  · obtain ⟨y, hy, rfl⟩ := List.mem_map.1 hx
    exact ((h y (List.mem_of_mem_drop hy)).sh (by omega)).mono (by omega)
  · exact ⟨fun h9 => absurd h9 (show ¬ (3 : Int) = 2 by decide), fun _ => by simp only; omega⟩
theorem regex_Check.Inv.aim {j : Nat} {s : regex_coder_atom.CS} (h : regex_Check.Inv s) : regex_Check.Inv (regex_coder_atom.aim j s) := by
  unfold regex_coder_atom.aim
  split
  · rename_i x hx
    have hxm := h x (List.mem_of_getElem? hx)
    intro y hy
    simp only [List.length_set] at hy ⊢
    rcases List.mem_or_eq_of_mem_set hy with h9 | rfl
    · exact h y h9
    · exact ⟨fun h9 => by have := hxm.1 h9; simp only; omega, fun h9 => by simp only; omega⟩
  · exact h
theorem regex_Check.M_inv (f : Nat) : ∀ (k d : Nat) (s : regex_coder_atom.CS), (k = 0 → s.p ≠ []) → s.code.length + 2 * s.p.length ≤ 1000 → regex_Check.Inv s → regex_Check.Inv (regex_coder_atom.M f k d s) := by
  induction f with
  | zero => exact fun _ _ _ _ _ h => h
  | succ f ih =>
    intro k d s hk hz h
    match k with
    | 0 =>
      obtain ⟨a1, a2, a3⟩ := regex_coder_atom.step_ne (hk rfl)
      have h1 : regex_Check.Inv (regex_coder_take.step s).2 := h.of_code a3
      simp only [regex_coder_atom.M]
      unfold regex_coder_atom.atomM
      split
      · exact h.of_code rfl
      split
      · exact h1.put1 _ _
      split
      · exact h1.cls
      split
      · split
        · exact h1.of_code rfl
        · dsimp only
          refine (ih 2 (d + 1) (regex_coder_take.step s).2 (fun h => absurd h (by decide)) ?_ h1).of_code (regex_coder_atom.close_dec _).2
          rw [a3]
          omega
      split
      · exact (h1.of_code (regex_coder_class.step_code _)).put1 _ _
      · exact h1.put1 _ _
    | 1 =>
      simp only [regex_coder_atom.M]
      split
      · rename_i hc
        have hp := (regex_coder_atom.mo_ne hc.1).1
        obtain ⟨⟨b1, b2, b3⟩, _⟩ := regex_coder_atom.M_dec f 0 d s (fun _ => hp)
        obtain ⟨e1, e2, e3, _⟩ := regex_coder_atom.qual_dec b2
        exact ih 1 d _ (fun h => absurd h (by decide)) (by omega) ((ih 0 d s (fun _ => hp) hz h).qual b2 (by omega))
      · exact h
    | k + 2 =>
      simp only [regex_coder_atom.M]
      obtain ⟨hb, _⟩ := regex_coder_atom.M_dec f 1 d s (fun h => absurd h (by decide))
      have h1 := ih 1 d s (fun h => absurd h (by decide)) hz h
      have hb1 := hb.both
      have hb2 := hb.code
      split
      · rename_i hc
        have hp := (regex_coder_atom.mo_ne hc.1).1
        obtain ⟨hd, _, _⟩ := regex_coder_atom.bar_dec hb.code hp
        have hd1 := hd.both
        exact (ih 2 d _ (fun h => absurd h (by decide)) (by omega) (h1.bar hb2 (by omega))).aim
      · exact h1
/-- A pattern's program names no place but its own. -/
theorem regex_Check.parse_wf {p : ByteArray} {code : List S62} (h : regex_parse.parseM p = some code) : regex_follow.WF code ∧ 0 < code.length ∧ code.length ≤ 1000 := by
  unfold regex_parse.parseM at h
  split at h
  · cases h
  · rename_i h60
    split at h
    · cases h
    · injection h with h
      have hp60 : p.size ≤ 60 := by
        rcases Nat.lt_or_ge 60 p.size with h9 | h9
        · exact absurd (Or.inl h9) h60
        · exact h9
      have hl := Nat.le_trans (regex_parse.runes_len p) hp60
      obtain ⟨r, hr⟩ : ∃ r, regex_parse.runM (Base.runesOf p) = r := ⟨_, rfl⟩
      have hinv : regex_Check.Inv r := by
        rw [← hr]
        exact regex_Check.M_inv _ 2 0 _ (fun h => absurd h (by decide)) (by simp only [List.length_nil]; omega) (fun x hx => by simp at hx)
      have hlen : r.code.length ≤ 120 := by
        have h9 := (regex_coder_atom.M_dec (4 * (Base.runesOf p).length + 3) 2 0 ⟨Base.runesOf p, [], false⟩ (fun h => absurd h (by decide))).1.both
        unfold regex_parse.runM at hr
        rw [hr] at h9
        simp only [List.length_nil] at h9
        omega
      rw [hr] at h
      subst h
      have hget : ∀ (i : Nat) (x : S62), (r.code ++ [(⟨4, [], false, 0, 0⟩ : S62)])[i]? = some x → x.f0 ≠ 4 → i < r.code.length ∧ regex_Check.TG r.code.length x := fun i x hx h4 => by
        rcases Nat.lt_or_ge i r.code.length with h9 | h9
        · rw [List.getElem?_append_left h9] at hx
          exact ⟨h9, hinv x (List.mem_of_getElem? hx)⟩
        · rw [List.getElem?_append_right h9] at hx
          exfalso
          have := List.mem_of_getElem? hx
          rw [List.mem_singleton] at this
          exact h4 (by rw [this])
      refine ⟨⟨fun i x hx h2 => ?_, fun i x hx h2 => ?_, fun i x hx h2 => ?_⟩, by simp, by simp; omega⟩
      · obtain ⟨_, h9⟩ := hget i x hx (by rw [h2]; decide)
        have := h9.1 h2
        simp only [List.length_append, List.length_cons, List.length_nil]
        omega
      · obtain ⟨_, h9⟩ := hget i x hx (by rw [h2]; decide)
        have := h9.2 h2
        simp only [List.length_append, List.length_cons, List.length_nil]
        omega
      · obtain ⟨h9, _⟩ := hget i x hx (by rw [h2]; decide)
        simp only [List.length_append, List.length_cons, List.length_nil]
        omega
set_option maxHeartbeats 1000000 in
theorem regex_Check.calls (w : World) (p : ByteArray) (hG : strings_ToValidUTF8.Gd w) : Calls Tryd.prog 13 #[.string p] w fun e w' => e = .returned (.int .i64 (if (regex_parse.parseM p).isSome = true then 0 else 5)) ∧ Below w.heap.size w w' := by
  have HG := Aside0.mk hG
  clear hG
  cases hp : regex_parse.parseM p with
  | none =>
    have HP := Aside0.mk hp
    clear hp
    have hnil : ∀ W, (binOp .eql 56 (.slice none 0 0) (.slice none 0 0)).run Tryd.prog W = .ok (.bool true) W := fun W => Lib.run_eql_slice_nil W 56 62 none 0 0 0 0 Tryd.underlying56
    go_enter Tryd.func13, Tryd.ntmps13
    go_wp2_with (go_at_call 30; (with_reducible refine (regex_parse.calls w p HG.out).mono ?_); rintro e W1 ⟨v, rfl, hB1, hv⟩; rw [HP.out] at hv; simp only at hv; subst hv; have HB1 := Aside0.mk hB1; clear hB1)
    go_ret
    exact ⟨rfl, HB1.out⟩
  | some code =>
    have HP := Aside0.mk hp
    obtain ⟨_, hlen, _⟩ := regex_Check.parse_wf hp
    clear hp
    go_enter Tryd.func13, Tryd.ntmps13
    go_wp2_with (go_at_call 30; (with_reducible refine (regex_parse.calls w p HG.out).mono ?_); rintro e W1 ⟨v, rfl, hB1, hv⟩; rw [HP.out] at hv; simp only at hv; obtain ⟨A1, c1, e1⟩ := Kd.R_slice hv; subst e1; obtain ⟨gb, eg⟩ := regex_inst.form hv hlen; subst eg; have hnil : ∀ W, (binOp .eql 56 (.slice (some ⟨gb, 0, none⟩) code.length c1) (.slice none 0 0)).run Tryd.prog W = .ok (.bool false) W := fun W => Lib.run_eql_slice_nil W 56 62 (some ⟨gb, 0, none⟩) code.length c1 0 0 Tryd.underlying56; have HB1 := Aside0.mk hB1; clear hB1 hv)
    go_ret
    exact ⟨rfl, HB1.out⟩
-- in the form of the print
def regex_Check.f (a0 : ByteArray) : Option Int := some (if (regex_parse.parseM a0).isSome = true then 0 else 5)
theorem regex_Check.callsP (a0 : ByteArray) (r : Int) (w : World) (hG : strings_ToValidUTF8.Gd w) (h : regex_Check.f a0 = some r) :
    Calls Tryd.prog 13 #[.string a0] w fun e w' => e = .returned (.int .i64 r) ∧ Below w.heap.size w w' := by
  obtain rfl := Option.some.inj h
  exact regex_Check.calls w a0 hG

end Go.Proofs.YtgnehcgaplnfkaaDoor.PAll
