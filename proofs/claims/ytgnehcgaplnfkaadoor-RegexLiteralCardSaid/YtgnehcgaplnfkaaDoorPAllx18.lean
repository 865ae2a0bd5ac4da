-- Written by a program of this seat (wip/tools), out of the translation. Not trusted: Lean checks it.
import Derived.Test.YtgnehcgaplnfkaaDoorPAllx0
import Derived.Test.YtgnehcgaplnfkaaDoorPAllx3
import Derived.Test.YtgnehcgaplnfkaaDoorPAllx6
import Derived.Test.YtgnehcgaplnfkaaDoorPAllx7
import Derived.Test.YtgnehcgaplnfkaaDoorPAllx15
import Derived.Test.YtgnehcgaplnfkaaDoorPAllx17
namespace Go.Proofs.YtgnehcgaplnfkaaDoor.PAll
open Go.RowKit Go.Proofs.YtgnehcgaplnfkaaDoorW.PrintWords Go.Proofs.YtgnehcgaplnfkaaDoorW.PrintLast Go.Proofs.YtgnehcgaplnfkaaDoorW.PrintMore
attribute [local go_sem] max2_int min2_int max_two min_two max_three min_three max_four min_four   -- for this text's walks alone
set_option linter.unusedVariables false
set_option linter.unusedSimpArgs false

/-! ### regex_parse: function 30 -/
-- uses regex_coder_take regex_coder_put regex_coder_part regex_shifted regex_coder_among regex_coder_member regex_coder_next regex_coder_more regex_coder_class regex_coder_atom regex_coder_pieces regex_coder_alternatives strings_ToValidUTF8
def regex_parse.f (a0 : ByteArray) : Option (List S62) := none
/-- Whether a text has the sign for what is no code point, or what is none. -/
def regex_parse.tv (s : ByteArray) : Bool := if strings_ToValidUTF8.badW s = true then true else Lib.contains s.data.toList [239, 191, 189]
theorem regex_parse.has_contains {l : List UInt8} (h : strings_ToValidUTF8.Has l) : Lib.contains l [239, 191, 189] = true := by
  obtain ⟨a, b, rfl⟩ := h
  have ho : Lib.occAt (a ++ [239, 191, 189] ++ b) [239, 191, 189] a.length = true := by
    unfold Lib.occAt
    rw [List.append_assoc, List.drop_append_of_le_length (Nat.le_refl _), List.drop_length, List.nil_append]
    rfl
  rcases Lib.index_spec (a ++ [239, 191, 189] ++ b) [239, 191, 189] with ⟨_, h2⟩ | ⟨i, h2, _⟩
  · have h3 := h2 a.length (by simp)
    rw [ho] at h3
    cases h3
  · unfold Lib.contains
    rw [h2]
    simp
/-- The coder's run over code points. -/
def regex_parse.runM (l : List Int) : regex_coder_atom.CS := regex_coder_atom.M (4 * l.length + 3) 2 0 ⟨l, [], false⟩
/-- A pattern's program. -/
def regex_parse.parseM (s : ByteArray) : Option (List S62) :=
  if 60 < s.size ∨ regex_parse.tv s = true then none
  else if (regex_parse.runM (Base.runesOf s)).bad = true ∨ 0 < (regex_parse.runM (Base.runesOf s)).p.length then none
  else some ((regex_parse.runM (Base.runesOf s)).code ++ [⟨4, [], false, 0, 0⟩])
theorem regex_parse.runes_eq (s : ByteArray) : ∀ (f pos : Nat) (acc : Array Value), (Conv.runesFrom s f pos acc).toList = acc.toList ++ (Base.runesFrom s f pos).map (Value.int .i32) := by
  intro f
  induction f with
  | zero => intro pos acc; simp [Conv.runesFrom, Base.runesFrom]
  | succ f ih =>
    intro pos acc
    unfold Conv.runesFrom Base.runesFrom
    by_cases h : pos < s.size
    · rw [if_pos h, if_pos h]
      simp only
      rw [ih]
      simp
    · rw [if_neg h, if_neg h]
      simp
theorem regex_parse.runes_size (s : ByteArray) : (Conv.runesFrom s s.size 0 #[]).size = (Base.runesOf s).length := by
  have h := congrArg List.length (regex_parse.runes_eq s s.size 0 #[])
  simpa [Base.runesOf] using h
theorem regex_parse.runes_len (s : ByteArray) : (Base.runesOf s).length ≤ s.size := by
  have h := size_runesFrom s s.size 0 #[]
  rw [regex_parse.runes_size] at h
  simpa using h
/-- What the conversion lays: a row of code points. -/
theorem regex_parse.laid_runes (s : ByteArray) (w : World) (gp m : Nat) (hs : s.size ≤ 60) (hc : w.heap[gp]? = some (.cells (Conv.runesFrom s s.size 0 #[] ++ Array.replicate m (.int .i32 0)) 21 (0, 0))) : regex_coder_take.Runes w gp (some ⟨gp, 0, none⟩) (Base.runesOf s) := by
  refine ⟨⟨_, hc⟩, fun W' hW' => ⟨rfl, by have h1 := regex_parse.runes_len s; omega, fun hp => ⟨⟨gp, 0, none⟩, rfl, fun j p hj => ⟨[.int .i32 p], rfl, rfl, fun i u hu => ?_⟩⟩⟩⟩
  have hi : i = 0 := by
    cases i with
    | zero => rfl
    | succ i => simp at hu
  subst hi
  simp only [List.getElem?_cons_zero, Option.some.injEq] at hu
  subst hu
  have h1 : (⟨gp, 0, none⟩ : Addr).add (j * (Kd.int .i32).sz + 0) = ⟨gp, j, none⟩ := by
    have e : (Kd.int .i32).sz = 1 := rfl
    rw [e]
    unfold Addr.add
    split
    · rename_i h0
      have : j = 0 := by simpa using h0
      subst this
      rfl
    · simp
  rw [h1]
  have h2 := blk_cell (hW'.trans hc) j
  rw [h2]
  have h3 : (Conv.runesFrom s s.size 0 #[])[j]? = some (Value.int .i32 p) := by
    rw [← Array.getElem?_toList, regex_parse.runes_eq s s.size 0 #[]]
    simp only [List.nil_append]
    rw [List.getElem?_map]
    change Option.map _ ((Base.runesOf s)[j]?) = _
    rw [hj]
    rfl
  rw [Array.getElem?_append_left (Array.getElem?_eq_some_iff.1 h3).1]
  exact h3
set_option maxHeartbeats 4000000 in
set_option maxRecDepth 10000 in
theorem regex_parse.calls (w : World) (s : ByteArray) (hG : strings_ToValidUTF8.Gd w) :
    Calls Tryd.prog 30 #[.string s] w fun e w' => ∃ v, e = .returned v ∧ Below w.heap.size w w' ∧ (match regex_parse.parseM s with | none => v = .slice none 0 0 | some l => Kd.R k62 62 w' w.heap.size (fun _ => True) v l) := by
  by_cases h60 : 60 < s.size
  · have hm : regex_parse.parseM s = none := by
      unfold regex_parse.parseM
      rw [if_pos (Or.inl h60)]
    rw [hm]
    have hd : decide ((60 : Int) < (s.size : Int)) = true := by simp; omega
    go_enter Tryd.func30, Tryd.ntmps30
    go_wp2
    go_ret
    exact ⟨_, rfl, Below.refl _ _, rfl⟩
  · have hd : decide ((60 : Int) < (s.size : Int)) = false := by simp; omega
    have HG := Aside0.mk hG
    have hs60 : s.size ≤ 60 := by omega
    clear hG h60
    obtain ⟨m0, hm0⟩ := HG.out.2
    obtain ⟨s4, hs4⟩ : ∃ s4, Aside0 (regex_parse.runM (Base.runesOf s) = s4) := ⟨_, ⟨rfl⟩⟩
    have HP : Aside0 (regex_parse.parseM s = if regex_parse.tv s = true then none else if s4.bad = true ∨ 0 < s4.p.length then none else some (s4.code ++ [⟨4, [], false, 0, 0⟩])) := ⟨by
      unfold regex_parse.parseM
      rw [hs4.out]
      by_cases ht : regex_parse.tv s = true
      · rw [if_pos (Or.inr ht), if_pos ht]
      · rw [if_neg (by rintro (h9 | h9); omega; exact ht h9), if_neg ht]⟩
    have hrl : Aside0 ((Base.runesOf s).length ≤ 60) := ⟨Nat.le_trans (regex_parse.runes_len s) hs60⟩
    obtain ⟨n, hn⟩ : ∃ n, Aside0 ((Base.runesOf s).length = n) := ⟨_, ⟨rfl⟩⟩
    have hz : Aside0 (((0 : Nat) : Int) = 0) := ⟨rfl⟩
    have HCT : Aside0 (∀ r, (strings_ToValidUTF8.badW s = true → strings_ToValidUTF8.Has r.data.toList) → (strings_ToValidUTF8.badW s = false → r = s) → Lib.contains r.data.toList (⟨#[239, 191, 189]⟩ : ByteArray).data.toList = regex_parse.tv s) := ⟨fun r h1 h2 => by
      unfold regex_parse.tv
      cases hb : strings_ToValidUTF8.badW s with
      | true => exact regex_parse.has_contains (h1 hb)
      | false => rw [h2 hb]; rfl⟩
    cases htv : regex_parse.tv s with
    | true =>
      rw [htv] at HCT HP
      have HM : Aside0 (regex_parse.parseM s = none) := ⟨HP.out⟩
      rw [HM.out]
      clear htv
      go_enter Tryd.func30, Tryd.ntmps30
      go_wp2_with (first
        | (go_at_call 52; (with_reducible refine (strings_ToValidUTF8.calls w s HG.out (by omega)).mono ?_); rintro e W1 ⟨r1, rfl, hB1, hz1, ha1, hb1⟩
           have hct : Aside0 (Lib.contains r1.data.toList (⟨#[239, 191, 189]⟩ : ByteArray).data.toList = _) := ⟨HCT.out r1 ha1 hb1⟩
           obtain ⟨m1, hm1⟩ := (HG.out.below hB1).cell
           have hcv := run_runes_of_string (P := Tryd.prog) W1 9 70 21 s Tryd.underlying9 Tryd.underlying70 Tryd.underlying21 (by rw [regex_parse.runes_size]; have := hrl.out; omega)
           rw [regex_parse.runes_size, hn.out] at hcv
           have hcg := grownCap_ge W1 n 0 21
           obtain ⟨c, hc⟩ : ∃ c, Aside0 (grownCap W1 n 0 21 = c) := ⟨_, ⟨rfl⟩⟩
           rw [hc.out] at hcv hcg
           have HRU : Aside0 (regex_coder_take.Runes (W1.drew.alloc (.cells (Conv.runesFrom s s.size 0 #[] ++ Array.replicate (c - n) (.int .i32 0)) 21)) W1.heap.size (some ⟨W1.heap.size, 0, none⟩) (Base.runesOf s)) := ⟨regex_parse.laid_runes s _ W1.heap.size (c - n) hs60 (blk_new W1.drew _)⟩
           have hB2 : Below w.heap.size w (W1.drew.alloc (.cells (Conv.runesFrom s s.size 0 #[] ++ Array.replicate (c - n) (.int .i32 0)) 21)) := (show Below w.heap.size w W1.drew from ⟨hB1.os, hB1.tape, hB1.output, hB1.size, hB1.block⟩).alloc hB1.size _
           have hs2 : W1.heap.size < (W1.drew.alloc (.cells (Conv.runesFrom s s.size 0 #[] ++ Array.replicate (c - n) (.int .i32 0)) 21)).heap.size := blk_lt (blk_new W1.drew _)
           obtain ⟨W2, hW2⟩ : ∃ W2, Aside0 (W1.drew.alloc (.cells (Conv.runesFrom s s.size 0 #[] ++ Array.replicate (c - n) (.int .i32 0)) 21) = W2) := ⟨_, ⟨rfl⟩⟩
           rw [hW2.out] at hcv HRU hB2 hs2
           obtain ⟨W3, hW3⟩ : ∃ W3, Aside0 (W2.alloc (.cells #[.slice (some ⟨W1.heap.size, 0, none⟩) n c, .slice none 0 0, .bool false] 90) = W3) := ⟨_, ⟨rfl⟩⟩
           have hb3 : Below W2.heap.size W2 W3 := by rw [← hW3.out]; exact below_alloc (Below.refl _ _) _
           have hg3 : W3.heap[W2.heap.size]? = some (.cells #[.slice (some ⟨W1.heap.size, 0, none⟩) n c, .slice none 0 0, .bool false] 90 (0, 0)) := by rw [← hW3.out]; exact blk_new _ _
           have HS3 : Aside0 (regex_coder_take.St w W3 W2.heap.size W1.heap.size (.slice none 0 0) ⟨Base.runesOf s, [], false⟩) := ⟨⟨below_then hB2 hB2.size hb3, hB2.size, ⟨some ⟨W1.heap.size, 0, none⟩, c, by rw [hg3]; simp only [hn.out], by rw [hn.out]; exact hcg, HRU.out.move (hb3.block _ hs2)⟩, Kd.R_nil _ _ _ _ _⟩⟩
           have HB1 := Aside0.mk hB1
           clear hB1 ha1 hb1 hB2 hb3 hg3 hcg hs2)
        | (go_at_call 51; (with_reducible refine (Tryd.strings_Contains r1 ⟨#[239, 191, 189]⟩ m1 W1 (by omega) hm1).mono ?_); rintro e W1' ⟨rfl, hW1'⟩; rw [hW1', hct.out]))
      go_ret
      exact ⟨_, rfl, HB1.out, rfl⟩
    | false =>
      rw [htv, if_neg (by decide)] at HP
      rw [htv] at HCT
      clear htv
      cases hb4 : s4.bad with
      | true =>
        have HM : Aside0 (regex_parse.parseM s = none) := ⟨by rw [HP.out, if_pos (Or.inl hb4)]⟩
        rw [HM.out]
        go_enter Tryd.func30, Tryd.ntmps30
        go_wp2_with (first
        | (go_at_call 52; (with_reducible refine (strings_ToValidUTF8.calls w s HG.out (by omega)).mono ?_); rintro e W1 ⟨r1, rfl, hB1, hz1, ha1, hb1⟩
           have hct : Aside0 (Lib.contains r1.data.toList (⟨#[239, 191, 189]⟩ : ByteArray).data.toList = _) := ⟨HCT.out r1 ha1 hb1⟩
           obtain ⟨m1, hm1⟩ := (HG.out.below hB1).cell
           have hcv := run_runes_of_string (P := Tryd.prog) W1 9 70 21 s Tryd.underlying9 Tryd.underlying70 Tryd.underlying21 (by rw [regex_parse.runes_size]; have := hrl.out; omega)
           rw [regex_parse.runes_size, hn.out] at hcv
           have hcg := grownCap_ge W1 n 0 21
           obtain ⟨c, hc⟩ : ∃ c, Aside0 (grownCap W1 n 0 21 = c) := ⟨_, ⟨rfl⟩⟩
           rw [hc.out] at hcv hcg
           have HRU : Aside0 (regex_coder_take.Runes (W1.drew.alloc (.cells (Conv.runesFrom s s.size 0 #[] ++ Array.replicate (c - n) (.int .i32 0)) 21)) W1.heap.size (some ⟨W1.heap.size, 0, none⟩) (Base.runesOf s)) := ⟨regex_parse.laid_runes s _ W1.heap.size (c - n) hs60 (blk_new W1.drew _)⟩
           have hB2 : Below w.heap.size w (W1.drew.alloc (.cells (Conv.runesFrom s s.size 0 #[] ++ Array.replicate (c - n) (.int .i32 0)) 21)) := (show Below w.heap.size w W1.drew from ⟨hB1.os, hB1.tape, hB1.output, hB1.size, hB1.block⟩).alloc hB1.size _
           have hs2 : W1.heap.size < (W1.drew.alloc (.cells (Conv.runesFrom s s.size 0 #[] ++ Array.replicate (c - n) (.int .i32 0)) 21)).heap.size := blk_lt (blk_new W1.drew _)
           obtain ⟨W2, hW2⟩ : ∃ W2, Aside0 (W1.drew.alloc (.cells (Conv.runesFrom s s.size 0 #[] ++ Array.replicate (c - n) (.int .i32 0)) 21) = W2) := ⟨_, ⟨rfl⟩⟩
           rw [hW2.out] at hcv HRU hB2 hs2
           obtain ⟨W3, hW3⟩ : ∃ W3, Aside0 (W2.alloc (.cells #[.slice (some ⟨W1.heap.size, 0, none⟩) n c, .slice none 0 0, .bool false] 90) = W3) := ⟨_, ⟨rfl⟩⟩
           have hb3 : Below W2.heap.size W2 W3 := by rw [← hW3.out]; exact below_alloc (Below.refl _ _) _
           have hg3 : W3.heap[W2.heap.size]? = some (.cells #[.slice (some ⟨W1.heap.size, 0, none⟩) n c, .slice none 0 0, .bool false] 90 (0, 0)) := by rw [← hW3.out]; exact blk_new _ _
           have HS3 : Aside0 (regex_coder_take.St w W3 W2.heap.size W1.heap.size (.slice none 0 0) ⟨Base.runesOf s, [], false⟩) := ⟨⟨below_then hB2 hB2.size hb3, hB2.size, ⟨some ⟨W1.heap.size, 0, none⟩, c, by rw [hg3]; simp only [hn.out], by rw [hn.out]; exact hcg, HRU.out.move (hb3.block _ hs2)⟩, Kd.R_nil _ _ _ _ _⟩⟩
           have HB1 := Aside0.mk hB1
           clear hB1 ha1 hb1 hB2 hb3 hg3 hcg hs2)
        | (go_at_call 51; (with_reducible refine (Tryd.strings_Contains r1 ⟨#[239, 191, 189]⟩ m1 W1 (by omega) hm1).mono ?_); rintro e W1' ⟨rfl, hW1'⟩; rw [hW1', hct.out])
        | (go_at_call 53; rw [hW3.out]
           have hLd := (regex_coder_alternatives.all (4 * (Base.runesOf s).length + 3)).2.2 _ (Nat.le_refl _) w W3 W2.heap.size W1.heap.size (.slice none 0 0) ⟨Base.runesOf s, [], false⟩ 0 HS3.out (by omega) (Or.inr (by unfold regex_coder_atom.need; simp only; omega)) (by have := hrl.out; simp only [List.length_nil]; omega) (fun h => absurd h (by decide))
           rw [hz.out] at hLd
           (with_reducible refine hLd.mono ?_)
           clear hLd
           rintro e W4 ⟨rfl, vc4, hS4⟩
           have hS4' : regex_coder_take.St w W4 W2.heap.size W1.heap.size vc4 s4 := by have h9 := hS4; rw [← hs4.out]; exact h9
           obtain ⟨A4, c4, ⟨k0, k1, k2⟩, ⟨q0, q1, q2⟩, kl, kb, kr⟩ := hS4'.look
           rw [hb4] at k2
           have HS4 := Aside0.mk hS4'
           clear hS4 hS4' kl kb kr k1 q1))
        go_ret
        exact ⟨_, rfl, HS4.out.below, rfl⟩
      | false =>
        by_cases hp4 : 0 < s4.p.length
        · have HM : Aside0 (regex_parse.parseM s = none) := ⟨by rw [HP.out, if_pos (Or.inr hp4)]⟩
          rw [HM.out]
          have hd4 : decide ((0 : Int) < (s4.p.length : Int)) = true := by simp; omega
          go_enter Tryd.func30, Tryd.ntmps30
          go_wp2_with (first
        | (go_at_call 52; (with_reducible refine (strings_ToValidUTF8.calls w s HG.out (by omega)).mono ?_); rintro e W1 ⟨r1, rfl, hB1, hz1, ha1, hb1⟩
           have hct : Aside0 (Lib.contains r1.data.toList (⟨#[239, 191, 189]⟩ : ByteArray).data.toList = _) := ⟨HCT.out r1 ha1 hb1⟩
           obtain ⟨m1, hm1⟩ := (HG.out.below hB1).cell
           have hcv := run_runes_of_string (P := Tryd.prog) W1 9 70 21 s Tryd.underlying9 Tryd.underlying70 Tryd.underlying21 (by rw [regex_parse.runes_size]; have := hrl.out; omega)
           rw [regex_parse.runes_size, hn.out] at hcv
           have hcg := grownCap_ge W1 n 0 21
           obtain ⟨c, hc⟩ : ∃ c, Aside0 (grownCap W1 n 0 21 = c) := ⟨_, ⟨rfl⟩⟩
           rw [hc.out] at hcv hcg
           have HRU : Aside0 (regex_coder_take.Runes (W1.drew.alloc (.cells (Conv.runesFrom s s.size 0 #[] ++ Array.replicate (c - n) (.int .i32 0)) 21)) W1.heap.size (some ⟨W1.heap.size, 0, none⟩) (Base.runesOf s)) := ⟨regex_parse.laid_runes s _ W1.heap.size (c - n) hs60 (blk_new W1.drew _)⟩
           have hB2 : Below w.heap.size w (W1.drew.alloc (.cells (Conv.runesFrom s s.size 0 #[] ++ Array.replicate (c - n) (.int .i32 0)) 21)) := (show Below w.heap.size w W1.drew from ⟨hB1.os, hB1.tape, hB1.output, hB1.size, hB1.block⟩).alloc hB1.size _
           have hs2 : W1.heap.size < (W1.drew.alloc (.cells (Conv.runesFrom s s.size 0 #[] ++ Array.replicate (c - n) (.int .i32 0)) 21)).heap.size := blk_lt (blk_new W1.drew _)
           obtain ⟨W2, hW2⟩ : ∃ W2, Aside0 (W1.drew.alloc (.cells (Conv.runesFrom s s.size 0 #[] ++ Array.replicate (c - n) (.int .i32 0)) 21) = W2) := ⟨_, ⟨rfl⟩⟩
           rw [hW2.out] at hcv HRU hB2 hs2
           obtain ⟨W3, hW3⟩ : ∃ W3, Aside0 (W2.alloc (.cells #[.slice (some ⟨W1.heap.size, 0, none⟩) n c, .slice none 0 0, .bool false] 90) = W3) := ⟨_, ⟨rfl⟩⟩
           have hb3 : Below W2.heap.size W2 W3 := by rw [← hW3.out]; exact below_alloc (Below.refl _ _) _
           have hg3 : W3.heap[W2.heap.size]? = some (.cells #[.slice (some ⟨W1.heap.size, 0, none⟩) n c, .slice none 0 0, .bool false] 90 (0, 0)) := by rw [← hW3.out]; exact blk_new _ _
           have HS3 : Aside0 (regex_coder_take.St w W3 W2.heap.size W1.heap.size (.slice none 0 0) ⟨Base.runesOf s, [], false⟩) := ⟨⟨below_then hB2 hB2.size hb3, hB2.size, ⟨some ⟨W1.heap.size, 0, none⟩, c, by rw [hg3]; simp only [hn.out], by rw [hn.out]; exact hcg, HRU.out.move (hb3.block _ hs2)⟩, Kd.R_nil _ _ _ _ _⟩⟩
           have HB1 := Aside0.mk hB1
           clear hB1 ha1 hb1 hB2 hb3 hg3 hcg hs2)
        | (go_at_call 51; (with_reducible refine (Tryd.strings_Contains r1 ⟨#[239, 191, 189]⟩ m1 W1 (by omega) hm1).mono ?_); rintro e W1' ⟨rfl, hW1'⟩; rw [hW1', hct.out])
        | (go_at_call 53; rw [hW3.out]
           have hLd := (regex_coder_alternatives.all (4 * (Base.runesOf s).length + 3)).2.2 _ (Nat.le_refl _) w W3 W2.heap.size W1.heap.size (.slice none 0 0) ⟨Base.runesOf s, [], false⟩ 0 HS3.out (by omega) (Or.inr (by unfold regex_coder_atom.need; simp only; omega)) (by have := hrl.out; simp only [List.length_nil]; omega) (fun h => absurd h (by decide))
           rw [hz.out] at hLd
           (with_reducible refine hLd.mono ?_)
           clear hLd
           rintro e W4 ⟨rfl, vc4, hS4⟩
           have hS4' : regex_coder_take.St w W4 W2.heap.size W1.heap.size vc4 s4 := by have h9 := hS4; rw [← hs4.out]; exact h9
           obtain ⟨A4, c4, ⟨k0, k1, k2⟩, ⟨q0, q1, q2⟩, kl, kb, kr⟩ := hS4'.look
           rw [hb4] at k2
           have HS4 := Aside0.mk hS4'
           clear hS4 hS4' kl kb kr k1 q1))
          go_ret
          exact ⟨_, rfl, HS4.out.below, rfl⟩
        · have HM : Aside0 (regex_parse.parseM s = some (s4.code ++ [⟨4, [], false, 0, 0⟩])) := ⟨by rw [HP.out, if_neg (by rintro (h9 | h9); rw [hb4] at h9; cases h9; exact hp4 h9)]⟩
          rw [HM.out]
          have hd4 : decide ((0 : Int) < (s4.p.length : Int)) = false := decide_eq_false (by omega)
          have HC4 : Aside0 (s4.code.length + 1 ≤ 1000000) := ⟨by
            have h9 := (regex_coder_atom.M_dec (4 * (Base.runesOf s).length + 3) 2 0 ⟨Base.runesOf s, [], false⟩ (fun h => absurd h (by decide))).1.both
            have h8 := hs4.out
            unfold regex_parse.runM at h8
            rw [h8] at h9
            have := hrl.out
            simp only [List.length_nil] at h9
            have h7 := Nat.le_trans (Nat.le_add_right _ _) h9
            have h6 : s4.code.length ≤ 0 + 2 * (Base.runesOf s).length := h7
            omega⟩
          go_enter Tryd.func30, Tryd.ntmps30
          go_wp2_with (first
        | (go_at_call 52; (with_reducible refine (strings_ToValidUTF8.calls w s HG.out (by omega)).mono ?_); rintro e W1 ⟨r1, rfl, hB1, hz1, ha1, hb1⟩
           have hct : Aside0 (Lib.contains r1.data.toList (⟨#[239, 191, 189]⟩ : ByteArray).data.toList = _) := ⟨HCT.out r1 ha1 hb1⟩
           obtain ⟨m1, hm1⟩ := (HG.out.below hB1).cell
           have hcv := run_runes_of_string (P := Tryd.prog) W1 9 70 21 s Tryd.underlying9 Tryd.underlying70 Tryd.underlying21 (by rw [regex_parse.runes_size]; have := hrl.out; omega)
           rw [regex_parse.runes_size, hn.out] at hcv
           have hcg := grownCap_ge W1 n 0 21
           obtain ⟨c, hc⟩ : ∃ c, Aside0 (grownCap W1 n 0 21 = c) := ⟨_, ⟨rfl⟩⟩
           rw [hc.out] at hcv hcg
           have HRU : Aside0 (regex_coder_take.Runes (W1.drew.alloc (.cells (Conv.runesFrom s s.size 0 #[] ++ Array.replicate (c - n) (.int .i32 0)) 21)) W1.heap.size (some ⟨W1.heap.size, 0, none⟩) (Base.runesOf s)) := ⟨regex_parse.laid_runes s _ W1.heap.size (c - n) hs60 (blk_new W1.drew _)⟩
           have hB2 : Below w.heap.size w (W1.drew.alloc (.cells (Conv.runesFrom s s.size 0 #[] ++ Array.replicate (c - n) (.int .i32 0)) 21)) := (show Below w.heap.size w W1.drew from ⟨hB1.os, hB1.tape, hB1.output, hB1.size, hB1.block⟩).alloc hB1.size _
           have hs2 : W1.heap.size < (W1.drew.alloc (.cells (Conv.runesFrom s s.size 0 #[] ++ Array.replicate (c - n) (.int .i32 0)) 21)).heap.size := blk_lt (blk_new W1.drew _)
           obtain ⟨W2, hW2⟩ : ∃ W2, Aside0 (W1.drew.alloc (.cells (Conv.runesFrom s s.size 0 #[] ++ Array.replicate (c - n) (.int .i32 0)) 21) = W2) := ⟨_, ⟨rfl⟩⟩
           rw [hW2.out] at hcv HRU hB2 hs2
           obtain ⟨W3, hW3⟩ : ∃ W3, Aside0 (W2.alloc (.cells #[.slice (some ⟨W1.heap.size, 0, none⟩) n c, .slice none 0 0, .bool false] 90) = W3) := ⟨_, ⟨rfl⟩⟩
           have hb3 : Below W2.heap.size W2 W3 := by rw [← hW3.out]; exact below_alloc (Below.refl _ _) _
           have hg3 : W3.heap[W2.heap.size]? = some (.cells #[.slice (some ⟨W1.heap.size, 0, none⟩) n c, .slice none 0 0, .bool false] 90 (0, 0)) := by rw [← hW3.out]; exact blk_new _ _
           have HS3 : Aside0 (regex_coder_take.St w W3 W2.heap.size W1.heap.size (.slice none 0 0) ⟨Base.runesOf s, [], false⟩) := ⟨⟨below_then hB2 hB2.size hb3, hB2.size, ⟨some ⟨W1.heap.size, 0, none⟩, c, by rw [hg3]; simp only [hn.out], by rw [hn.out]; exact hcg, HRU.out.move (hb3.block _ hs2)⟩, Kd.R_nil _ _ _ _ _⟩⟩
           have HB1 := Aside0.mk hB1
           clear hB1 ha1 hb1 hB2 hb3 hg3 hcg hs2)
        | (go_at_call 51; (with_reducible refine (Tryd.strings_Contains r1 ⟨#[239, 191, 189]⟩ m1 W1 (by omega) hm1).mono ?_); rintro e W1' ⟨rfl, hW1'⟩; rw [hW1', hct.out])
        | (go_at_call 53; rw [hW3.out]
           have hLd := (regex_coder_alternatives.all (4 * (Base.runesOf s).length + 3)).2.2 _ (Nat.le_refl _) w W3 W2.heap.size W1.heap.size (.slice none 0 0) ⟨Base.runesOf s, [], false⟩ 0 HS3.out (by omega) (Or.inr (by unfold regex_coder_atom.need; simp only; omega)) (by have := hrl.out; simp only [List.length_nil]; omega) (fun h => absurd h (by decide))
           rw [hz.out] at hLd
           (with_reducible refine hLd.mono ?_)
           clear hLd
           rintro e W4 ⟨rfl, vc4, hS4⟩
           have hS4' : regex_coder_take.St w W4 W2.heap.size W1.heap.size vc4 s4 := by have h9 := hS4; rw [← hs4.out]; exact h9
           obtain ⟨A4, c4, ⟨k0, k1, k2⟩, ⟨q0, q1, q2⟩, kl, kb, kr⟩ := hS4'.look
           rw [hb4] at k2
           have HS4 := Aside0.mk hS4'
           clear hS4 hS4' kl kb kr k1 q1)
        | (go_at_call 54; (with_reducible refine (regex_coder_put.put1a rfl HS4.out (Kd.R_nil _ _ _ _ _) HC4.out).mono ?_); rintro e W5 ⟨rfl, vc5, hS5, hF5⟩
           obtain ⟨A5, c5, e5⟩ := Kd.R_slice hS5.code
           subst e5
           obtain ⟨B5, d5, ⟨z0, z1, z2⟩, ⟨y0, y1, y2⟩, zl, zb, zr⟩ := hS5.look
           have HS5 := Aside0.mk hS5
           clear hS5 hF5 zl zb zr z0 y0))
          go_ret
          refine ⟨.slice A5 (s4.code.length + 1) c5, rfl, HS5.out.below, ?_⟩
          have h9 := HS5.out.code
          simp only [List.length_append, List.length_cons, List.length_nil, Nat.zero_add] at h9
          exact h9

end Go.Proofs.YtgnehcgaplnfkaaDoor.PAll
