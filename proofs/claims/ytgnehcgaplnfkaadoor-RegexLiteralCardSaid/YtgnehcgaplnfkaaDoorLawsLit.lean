/- Plain law: a text's code points, each behind a backslash, as a pattern. No program runs in it. -/
import Derived.Test.YtgnehcgaplnfkaaDoorLawsUtf
import Derived.Test.YtgnehcgaplnfkaaDoorLawsSim3
import Derived.Test.YtgnehcgaplnfkaaDoorPAllx26
import Derived.Test.YtgnehcgaplnfkaaDoorPAllx31
import Derived.Test.YtgnehcgaplnfkaaDoorPAllx22
import Derived.Test.YtgnehcgaplnfkaaDoorPAllx30
namespace Go.Proofs.YtgnehcgaplnfkaaDoor.PAll
open Go.RowKit Go.Proofs.YtgnehcgaplnfkaaDoorW.PrintWords Go.Proofs.YtgnehcgaplnfkaaDoorW.PrintLast
set_option linter.unusedVariables false
set_option linter.unusedSimpArgs false
namespace Lit
open Utf (VR)
abbrev CS := regex_coder_take.CS
abbrev I := S62
open regex_coder_atom (M)
def esc (rs : List Int) : List Int := rs.flatMap fun r => [92, r]
def lit (r : Int) : I := ⟨1, [⟨r, r⟩], false, 0, 0⟩
theorem esc_cons (r : Int) (rs : List Int) : esc (r :: rs) = 92 :: r :: esc rs := rfl
theorem esc_len (rs : List Int) : (esc rs).length = 2 * rs.length := by
  induction rs with
  | nil => rfl
  | cons r rs ih =>
    rw [esc_cons, List.length_cons, List.length_cons, ih, List.length_cons]
    omega
theorem qual_none (n : Nat) (rs : List Int) (c : List I) : regex_coder_atom.qual n ⟨esc rs, c, false⟩ = ⟨esc rs, c, false⟩ := by
  unfold regex_coder_atom.qual
  rw [if_neg]
  rintro ⟨_, h⟩
  cases rs with
  | nil => cases h
  | cons r rs =>
    rw [esc_cons, show regex_coder_among.am ⟨#[42, 43, 63]⟩ ⟨92 :: r :: esc rs, c, false⟩ = false by kernel_rfl] at h
    cases h
theorem run_lit : ∀ (rs : List Int) (f : Nat) (c : List I), rs.length + 2 ≤ f → M f 1 0 ⟨esc rs, c, false⟩ = ⟨[], c ++ rs.map lit, false⟩ := by
  intro rs
  induction rs with
  | nil =>
    intro f c hf
    obtain ⟨f, rfl⟩ : ∃ g, f = g + 1 := ⟨f - 1, by omega⟩
    rw [Sim.piece_is, if_neg (fun h => by rw [show Sim.mo ⟨esc [], c, false⟩ = false from rfl] at h; cases h.1)]
    simp [esc]
  | cons r rs ih =>
    intro f c hf
    obtain ⟨f, rfl⟩ : ∃ g, f = g + 2 := ⟨f - 2, by omega⟩
    rw [esc_cons, Sim.piece_is, if_pos ⟨rfl, by kernel_rfl⟩]
    have e1 : M (f + 1) 0 0 ⟨92 :: r :: esc rs, c, false⟩ = ⟨esc rs, c ++ [lit r], false⟩ := by
      have h := Sim.atom_is (fun d' s' => M f 2 d' s') 0 92 (r :: esc rs) c
      rw [if_neg (by rw [show Sim.am ⟨#[42, 43, 63, 124, 41, 93]⟩ ⟨92 :: r :: esc rs, c, false⟩ = false by kernel_rfl]; decide), if_neg (by decide), if_neg (by decide), if_neg (by decide), if_pos rfl] at h
      exact h
    rw [e1]
    have e2 := qual_none c.length rs (c ++ [lit r])
    rw [show (⟨92 :: r :: esc rs, c, false⟩ : CS).code.length = c.length from rfl, e2, ih (f + 1) _ (by simp only [List.length_cons] at hf; omega), List.map_cons, List.append_assoc]
    rfl
theorem run_is (rs : List Int) : regex_parse.runM (esc rs) = ⟨[], rs.map lit, false⟩ := by
  have e : regex_parse.runM (esc rs) = M (4 * (esc rs).length + 3) 2 0 ⟨esc rs, [], false⟩ := rfl
  rw [e, show 4 * (esc rs).length + 3 = (4 * (esc rs).length + 2) + 1 from rfl, Sim.alts_is, run_lit rs _ [] (by rw [esc_len]; omega), if_neg (fun h => by cases h.1)]
  rfl
/-! The pattern's bytes. -/
def piece (r : Int) : ByteArray := (⟨#[92]⟩ : ByteArray) ++ Utf8.encode r
def q0 (rs : List Int) : ByteArray := dryrotlaw08_quoted.qM ⟨#[]⟩ rs
theorem qM_acc (rs : List Int) : ∀ acc : ByteArray, dryrotlaw08_quoted.qM acc rs = acc ++ q0 rs := by
  induction rs with
  | nil =>
    intro acc
    refine Base.ext_data ?_
    rw [Run.app_list]
    simp [dryrotlaw08_quoted.qM, q0]
  | cons r rs ih =>
    intro acc
    have e1 : dryrotlaw08_quoted.qM acc (r :: rs) = dryrotlaw08_quoted.qM (acc ++ piece r) rs := rfl
    have e2 : q0 (r :: rs) = dryrotlaw08_quoted.qM ((⟨#[]⟩ : ByteArray) ++ piece r) rs := rfl
    rw [e1, e2, ih, ih]
    refine Base.ext_data ?_
    simp only [Run.app_list]
    simp
theorem q0_cons (r : Int) (rs : List Int) : q0 (r :: rs) = piece r ++ q0 rs := by
  have e2 : q0 (r :: rs) = dryrotlaw08_quoted.qM ((⟨#[]⟩ : ByteArray) ++ piece r) rs := rfl
  rw [e2, qM_acc]
  refine Base.ext_data ?_
  simp only [Run.app_list]
  simp
theorem back_runes : Base.runesOf (⟨#[92]⟩ : ByteArray) = [92] ∧ strings_ToValidUTF8.badW (⟨#[92]⟩ : ByteArray) = false := ⟨by kernel_rfl, by kernel_rfl⟩
theorem q0_runes : ∀ rs : List Int, (∀ r ∈ rs, VR r) → Base.runesOf (q0 rs) = esc rs ∧ strings_ToValidUTF8.badW (q0 rs) = false := by
  intro rs
  induction rs with
  | nil => exact fun _ => ⟨by kernel_rfl, by kernel_rfl⟩
  | cons r rs ih =>
    intro h
    obtain ⟨i1, i2⟩ := ih (fun x hx => h x (List.mem_cons_of_mem _ hx))
    obtain ⟨c, rfl, c1, c2⟩ := h r List.mem_cons_self
    obtain ⟨g1, g2⟩ := Utf.enc_runes c1 c2
    have p2 : strings_ToValidUTF8.badW (piece (c : Int)) = false := Utf.bad_app _ _ back_runes.2 g2
    rw [q0_cons]
    refine ⟨?_, Utf.bad_app _ _ p2 i2⟩
    rw [Run.runes_app _ _ p2, i1]
    unfold piece
    rw [Run.runes_app _ _ back_runes.2, back_runes.1, g1, esc_cons]
    rfl
theorem mem_esc (r : Int) (h92 : r ≠ 92) (rs : List Int) : r ∈ esc rs ↔ r ∈ rs := by
  unfold esc
  rw [List.mem_flatMap]
  constructor
  · rintro ⟨x, hx, h⟩
    rcases List.mem_cons.1 h with h | h
    · exact absurd h h92
    · rw [List.mem_singleton] at h
      rw [h]
      exact hx
  · exact fun h => ⟨r, h, by simp⟩
/-- The sign for what is none is among a text's bytes just if it is among its code points. -/
theorem has_from (s : ByteArray) (a b : List UInt8) (hs : s.data.toList = a ++ [239, 191, 189] ++ b) : ∀ (f pos : Nat), s.size - pos ≤ f → pos ≤ a.length → strings_ToValidUTF8.badFrom s f pos = false → (65533 : Int) ∈ Base.runesFrom s f pos := by
  have hlen : s.size = a.length + 3 + b.length := by
    rw [Base.size_list, hs]
    simp
    omega
  have hget : ∀ i, i < 3 → s.data.toList.getD (a.length + i) 0 = ([239, 191, 189] : List UInt8).getD i 0 := by
    intro i hi
    rw [hs, List.append_assoc, List.getD_eq_getElem?_getD, List.getElem?_append_right (by omega), Nat.add_sub_cancel_left, List.getElem?_append_left (by simpa using hi), ← List.getD_eq_getElem?_getD]
  intro f
  induction f with
  | zero =>
    intro pos h hp _
    omega
  | succ f ih =>
    intro pos h hp hb
    have hlt : pos < s.size := by omega
    rw [Utf.bad_step s f pos hlt, Bool.or_eq_false_iff] at hb
    have hv := of_decide_eq_false hb.1
    rw [Base.runesFrom_step s f pos hlt]
    have hd := Lib.decode_N s pos
    rcases Nat.lt_or_ge pos a.length with hpa | hpa
    · refine List.mem_cons_of_mem _ (ih _ (by have := Base.width_pos s pos hlt; omega) ?_ hb.2)
      have h239 := hget 0 (by omega)
      have h239' : (s.data.toList.getD a.length 0).toNat = 239 := by
        have : s.data.toList.getD a.length 0 = 239 := by simpa using h239
        rw [this]
        rfl
      rw [hd] at hv ⊢
      have hk : ∀ k, pos + k = a.length → (s.data.toList.getD (pos + k) 0).toNat = 239 := fun k hk => by rw [hk]; exact h239'
      have hk1 := hk 1
      have hk2 := hk 2
      have hk3 := hk 3
      rcases Lib.decodeN_shape (s.data.toList.length - pos) (s.data.toList.getD pos 0).toNat (s.data.toList.getD (pos + 1) 0).toNat (s.data.toList.getD (pos + 2) 0).toNat (s.data.toList.getD (pos + 3) 0).toNat with ⟨c, e⟩ | ⟨c1, c2, c3, cv, e⟩ | ⟨c1, c2, c3, c4, cv, cs, e⟩ | ⟨c1, c2, c3, c4, c5, cv, cw, e⟩ | e
      · rw [e]
        dsimp only
        omega
      · rw [e]
        dsimp only
        omega
      · rw [e]
        dsimp only
        omega
      · rw [e]
        dsimp only
        omega
      · exact absurd e hv
    · have e : pos = a.length := by omega
      subst e
      have g0 : s.data.toList.getD a.length 0 = 239 := by simpa using hget 0 (by omega)
      have g1 : s.data.toList.getD (a.length + 1) 0 = 191 := by simpa using hget 1 (by omega)
      have g2 : s.data.toList.getD (a.length + 2) 0 = 189 := by simpa using hget 2 (by omega)
      have e1 : (Utf8.decode s a.length).1 = 65533 := by
        rw [hd, g0, g1, g2]
        have hl2 : 2 < s.data.toList.length - a.length := by
          rw [← Base.size_list]
          omega
        have t0 : (239 : UInt8).toNat = 239 := rfl
        have t1 : (191 : UInt8).toNat = 191 := rfl
        have t2 : (189 : UInt8).toNat = 189 := rfl
        rw [t0, t1, t2]
        unfold Lib.decodeN
        rw [if_neg (by omega), if_neg (by omega), if_pos (by omega), if_pos (by omega)]
      rw [e1]
      exact List.mem_cons_self
theorem no_has {s : ByteArray} (hb : strings_ToValidUTF8.badW s = false) (hn : ¬ (65533 : Int) ∈ Base.runesOf s) : Lib.contains s.data.toList [239, 191, 189] = false := by
  cases hc : Lib.contains s.data.toList [239, 191, 189] with
  | false => rfl
  | true =>
    exfalso
    unfold Lib.contains at hc
    rcases Lib.index_spec s.data.toList [239, 191, 189] with ⟨h1, h2⟩ | ⟨i, h1, h2, h3⟩
    · rw [h1] at hc
      simp at hc
    · have hocc : Lib.occAt s.data.toList [239, 191, 189] i = true := by first | exact h3 | exact h3.1 | exact h2 | exact h2.1 | exact h2.2
      unfold Lib.occAt at hocc
      have hpre : ([239, 191, 189] : List UInt8) <+: s.data.toList.drop i := by first | exact List.isPrefixOf_iff_prefix.1 hocc | simpa using hocc
      obtain ⟨t, ht⟩ := hpre
      have hs : s.data.toList = s.data.toList.take i ++ [239, 191, 189] ++ t := by
        rw [List.append_assoc, ht, List.take_append_drop]
      have hil : i ≤ s.data.toList.length := by
        rcases Nat.lt_or_ge s.data.toList.length i with h9 | h9
        · rw [List.drop_eq_nil_of_le (by omega)] at ht
          cases ht
        · exact h9
      refine hn (has_from s _ t hs s.size 0 (by omega) (by omega) hb)
/-! The text is one without the sign. -/
theorem q0_size : ∀ rs : List Int, (q0 rs).size = rs.length + (runesBytes rs).size := by
  have hb : ∀ (rs : List Int) (acc : ByteArray), (rs.foldl (fun r n => r ++ Utf8.encode n) acc).size = acc.size + (runesBytes rs).size := by
    intro rs
    induction rs with
    | nil => exact fun acc => by simp [runesBytes]
    | cons r rs ih =>
      intro acc
      have e : runesBytes (r :: rs) = rs.foldl (fun r n => r ++ Utf8.encode n) (ByteArray.empty ++ Utf8.encode r) := rfl
      rw [List.foldl_cons, ih, e, ih, ByteArray.size_append, ByteArray.size_append]
      have : ByteArray.empty.size = 0 := rfl
      omega
  intro rs
  induction rs with
  | nil => rfl
  | cons r rs ih =>
    have e : runesBytes (r :: rs) = rs.foldl (fun r n => r ++ Utf8.encode n) (ByteArray.empty ++ Utf8.encode r) := rfl
    rw [q0_cons, ByteArray.size_append, ih, e, hb, ByteArray.size_append]
    unfold piece
    rw [ByteArray.size_append]
    have h1 : (⟨#[92]⟩ : ByteArray).size = 1 := rfl
    have h2 : ByteArray.empty.size = 0 := rfl
    simp only [List.length_cons]
    omega
theorem parse_yes (s : ByteArray) (hs : s.size ≤ 15) (hn : ¬ (65533 : Int) ∈ Base.runesOf s) : regex_parse.parseM (q0 (Base.runesOf s)) = some ((Base.runesOf s).map lit ++ [⟨4, [], false, 0, 0⟩]) := by
  obtain ⟨r1, r2⟩ := q0_runes (Base.runesOf s) (fun r hr => Utf.vr_of s r hr)
  have hn2 : ¬ (65533 : Int) ∈ Base.runesOf (q0 (Base.runesOf s)) := by
    rw [r1, mem_esc _ (by decide)]
    exact hn
  have hsz := q0_size (Base.runesOf s)
  rw [Utf.bytes_of s hn] at hsz
  have hl := regex_parse.runes_len s
  unfold regex_parse.parseM
  have htv : regex_parse.tv (q0 (Base.runesOf s)) = false := by
    unfold regex_parse.tv
    rw [if_neg (by rw [r2]; decide)]
    exact no_has r2 hn2
  rw [htv, if_neg (by rintro (h | h); omega; cases h), r1, run_is, if_neg (by rintro (h | h); cases h; simp at h)]
theorem parse_no (s : ByteArray) (hn : (65533 : Int) ∈ Base.runesOf s) : regex_parse.parseM (q0 (Base.runesOf s)) = none := by
  obtain ⟨r1, r2⟩ := q0_runes (Base.runesOf s) (fun r hr => Utf.vr_of s r hr)
  unfold regex_parse.parseM
  rw [if_pos]
  right
  unfold regex_parse.tv
  rw [if_neg (by rw [r2]; decide)]
  refine regex_parse.has_contains ?_
  have key : ∀ rs : List Int, (65533 : Int) ∈ rs → strings_ToValidUTF8.Has (q0 rs).data.toList := by
    intro rs
    induction rs with
    | nil => exact fun h => by simp at h
    | cons r rs ih =>
      intro h
      rw [q0_cons, Run.app_list]
      rcases List.mem_cons.1 h with rfl | h
      · exact ⟨[92], (q0 rs).data.toList, by rfl⟩
      · obtain ⟨a, b, e⟩ := ih h
        exact ⟨(piece r).data.toList ++ a, b, by rw [e]; simp⟩
  exact key _ hn
theorem early_yes (s : ByteArray) (hn : (65533 : Int) ∈ Base.runesOf s) : dryrotref08_parse.early (q0 (Base.runesOf s)) = true := by
  obtain ⟨r1, r2⟩ := q0_runes (Base.runesOf s) (fun r hr => Utf.vr_of s r hr)
  unfold dryrotref08_parse.early dryrotref08_one.oneB
  rw [r1, Bool.or_eq_true]
  right
  rw [List.any_eq_true]
  exact ⟨65533, (mem_esc _ (by decide) _).2 hn, by simp⟩
/-! What the program fits. -/
def code (rs : List Int) : List I := rs.map lit ++ [⟨4, [], false, 0, 0⟩]
theorem code_get {rs : List Int} {i : Nat} {x : I} (h : (code rs)[i]? = some x) : (∃ hi : i < rs.length, x = lit rs[i]) ∨ x.f0 = 4 := by
  unfold code at h
  rcases Nat.lt_or_ge i rs.length with hi | hi
  · left
    rw [List.getElem?_append_left (by rw [List.length_map]; exact hi), List.getElem?_map, List.getElem?_eq_getElem hi] at h
    exact ⟨hi, (Option.some.inj h).symm⟩
  · right
    rw [List.getElem?_append_right (by rw [List.length_map]; exact hi), List.length_map] at h
    have h9 := List.mem_of_getElem? h
    rw [List.mem_singleton] at h9
    rw [h9]
theorem no_eps (rs : List Int) (i j : Nat) : ¬ regex_follow.Eps (code rs) i j := by
  rintro ⟨x, hx, h⟩
  rcases code_get hx with ⟨hi, rfl⟩ | h4
  · rcases h with ⟨h, _⟩ | ⟨h, _⟩
    · exact absurd h (show ¬ (1 : Int) = 2 by decide)
    · exact absurd h (show ¬ (1 : Int) = 3 by decide)
  · rw [h4] at h
    rcases h with ⟨h, _⟩ | ⟨h, _⟩
    · exact absurd h (by decide)
    · exact absurd h (by decide)
theorem reach_only (rs : List Int) (i j : Nat) : regex_follow.Reach (code rs) i j ↔ j = i := by
  constructor
  · rintro ⟨n, hn⟩
    cases n with
    | zero => exact Eq.symm hn
    | succ n =>
      obtain ⟨k, _, he⟩ := hn
      exact absurd he (no_eps rs k j)
  · rintro rfl
    exact regex_follow.Reach.refl _ _
theorem fits_lit (a r : Int) : regex_inst_fits.fitsB false [⟨a, a⟩] r = true ↔ a = r := by
  simp [regex_inst_fits.fitsB, regex_inst_fits.inS]
  omega
theorem step_lit (rs : List Int) (r : Int) (i j : Nat) : regex_Match.Step (code rs) r (fun k => k = i) j ↔ ∃ hi : i < rs.length, rs[i] = r ∧ j = i + 1 := by
  constructor
  · rintro ⟨k, x, rfl, hx, h1, hf, hr⟩
    rcases code_get hx with ⟨hi, rfl⟩ | h4
    · exact ⟨hi, (fits_lit _ _).1 hf, (reach_only rs _ _).1 hr⟩
    · rw [h4] at h1
      exact absurd h1 (by decide)
  · rintro ⟨hi, he, rfl⟩
    refine ⟨i, lit rs[i], rfl, ?_, rfl, (fits_lit _ _).2 he, (reach_only rs _ _).2 rfl⟩
    unfold code
    rw [List.getElem?_append_left (by rw [List.length_map]; exact hi), List.getElem?_map, List.getElem?_eq_getElem hi]
    rfl
theorem run_none (c : List I) : ∀ (l : List Int) (S : Nat → Prop) (j : Nat), (∀ i, ¬ S i) → ¬ regex_Match.RunS c l S j := by
  intro l
  induction l with
  | nil => exact fun S j h => h j
  | cons r l ih =>
    intro S j h
    refine ih _ j ?_
    rintro i ⟨k, x, hk, _⟩
    exact h k hk
theorem run_some (rs : List Int) : ∀ (l : List Int) (i : Nat), i ≤ rs.length → (regex_Match.RunS (code rs) l (fun k => k = i) rs.length ↔ l = rs.drop i) := by
  intro l
  induction l with
  | nil =>
    intro i hi
    constructor
    · intro h
      have h9 : rs.length = i := h
      rw [List.drop_eq_nil_of_le (by omega)]
    · intro h
      have h9 := List.drop_eq_nil_iff.1 h.symm
      show rs.length = i
      omega
  | cons r l ih =>
    intro i hi
    show regex_Match.RunS (code rs) l (regex_Match.Step (code rs) r (fun k => k = i)) rs.length ↔ _
    by_cases hc : ∃ hi : i < rs.length, rs[i] = r
    · obtain ⟨h1, h2⟩ := hc
      rw [regex_Match.RunS_ext (code rs) l _ (fun k => k = i + 1) (fun j => (step_lit rs r i j).trans ⟨fun ⟨_, _, h⟩ => h, fun h => ⟨h1, h2, h⟩⟩), ih (i + 1) (by omega), List.drop_eq_getElem_cons h1, h2]
      constructor
      · rintro rfl
        rfl
      · intro h
        injection h
    · constructor
      · intro h
        exact absurd h (run_none _ _ _ _ (fun j hj => by
          obtain ⟨a, b, _⟩ := (step_lit rs r i j).1 hj
          exact hc ⟨a, b⟩))
      · intro h
        exfalso
        rcases Nat.lt_or_ge i rs.length with h1 | h1
        · rw [List.drop_eq_getElem_cons h1] at h
          injection h with h2 h3
          exact hc ⟨h1, h2.symm⟩
        · rw [List.drop_eq_nil_of_le h1] at h
          cases h
theorem acc_lit (rs l : List Int) : regex_Match.Acc (code rs) l ↔ l = rs := by
  unfold regex_Match.Acc
  have e : (code rs).length - 1 = rs.length := by
    unfold code
    simp
  rw [e, regex_Match.RunS_ext (code rs) l _ (fun k => k = 0) (fun j => reach_only rs 0 j), run_some rs l 0 (Nat.zero_le _)]
  rfl
theorem litFrom_esc : ∀ (rs acc : List Int), regex_Literal.litFrom (esc rs) false acc = some (acc ++ rs) := by
  intro rs
  induction rs with
  | nil => exact fun acc => by simp [esc, regex_Literal.litFrom]
  | cons r rs ih =>
    intro acc
    rw [esc_cons]
    have e : regex_Literal.litFrom (92 :: r :: esc rs) false acc = regex_Literal.litFrom (esc rs) false (acc ++ [r]) := by
      show (if (92 : Int) = 92 then regex_Literal.litFrom (r :: esc rs) true acc else _) = _
      rw [if_pos rfl]
      rfl
    rw [e, ih, List.append_assoc]
    rfl
theorem lit_is (s : ByteArray) (hs : s.size ≤ 15) (hn : ¬ (65533 : Int) ∈ Base.runesOf s) : regex_Literal.litM (q0 (Base.runesOf s)) = (s, true) := by
  unfold regex_Literal.litM
  rw [parse_yes s hs hn]
  simp only
  rw [(q0_runes (Base.runesOf s) (fun r hr => Utf.vr_of s r hr)).1, litFrom_esc, List.nil_append]
  show (runesBytes (Base.runesOf s), true) = (s, true)
  rw [Utf.bytes_of s hn]
theorem same_text (s t : ByteArray) (hn : ¬ (65533 : Int) ∈ Base.runesOf s) : Base.runesOf t = Base.runesOf s ↔ t = s := by
  constructor
  · intro h
    rw [← Utf.bytes_of t (by rw [h]; exact hn), h, Utf.bytes_of s hn]
  · rintro rfl
    rfl
end Lit
end Go.Proofs.YtgnehcgaplnfkaaDoor.PAll
