/- Plain law: code points as bytes, and back. No program runs in it. -/
import Derived.Test.YtgnehcgaplnfkaaDoorLawsRun
import Derived.Laws.Cover4
import Derived.Lib.MapLaws
namespace Go.Proofs.YtgnehcgaplnfkaaDoor.PAll
open Go.RowKit Go.Proofs.YtgnehcgaplnfkaaDoorW.PrintWords Go.Proofs.YtgnehcgaplnfkaaDoorW.PrintLast
set_option linter.unusedVariables false
set_option linter.unusedSimpArgs false
namespace Utf
/-- A code point. -/
def VR (r : Int) : Prop := ∃ c : Nat, r = (c : Int) ∧ c ≤ 1114111 ∧ (c < 55296 ∨ 57344 ≤ c)
theorem vr_decode (s : ByteArray) (pos : Nat) : VR ((Utf8.decode s pos).1 : Int) := by
  refine ⟨_, rfl, ?_⟩
  rw [Lib.decode_N]
  rcases Lib.decodeN_shape (s.data.toList.length - pos) (s.data.toList.getD pos 0).toNat (s.data.toList.getD (pos + 1) 0).toNat (s.data.toList.getD (pos + 2) 0).toNat (s.data.toList.getD (pos + 3) 0).toNat with ⟨c, e⟩ | ⟨c1, c2, c3, cv, e⟩ | ⟨c1, c2, c3, c4, cv, cs, e⟩ | ⟨c1, c2, c3, c4, c5, cv, cw, e⟩ | e
  all_goals (rw [e]; dsimp only; omega)
theorem vr_from (s : ByteArray) : ∀ (f pos : Nat) (r : Int), r ∈ Base.runesFrom s f pos → VR r := by
  intro f
  induction f with
  | zero => exact fun pos r h => by simp [Base.runesFrom] at h
  | succ f ih =>
    intro pos r h
    by_cases hp : pos < s.size
    · rw [Base.runesFrom_step s f pos hp] at h
      rcases List.mem_cons.1 h with rfl | h
      · exact vr_decode s pos
      · exact ih _ _ h
    · rw [Base.runesFrom_end s _ pos hp] at h
      simp at h
theorem vr_of (s : ByteArray) (r : Int) (h : r ∈ Base.runesOf s) : VR r := vr_from s _ _ r h
theorem valid_nat {c : Nat} (h1 : c ≤ 1114111) (h2 : c < 55296 ∨ 57344 ≤ c) : Utf8.valid (c : Int) = true := by
  simp only [Utf8.valid, Bool.and_eq_true, Bool.or_eq_true, decide_eq_true_eq, Bool.not_eq_true', Bool.and_eq_false_iff, decide_eq_false_iff_not]
  omega
theorem byte_nat (n : Nat) (h : n < 256) : (UInt8.ofNat n).toNat = n := by
  rw [UInt8.toNat_ofNat']
  omega
/-- The bytes of a code point, by their number. -/
theorem enc_shape {c : Nat} (h1 : c ≤ 1114111) (h2 : c < 55296 ∨ 57344 ≤ c) :
    (c < 128 ∧ (Utf8.encode (c : Int)).data.toList = [UInt8.ofNat c]) ∨
    (128 ≤ c ∧ c < 2048 ∧ (Utf8.encode (c : Int)).data.toList = [UInt8.ofNat (192 + c / 64), UInt8.ofNat (128 + c % 64)]) ∨
    (2048 ≤ c ∧ c < 65536 ∧ (Utf8.encode (c : Int)).data.toList = [UInt8.ofNat (224 + c / 4096), UInt8.ofNat (128 + c / 64 % 64), UInt8.ofNat (128 + c % 64)]) ∨
    (65536 ≤ c ∧ (Utf8.encode (c : Int)).data.toList = [UInt8.ofNat (240 + c / 262144), UInt8.ofNat (128 + c / 4096 % 64), UInt8.ofNat (128 + c / 64 % 64), UInt8.ofNat (128 + c % 64)]) := by
  have hv := valid_nat h1 h2
  unfold Utf8.encode
  simp only [hv, if_true, Int.toNat_natCast]
  by_cases c1 : c < 128
  · left
    exact ⟨c1, by rw [if_pos c1]⟩
  rw [if_neg c1]
  by_cases c2 : c < 2048
  · right; left
    exact ⟨by omega, c2, by rw [if_pos c2]⟩
  rw [if_neg c2]
  by_cases c3 : c < 65536
  · right; right; left
    exact ⟨by omega, c3, by rw [if_pos c3]⟩
  · right; right; right
    exact ⟨by omega, by rw [if_neg c3]⟩
theorem enc_decode {c : Nat} (h1 : c ≤ 1114111) (h2 : c < 55296 ∨ 57344 ≤ c) : Lib.decodeL (Utf8.encode (c : Int)).data.toList = (c, (Utf8.encode (c : Int)).data.toList.length) := by
  rw [Lib.decodeL_N]
  rcases enc_shape h1 h2 with ⟨g1, e⟩ | ⟨g1, g2, e⟩ | ⟨g1, g2, e⟩ | ⟨g1, e⟩
  · rw [e]
    simp only [List.length_cons, List.length_nil, List.getD_cons_zero, List.getD_cons_succ, List.getD_nil, Nat.zero_add]
    rw [byte_nat _ (by omega)]
    unfold Lib.decodeN
    rw [if_pos g1]
  · rw [e]
    simp only [List.length_cons, List.length_nil, List.getD_cons_zero, List.getD_cons_succ, List.getD_nil, Nat.zero_add]
    rw [byte_nat _ (by omega), byte_nat _ (by omega)]
    unfold Lib.decodeN
    rw [if_neg (by omega), if_pos (by omega), if_pos (by omega)]
    refine Prod.ext ?_ ?_ <;> dsimp only <;> omega
  · rw [e]
    simp only [List.length_cons, List.length_nil, List.getD_cons_zero, List.getD_cons_succ, List.getD_nil, Nat.zero_add]
    rw [byte_nat _ (by omega), byte_nat _ (by omega), byte_nat _ (by omega)]
    unfold Lib.decodeN
    rw [if_neg (by omega), if_neg (by omega), if_pos (by omega), if_pos (by omega)]
    refine Prod.ext ?_ ?_ <;> dsimp only <;> omega
  · rw [e]
    simp only [List.length_cons, List.length_nil, List.getD_cons_zero, List.getD_cons_succ, List.getD_nil, Nat.zero_add]
    rw [byte_nat _ (by omega), byte_nat _ (by omega), byte_nat _ (by omega), byte_nat _ (by omega)]
    unfold Lib.decodeN
    rw [if_neg (by omega), if_neg (by omega), if_neg (by omega), if_pos (by omega), if_pos (by omega)]
    refine Prod.ext ?_ ?_ <;> dsimp only <;> omega
theorem enc_len {c : Nat} (h1 : c ≤ 1114111) (h2 : c < 55296 ∨ 57344 ≤ c) : 1 ≤ (Utf8.encode (c : Int)).size ∧ (Utf8.encode (c : Int)).size ≤ 4 := by
  rw [Base.size_list]
  rcases enc_shape h1 h2 with ⟨g1, e⟩ | ⟨g1, g2, e⟩ | ⟨g1, g2, e⟩ | ⟨g1, e⟩ <;> rw [e] <;> simp
theorem enc_ok {c : Nat} (h1 : c ≤ 1114111) (h2 : c < 55296 ∨ 57344 ≤ c) : Utf8.decode (Utf8.encode (c : Int)) 0 = (c, (Utf8.encode (c : Int)).size) := by
  have h := Lib.decodeL_drop (Utf8.encode (c : Int)) 0
  rw [List.drop_zero, enc_decode h1 h2, ← Base.size_list] at h
  exact h.symm
theorem enc_good {c : Nat} (h1 : c ≤ 1114111) (h2 : c < 55296 ∨ 57344 ≤ c) : ¬ (Utf8.decode (Utf8.encode (c : Int)) 0 = (65533, 1)) := by
  rw [enc_ok h1 h2]
  intro h
  injection h with e1 e2
  subst e1
  revert e2
  decide
theorem bad_step (s : ByteArray) (f pos : Nat) (h : pos < s.size) : strings_ToValidUTF8.badFrom s (f + 1) pos = (decide (Utf8.decode s pos = (65533, 1)) || strings_ToValidUTF8.badFrom s f (pos + (Utf8.decode s pos).2)) := by
  refine Eq.trans (b := if pos < s.size then (decide (Utf8.decode s pos = (65533, 1)) || strings_ToValidUTF8.badFrom s f (pos + (Utf8.decode s pos).2)) else false) rfl ?_
  rw [if_pos h]
theorem bad_end (s : ByteArray) (f pos : Nat) (h : ¬ pos < s.size) : strings_ToValidUTF8.badFrom s f pos = false := by
  cases f with
  | zero => rfl
  | succ f =>
    refine Eq.trans (b := if pos < s.size then (decide (Utf8.decode s pos = (65533, 1)) || strings_ToValidUTF8.badFrom s f (pos + (Utf8.decode s pos).2)) else false) rfl ?_
    rw [if_neg h]
theorem from_zero (s : ByteArray) (pos : Nat) : Base.runesFrom s 0 pos = [] := rfl
theorem enc_runes {c : Nat} (h1 : c ≤ 1114111) (h2 : c < 55296 ∨ 57344 ≤ c) : Base.runesOf (Utf8.encode (c : Int)) = [(c : Int)] ∧ strings_ToValidUTF8.badW (Utf8.encode (c : Int)) = false := by
  have hl := enc_len h1 h2
  have hd := enc_ok h1 h2
  have hg := enc_good h1 h2
  obtain ⟨n, hn⟩ : ∃ n, (Utf8.encode (c : Int)).size = n + 1 := ⟨(Utf8.encode (c : Int)).size - 1, by omega⟩
  constructor
  · unfold Base.runesOf
    rw [hn, Base.runesFrom_step _ _ _ (by omega), hd, Base.runesFrom_end _ _ _ (by dsimp only; omega)]
  · unfold strings_ToValidUTF8.badW
    rw [hn, bad_step _ _ _ (by omega), decide_eq_false hg, hd, bad_end _ _ _ (by dsimp only; omega)]
    rfl
theorem right_bad (a b : ByteArray) : ∀ (f i : Nat), strings_ToValidUTF8.badFrom (a ++ b) f (a.size + i) = strings_ToValidUTF8.badFrom b f i := by
  intro f
  induction f with
  | zero => exact fun i => rfl
  | succ f ih =>
    intro i
    show (if a.size + i < (a ++ b).size then (decide (Utf8.decode (a ++ b) (a.size + i) = (65533, 1)) || strings_ToValidUTF8.badFrom (a ++ b) f (a.size + i + (Utf8.decode (a ++ b) (a.size + i)).2)) else false) = (if i < b.size then (decide (Utf8.decode b i = (65533, 1)) || strings_ToValidUTF8.badFrom b f (i + (Utf8.decode b i).2)) else false)
    rw [Run.decode_right, Nat.add_assoc, ih, ByteArray.size_append]
    by_cases h : i < b.size
    · rw [if_pos h, if_pos (by omega)]
    · rw [if_neg h, if_neg (by omega)]
theorem bad_enough (s : ByteArray) : ∀ (f pos : Nat), s.size - pos ≤ f → strings_ToValidUTF8.badFrom s (f + 1) pos = strings_ToValidUTF8.badFrom s f pos := by
  intro f
  induction f with
  | zero =>
    intro pos h
    show (if pos < s.size then _ else false) = false
    rw [if_neg (by omega)]
  | succ f ih =>
    intro pos h
    show (if pos < s.size then (decide (Utf8.decode s pos = (65533, 1)) || strings_ToValidUTF8.badFrom s (f + 1) (pos + (Utf8.decode s pos).2)) else false) = (if pos < s.size then (decide (Utf8.decode s pos = (65533, 1)) || strings_ToValidUTF8.badFrom s f (pos + (Utf8.decode s pos).2)) else false)
    by_cases hp : pos < s.size
    · have hw := Base.width_pos s pos hp
      rw [if_pos hp, if_pos hp, ih _ (by omega)]
    · rw [if_neg hp, if_neg hp]
theorem bad_fuel (s : ByteArray) : ∀ (f pos : Nat), s.size - pos ≤ f → strings_ToValidUTF8.badFrom s f pos = strings_ToValidUTF8.badFrom s (s.size - pos) pos := by
  intro f
  induction f with
  | zero =>
    intro pos h
    rw [show s.size - pos = 0 by omega]
  | succ f ih =>
    intro pos h
    rcases Nat.lt_or_ge (s.size - pos) (f + 1) with h1 | h1
    · rw [bad_enough s f pos (by omega), ih pos (by omega)]
    · rw [show f + 1 = s.size - pos by omega]
theorem left_bad (a b : ByteArray) (hbb : strings_ToValidUTF8.badW b = false) : ∀ (f pos : Nat), a.size - pos ≤ f → pos ≤ a.size → strings_ToValidUTF8.badFrom a f pos = false → ∀ F, (a ++ b).size - pos ≤ F → strings_ToValidUTF8.badFrom (a ++ b) F pos = false := by
  intro f
  induction f with
  | zero =>
    intro pos hf hp hb F hF
    have e : pos = a.size + 0 := by omega
    rw [ByteArray.size_append] at hF
    rw [e, right_bad, bad_fuel b F 0 (by omega)]
    exact hbb
  | succ f ih =>
    intro pos hf hp hb F hF
    rw [ByteArray.size_append] at hF
    by_cases h : pos < a.size
    · have h9 : (decide (Utf8.decode a pos = (65533, 1)) || strings_ToValidUTF8.badFrom a f (pos + (Utf8.decode a pos).2)) = false := by
        have h8 : (if pos < a.size then (decide (Utf8.decode a pos = (65533, 1)) || strings_ToValidUTF8.badFrom a f (pos + (Utf8.decode a pos).2)) else false) = false := hb
        rw [if_pos h] at h8
        exact h8
      rw [Bool.or_eq_false_iff] at h9
      have hv := of_decide_eq_false h9.1
      have hw := Base.width_pos a pos h
      have hw2 := strings_ToValidUTF8.width_le a pos h
      obtain ⟨F, rfl⟩ : ∃ F', F = F' + 1 := ⟨F - 1, by omega⟩
      show (if pos < (a ++ b).size then (decide (Utf8.decode (a ++ b) pos = (65533, 1)) || strings_ToValidUTF8.badFrom (a ++ b) F (pos + (Utf8.decode (a ++ b) pos).2)) else false) = false
      rw [if_pos (by rw [ByteArray.size_append]; omega), Run.decode_left a b pos h hv, h9.1, ih _ (by omega) hw2 h9.2 F (by rw [ByteArray.size_append]; omega)]
      rfl
    · have e : pos = a.size + 0 := by omega
      rw [e, right_bad, bad_fuel b F 0 (by omega)]
      exact hbb
theorem bad_app (a b : ByteArray) (ha : strings_ToValidUTF8.badW a = false) (hb : strings_ToValidUTF8.badW b = false) : strings_ToValidUTF8.badW (a ++ b) = false :=
  left_bad a b hb a.size 0 (by omega) (by omega) ha _ (by omega)
/-- A text whose code points are none of the sign for what is none is those code points' bytes. -/
theorem bytes_from (s : ByteArray) : ∀ (f pos : Nat) (acc : ByteArray), s.size - pos ≤ f → pos ≤ s.size → ¬ (65533 : Int) ∈ Base.runesFrom s f pos → (Base.runesFrom s f pos).foldl (fun r n => r ++ Utf8.encode n) acc = acc ++ s.extract pos s.size := by
  intro f
  induction f with
  | zero =>
    intro pos acc h hp hn
    refine Base.ext_data ?_
    rw [Run.app_list, Base.extract_rest, List.drop_eq_nil_of_le (by rw [← Base.size_list]; omega), List.append_nil]
    rfl
  | succ f ih =>
    intro pos acc h hp hn
    by_cases hlt : pos < s.size
    · have hw := Base.width_pos s pos hlt
      have hw2 := strings_ToValidUTF8.width_le s pos hlt
      rw [Base.runesFrom_step s f pos hlt] at hn ⊢
      have hr : ¬ (Utf8.decode s pos).1 = 65533 := fun h9 => hn (by rw [h9]; exact List.mem_cons_self)
      rw [List.foldl_cons, ih _ _ (by omega) hw2 (fun h9 => hn (List.mem_cons_of_mem _ h9))]
      refine Base.ext_data ?_
      rw [Run.app_list, Run.app_list, Run.app_list, Base.extract_rest, Base.extract_rest]
      have hne : s.data.toList.drop pos ≠ [] := fun h9 => by
        have := List.drop_eq_nil_iff.1 h9
        rw [← Base.size_list] at this
        omega
      have h1 := Lib.encode_decode (s.data.toList.drop pos) hne (fun h9 => hr (by rw [Lib.decodeL_drop] at h9; exact h9.1))
      rw [Lib.decodeL_drop] at h1
      obtain ⟨c, hc, hc1, hc2⟩ := vr_decode s pos
      have hcc : (Utf8.decode s pos).1 = c := by omega
      have h2 : (Utf8.encode ((Utf8.decode s pos).1 : Int)).data.toList = Lib.encodeRune ((Utf8.decode s pos).1 : Int) := by
        rw [hcc]
        unfold Lib.encodeRune
        rcases enc_shape hc1 hc2 with ⟨g1, e⟩ | ⟨g1, g2, e⟩ | ⟨g1, g2, e⟩ | ⟨g1, e⟩
        · rw [e, Lib.encodeRuneZ_one (by omega) (by omega)]
          rfl
        · rw [e, Lib.encodeRuneZ_two (by omega) (by omega)]
          rfl
        · rw [e, Lib.encodeRuneZ_three (by omega)]
          rfl
        · rw [e, Lib.encodeRuneZ_four (by omega) (by omega)]
          rfl
      rw [h2, h1, List.append_assoc, ← List.drop_drop, List.take_append_drop]
    · rw [Base.runesFrom_end s _ pos hlt]
      refine Base.ext_data ?_
      rw [Run.app_list, Base.extract_rest, List.drop_eq_nil_of_le (by rw [← Base.size_list]; omega), List.append_nil]
      rfl
theorem bytes_of (s : ByteArray) (h : ¬ (65533 : Int) ∈ Base.runesOf s) : runesBytes (Base.runesOf s) = s := by
  have h1 := bytes_from s s.size 0 ByteArray.empty (by omega) (by omega) h
  refine (show runesBytes (Base.runesOf s) = ByteArray.empty ++ s.extract 0 s.size from h1).trans ?_
  refine Base.ext_data ?_
  rw [Run.app_list, Base.extract_rest]
  rfl
end Utf
end Go.Proofs.YtgnehcgaplnfkaaDoor.PAll
