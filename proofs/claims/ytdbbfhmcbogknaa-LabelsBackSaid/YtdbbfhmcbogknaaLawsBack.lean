/- Plain law: LabelsBack. No program runs in it. -/
import Derived.Test.YtdbbfhmcbogknaaLawsEnc
import Derived.Test.YtdbbfhmcbogknaaLawsPar
import Derived.Test.YtdbbfhmcbogknaaPAllx26
import Derived.Test.YtdbbfhmcbogknaaPAllx51
namespace Go.Proofs.Ytdbbfhmcbogknaa.Laws
open Go.RowKit Go.Proofs.Ytdbbfhmcbogknaa.PAll Go.Proofs.YtdbbfhmcbogknaaW.PrintWords Go.Proofs.YtdbbfhmcbogknaaW.PrintLast
set_option linter.unusedVariables false
set_option linter.unusedSimpArgs false

theorem name_no61 {s : ByteArray} (h : Base.nameB s = true) : (61 : UInt8) ∉ s.data.toList := by
  intro hm
  simp only [Base.nameB, Bool.and_eq_true] at h
  have h4 := h.2
  rw [all_bytes] at h4
  have h5 := List.all_eq_true.1 h4 61 hm
  exact absurd h5 (by decide +kernel)
theorem parse_step (n : Nat) (x : S41) (more : List UInt8) (acc : List S41) (hx : Base.nameB x.f0 = true) :
    parseL (n + 1) (pieceL x ++ more) acc = if more = [125] ∧ canB (acc ++ [x]) = true then some (acc ++ [x]) else onMore more fun m => parseL n m (acc ++ [x]) := by
  have h1 : cutL 61 (pieceL x ++ more) = some (x.f0.data.toList, Base.quoteL x.f1.data.toList ++ more) := (cutL_some _ _ _ _).2 ⟨by simp [pieceL], name_no61 hx⟩
  have h2 : unqT (Base.quoteL x.f1.data.toList ++ more) = some (x.f1.data.toList, more) := by
    simp only [Base.quoteL, List.cons_append, List.append_assoc, unqT, if_true, List.nil_append]
    rw [unq_quote_gen]
    rfl
  have h3 : (⟨Base.ofL x.f0.data.toList, Base.ofL x.f1.data.toList⟩ : S41) = x := by rw [Base.ofL_of, Base.ofL_of]
  simp only [parseL, h1, h2, h3]
theorem parse_all : ∀ (r : List S41) (x : S41) (acc : List S41) (n : Nat), (x :: r).length ≤ n → canB (acc ++ x :: r) = true → parseL n (pieceL x ++ (Lib.joinTail [44] (r.map pieceL) ++ [125])) acc = some (acc ++ x :: r)
  | [], x, acc, n, hn, hc => by
    obtain ⟨m, rfl⟩ : ∃ m, n = m + 1 := ⟨n - 1, by simp at hn; omega⟩
    rw [parse_step _ _ _ _ (canB_mem hc x (by simp)).1]
    rw [if_pos ⟨by simp [Lib.joinTail], hc⟩]
  | y :: r, x, acc, n, hn, hc => by
    obtain ⟨m, rfl⟩ : ∃ m, n = m + 1 := ⟨n - 1, by simp at hn; omega⟩
    rw [parse_step _ _ _ _ (canB_mem hc x (by simp)).1]
    have e : Lib.joinTail [44] ((y :: r).map pieceL) ++ [125] = 44 :: (pieceL y ++ (Lib.joinTail [44] (r.map pieceL) ++ [125])) := by simp [Lib.joinTail]
    rw [e, if_neg (by simp)]
    simp only [onMore, if_true]
    rw [parse_all r y (acc ++ [x]) m (by simp at hn ⊢; omega) (by rw [List.append_assoc]; exact hc)]
    simp
theorem parse_text (l : List S41) (hc : canB l = true) : parse (Base.ofL (textL l)) = (l, 0) := by
  have hc2 := hc
  simp only [canB, Bool.and_eq_true, decide_eq_true_eq] at hc2
  cases l with
  | nil => simp at hc2
  | cons x r =>
    unfold parse
    rw [Base.ofL_data]
    simp only [textL, if_true, List.map_cons]
    rw [Lib.join_cons, List.append_assoc, parse_all r x [] 8 hc2.1.2 hc]
    rfl
theorem textL_size (l : List S41) (hc : canB l = true) : (Base.ofL (textL l)).size ≤ 140737488351232 := by
  have hc2 := hc
  simp only [canB, Bool.and_eq_true, decide_eq_true_eq] at hc2
  have h1 := join_le 107 (l.map pieceL) (fun y hy => by
    obtain ⟨x, hx, rfl⟩ := List.mem_map.1 hy
    have := canB_mem hc x hx
    exact piece_le this.1 this.2)
  rw [Base.size_list, Base.ofL_data]
  simp only [textL, List.length_cons, List.length_append, List.length_nil]
  rw [List.length_map] at h1
  have : l.length * (107 + 1) ≤ 8 * 108 := Nat.mul_le_mul hc2.1.2 (Nat.le_refl _)
  omega
theorem back_row (l : List S41) (r : List Int) (hl : l.length ≤ maxLen ∧ ∀ y ∈ l, y.f0.size ≤ maxLen ∧ y.f1.size ≤ maxLen) (hr : r.length ≤ 140737488351232 ∧ ∀ y ∈ r, 0 ≤ y ∧ y < 256) :
    Ev (fun k => dryrotlaw07_LabelsBack.f k l r) true := by
  obtain ⟨K1, h1⟩ := text_ev l
  obtain ⟨K2, h2⟩ := encode_ev l
  obtain ⟨K3, h3⟩ := rcan_ev l hl.2
  obtain ⟨K4, h4⟩ := awake_ev
  cases hc : canB l with
  | false =>
    rw [hc] at h1 h2 h3
    refine ⟨max K1 (max K2 (max K3 K4)), fun k hk => ?_⟩
    have e1 : labels_Text.f k l = _ := h1 k (by omega)
    have e2 : labels_Encode.f k l = _ := h2 k (by omega)
    have e3 : dryrotref07_Can.f k l = _ := h3 k (by omega)
    have e4 : dryrotlaw07_awake.f k = _ := h4 k (by omega)
    simp only [dryrotlaw07_LabelsBack.f, e1, e2, e3, e4, Option.bind_some]
    simp [ByteArray.toList_eq]
  | true =>
    rw [hc] at h1 h2 h3
    obtain ⟨he, he1⟩ := enc_le hc
    obtain ⟨K5, h5⟩ := parse_ev (Base.ofL (textL l)) (textL_size l hc)
    obtain ⟨K6, h6⟩ := decode_back l hc r hr.1 hr.2
    obtain ⟨K7, h7⟩ := same_ev l l (Nat.le_trans hl.1 (by decide))
    obtain ⟨K8, h8⟩ := eqb_ev r r (by omega)
    refine ⟨max K1 (max K2 (max K3 (max K5 (max K6 (max K7 K8))))), fun k hk => ?_⟩
    have e1 : labels_Text.f k l = _ := h1 k (by omega)
    have e2 : labels_Encode.f k l = _ := h2 k (by omega)
    have e3 : dryrotref07_Can.f k l = _ := h3 k (by omega)
    have e5 : labels_Parse.f k (Base.ofL (textL l)) = _ := h5 k (by omega)
    have e6 : labels_Decode.f k (labels_Encode.enc l ++ r) = _ := h6 k (by omega)
    have e7 : api_Label.f k l l = _ := h7 k (by omega)
    have e8 : slices_Equal_byte_byte.f k r r = _ := h8 k (by omega)
    rw [parse_text l hc] at e5
    have e9 : slices_Clone_byte_byte.f (labels_Encode.enc l) = some (labels_Encode.enc l) := by
      unfold slices_Clone_byte_byte.f
      rw [if_pos (by omega)]
    simp only [dryrotlaw07_LabelsBack.f, e1, e2, e3, Option.bind_some, if_true, e5, e9]
    rw [if_pos (by omega)]
    simp only [e6, e7, e8, Option.bind_some, if_true, eqL_self, decide_true]
end Go.Proofs.Ytdbbfhmcbogknaa.Laws
