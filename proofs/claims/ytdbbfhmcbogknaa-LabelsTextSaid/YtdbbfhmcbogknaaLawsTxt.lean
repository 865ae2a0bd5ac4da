/- Plain law: LabelsText. No program runs in it. -/
import Derived.Test.YtdbbfhmcbogknaaLawsPar
import Derived.Test.YtdbbfhmcbogknaaLawsEq
import Derived.Test.YtdbbfhmcbogknaaPAllx43
import Derived.Test.YtdbbfhmcbogknaaPAllx50
namespace Go.Proofs.Ytdbbfhmcbogknaa.Laws
open Go.RowKit Go.Proofs.Ytdbbfhmcbogknaa.PAll Go.Proofs.YtdbbfhmcbogknaaW.PrintWords Go.Proofs.YtdbbfhmcbogknaaW.PrintLast
set_option linter.unusedVariables false
set_option linter.unusedSimpArgs false

def tailOf (i : Nat) (r : List (List UInt8)) : List UInt8 := if i = 0 then Lib.join r [44] else Lib.joinTail [44] r
theorem rtext_l0 (l : List S41) (hl : l.length ≤ 8) (hok : ∀ x ∈ l, Base.nameB x.f0 = true ∧ Base.valueB x.f1 = true) : ∀ (r : List S41) (i : Nat) (acc : ByteArray), l.drop i = r → i ≤ l.length → acc.size ≤ 108 * i →
    Ev (fun k => dryrotref07_Text.l0 k acc l (l.length : Int) (i : Int)) (Base.ofL (123 :: (acc.data.toList ++ tailOf i (r.map pieceL)) ++ [125]), 0) := by
  intro r
  induction r with
  | nil =>
    intro i acc h hil ha
    have hi : l.length ≤ i := List.drop_eq_nil_iff.1 h
    have e0 : tailOf i (([] : List S41).map pieceL) = [] := by
      unfold tailOf
      split
      · rfl
      · rfl
    rw [e0]
    have e : Base.ofL (123 :: (acc.data.toList ++ []) ++ [125]) = ((⟨#[123]⟩ : ByteArray) ++ acc) ++ (⟨#[125]⟩ : ByteArray) := Base.ext_data (by
      rw [Base.ofL_data, Base.append_data, Base.append_data]
      simp)
    rw [e]
    refine Ev.step (f := fun _ => some (((⟨#[123]⟩ : ByteArray) ++ acc) ++ (⟨#[125]⟩ : ByteArray), (0 : Int))) (fun k => ?_) (Ev.now _)
    have hsz : ((⟨#[123]⟩ : ByteArray) ++ acc).size = 1 + acc.size := by
      rw [Base.size_list, Base.append_data, List.length_append, ← Base.size_list acc]
      rfl
    simp only [dryrotref07_Text.l0]
    rw [if_neg (by omega), if_pos (by omega), if_pos (by rw [hsz]; omega)]
  | cons x r ih =>
    intro i acc h hil ha
    obtain ⟨hx, hi, hr⟩ := rd_drop l i x r h
    have hw : wrap64 ((i : Int) + 1) = ((i + 1 : Nat) : Int) := wrap_up i (by omega)
    have hmem : x ∈ l := List.mem_of_mem_drop (by rw [h]; simp)
    have hn := nameB_size (hok x hmem).1
    have hv := valueB_size (hok x hmem).2
    have hq := quoteS_size x.f1
    have hqe := rquote_ev x.f1 (by omega)
    have hps : (pieceS x).size ≤ 107 := by
      rw [Base.size_list, pieceS_data]
      exact piece_le (hok x hmem).1 (hok x hmem).2
    have hsz : (x.f0 ++ (⟨#[61]⟩ : ByteArray)).size = x.f0.size + 1 := by
      rw [Base.size_list, Base.append_data, List.length_append, ← Base.size_list]
      rfl
    by_cases h0 : i = 0
    · subst h0
      have ih2 := ih 1 (acc ++ pieceS x) hr (by omega) (by
        rw [Base.size_list, Base.append_data, List.length_append, ← Base.size_list, ← Base.size_list]
        omega)
      have e : 123 :: (acc.data.toList ++ tailOf 0 ((x :: r).map pieceL)) ++ [125] = 123 :: ((acc ++ pieceS x).data.toList ++ tailOf 1 (r.map pieceL)) ++ [125] := by
        rw [Base.append_data, pieceS_data]
        simp only [tailOf, List.map_cons, if_true]
        rw [Lib.join_cons, if_neg (by omega)]
        simp
      rw [e]
      refine Ev.step (f := fun k => (dryrotref07_Quote.f k x.f1).bind fun t234 => (if (x.f0 ++ (⟨#[61]⟩ : ByteArray)).size + t234.size ≤ 9223372036854775807 then (if acc.size + ((x.f0 ++ (⟨#[61]⟩ : ByteArray)) ++ t234).size ≤ 9223372036854775807 then (dryrotref07_Text.l0 k (acc ++ ((x.f0 ++ (⟨#[61]⟩ : ByteArray)) ++ t234)) l (l.length : Int) (wrap64 (((0 : Nat) : Int) + 1))) else (none)) else (none))) (fun k => ?_) (Ev.bind hqe ?_)
      · simp only [dryrotref07_Text.l0]
        rw [if_pos (by omega), if_pos (by omega), if_pos (by omega), hx, if_neg (by omega), if_pos (by omega)]
      · refine Ev.congr (fun k => ?_) ih2
        rw [hw]
        show (if (x.f0 ++ (⟨#[61]⟩ : ByteArray)).size + (Base.quoteS x.f1).size ≤ 9223372036854775807 then (if acc.size + (pieceS x).size ≤ 9223372036854775807 then _ else none) else none) = _
        rw [if_pos (by rw [hsz]; omega), if_pos (by omega)]
        rfl
    · have ih2 := ih (i + 1) ((acc ++ (⟨#[44]⟩ : ByteArray)) ++ pieceS x) hr (by omega) (by
        rw [Base.size_list, Base.append_data, Base.append_data, List.length_append, List.length_append, ← Base.size_list, ← Base.size_list, ← Base.size_list]
        have : (⟨#[44]⟩ : ByteArray).size = 1 := rfl
        omega)
      have hsz2 : (acc ++ (⟨#[44]⟩ : ByteArray)).size = acc.size + 1 := by
        rw [Base.size_list, Base.append_data, List.length_append, ← Base.size_list]
        rfl
      have e : 123 :: (acc.data.toList ++ tailOf i ((x :: r).map pieceL)) ++ [125] = 123 :: (((acc ++ (⟨#[44]⟩ : ByteArray)) ++ pieceS x).data.toList ++ tailOf (i + 1) (r.map pieceL)) ++ [125] := by
        rw [Base.append_data, Base.append_data, pieceS_data]
        simp only [tailOf, List.map_cons]
        rw [if_neg h0, if_neg (by omega)]
        simp [Lib.joinTail]
      rw [e]
      refine Ev.step (f := fun k => (dryrotref07_Quote.f k x.f1).bind fun t233 => (if (x.f0 ++ (⟨#[61]⟩ : ByteArray)).size + t233.size ≤ 9223372036854775807 then (if (acc ++ (⟨#[44]⟩ : ByteArray)).size + ((x.f0 ++ (⟨#[61]⟩ : ByteArray)) ++ t233).size ≤ 9223372036854775807 then (dryrotref07_Text.l0 k ((acc ++ (⟨#[44]⟩ : ByteArray)) ++ ((x.f0 ++ (⟨#[61]⟩ : ByteArray)) ++ t233)) l (l.length : Int) (wrap64 ((i : Int) + 1))) else (none)) else (none))) (fun k => ?_) (Ev.bind hqe ?_)
      · simp only [dryrotref07_Text.l0]
        rw [if_pos (by omega), if_pos (by omega), if_pos (by omega), hx, if_pos (by omega), if_pos (by omega), if_pos (by omega)]
      · refine Ev.congr (fun k => ?_) ih2
        rw [hw]
        show (if (x.f0 ++ (⟨#[61]⟩ : ByteArray)).size + (Base.quoteS x.f1).size ≤ 9223372036854775807 then (if (acc ++ (⟨#[44]⟩ : ByteArray)).size + (pieceS x).size ≤ 9223372036854775807 then _ else none) else none) = _
        rw [if_pos (by rw [hsz]; omega), if_pos (by rw [hsz2]; omega)]
        rfl
theorem rtext_ev (l : List S41) (hs : ∀ y ∈ l, y.f0.size ≤ maxLen ∧ y.f1.size ≤ maxLen) : Ev (fun k => dryrotref07_Text.f k l) (if canB l = true then (Base.ofL (textL l), 0) else ((⟨#[]⟩ : ByteArray), 1)) := by
  refine Ev.bind (rcan_ev l hs) ?_
  cases hc : canB l with
  | false => exact Ev.congr (fun k => by simp) (Ev.now _)
  | true =>
    have h := hc
    simp only [canB, Bool.and_eq_true, decide_eq_true_eq] at h
    have h2 := rtext_l0 l h.1.2 (okFrom_mem l [] h.2) l 0 ⟨#[]⟩ rfl (by omega) (by decide)
    have e : 123 :: ((⟨#[]⟩ : ByteArray).data.toList ++ tailOf 0 (l.map pieceL)) ++ [125] = textL l := rfl
    rw [e] at h2
    exact Ev.congr (fun k => by rw [if_pos rfl]; rfl) h2
theorem text_row (l : List S41) (s : ByteArray) (hl : l.length ≤ maxLen ∧ ∀ y ∈ l, y.f0.size ≤ maxLen ∧ y.f1.size ≤ maxLen) (hs : s.size ≤ 140737488351232) :
    Ev (fun k => dryrotlaw07_LabelsText.f k l s) true := by
  obtain ⟨K1, h1⟩ := text_ev l
  obtain ⟨K2, h2⟩ := rtext_ev l hl.2
  obtain ⟨K3, h3⟩ := parse_ev s hs
  obtain ⟨K4, h4⟩ := rparse_ev s hs
  obtain ⟨K5, h5⟩ := awake_ev
  obtain ⟨K6, h6⟩ := same_ev (parse s).1 (parse s).1 (parse_len s)
  refine ⟨max K1 (max K2 (max K3 (max K4 (max K5 K6)))), fun k hk => ?_⟩
  have e1 : labels_Text.f k l = _ := h1 k (by omega)
  have e2 : dryrotref07_Text.f k l = _ := h2 k (by omega)
  have e3 : labels_Parse.f k s = _ := h3 k (by omega)
  have e4 : dryrotref07_Parse.f k s = _ := h4 k (by omega)
  have e5 : dryrotlaw07_awake.f k = _ := h5 k (by omega)
  have e6 : api_Label.f k (parse s).1 (parse s).1 = _ := h6 k (by omega)
  simp only [dryrotlaw07_LabelsText.f, e1, e2, e3, e4, e5, e6, Option.bind_some, eqL_self, if_true]
end Go.Proofs.Ytdbbfhmcbogknaa.Laws
