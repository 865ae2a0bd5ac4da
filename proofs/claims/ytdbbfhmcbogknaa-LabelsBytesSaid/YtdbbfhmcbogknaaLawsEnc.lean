/- Plain laws: labels as bytes and bytes as labels. No program runs in them. -/
import Derived.Test.YtdbbfhmcbogknaaLawsEq
import Derived.Test.YtdbbfhmcbogknaaLawsNam
import Derived.Test.YtdbbfhmcbogknaaPAllx19
import Derived.Test.YtdbbfhmcbogknaaPAllx24
import Derived.Test.YtdbbfhmcbogknaaPAllx30
namespace Go.Proofs.Ytdbbfhmcbogknaa.Laws
open Go.RowKit Go.Proofs.Ytdbbfhmcbogknaa.PAll Go.Proofs.YtdbbfhmcbogknaaW.PrintWords Go.Proofs.YtdbbfhmcbogknaaW.PrintLast
set_option linter.unusedVariables false
set_option linter.unusedSimpArgs false

theorem enc_size : ∀ (l : List S41), (∀ x ∈ l, Base.nameB x.f0 = true ∧ Base.valueB x.f1 = true) → (l.flatMap labels_Encode.pieces).length ≤ 66 * l.length
  | [], _ => by simp
  | x :: l, h => by
    have ih := enc_size l (fun y hy => h y (List.mem_cons_of_mem _ hy))
    have h0 := nameB_size (h x (List.mem_cons_self ..)).1
    have h1 := valueB_size (h x (List.mem_cons_self ..)).2
    simp only [List.flatMap_cons, List.length_append, labels_Encode.pieces, labels_Encode.piece, List.length_cons, bytesOf_length]
    omega
theorem enc_le {l : List S41} (h : canB l = true) : (labels_Encode.enc l).length ≤ 529 ∧ 1 ≤ (labels_Encode.enc l).length := by
  simp only [canB, Bool.and_eq_true, decide_eq_true_eq] at h
  have := enc_size l (okFrom_mem l [] h.2)
  simp only [labels_Encode.enc, List.length_cons]
  omega
theorem encode_ev (l : List S41) : Ev (fun k => labels_Encode.f k l) (if canB l = true then (labels_Encode.enc l, 0) else ([], 1)) := by
  refine Ev.bind (can_ev l) ?_
  cases hc : canB l with
  | false => exact Ev.congr (fun k => by simp) (Ev.now _)
  | true =>
    have := (enc_le hc).1
    refine Ev.congr (fun k => ?_) (Ev.now _)
    rw [if_pos rfl, if_pos (by omega), if_pos rfl]
theorem bytesOf_range (s : ByteArray) : ∀ y ∈ bytesOf s, 0 ≤ y ∧ y < 256 := by
  intro y hy
  simp only [bytesOf, List.mem_map] at hy
  obtain ⟨c, _, rfl⟩ := hy
  have := c.toNat_lt
  omega
theorem piece_range (s : ByteArray) : ∀ y ∈ labels_Encode.piece s, 0 ≤ y ∧ y < 256 := by
  intro y hy
  simp only [labels_Encode.piece, List.mem_cons] at hy
  rcases hy with rfl | hy
  · omega
  · exact bytesOf_range s y hy
theorem enc_range (l : List S41) : ∀ y ∈ labels_Encode.enc l, 0 ≤ y ∧ y < 256 := by
  intro y hy
  simp only [labels_Encode.enc, List.mem_cons, List.mem_flatMap, labels_Encode.pieces, List.mem_append] at hy
  rcases hy with rfl | ⟨x, _, h | h⟩
  · omega
  · exact piece_range _ y h
  · exact piece_range _ y h
theorem str_bytes (s : ByteArray) : strOfNums (bytesOf s) = s := Base.ext_data (by
  rw [strOfNums_data, bytesOf, List.map_map]
  conv => rhs; rw [← List.map_id s.data.toList]
  apply List.map_congr_left
  intro c _
  simp)
theorem one_piece (s : ByteArray) (r : List Int) (h : s.size < 256) : labels_Decode.one (labels_Encode.piece s ++ r) = some (s, r) := by
  have e : (s.size : Int) % 256 = (s.size : Nat) := by omega
  rw [labels_Encode.piece, List.cons_append, e, labels_Decode.one_cons (by rw [List.length_append, bytesOf_length]; omega)]
  rw [← bytesOf_length s, List.take_left', List.drop_left', str_bytes]
  · rfl
  · rfl
theorem one_short (s : ByteArray) (r : List Int) (h : s.size < 256) (m : Nat) (hm : m < (labels_Encode.piece s).length) : labels_Decode.one ((labels_Encode.piece s ++ r).take m) = none := by
  have e : (s.size : Int) % 256 = (s.size : Nat) := by omega
  rw [labels_Encode.piece, List.cons_append, e]
  cases m with
  | zero => rfl
  | succ m =>
    simp only [labels_Encode.piece, List.length_cons, bytesOf_length] at hm
    simp only [List.take_succ_cons, labels_Decode.one]
    rw [if_neg (by simp only [List.length_take, List.length_append, bytesOf_length]; omega)]
theorem all_enc : ∀ (l : List S41) (r : List Int), (∀ x ∈ l, Base.nameB x.f0 = true ∧ Base.valueB x.f1 = true) → labels_Decode.all l.length (l.flatMap labels_Encode.pieces ++ r) = some (l, r)
  | [], r, _ => rfl
  | x :: l, r, h => by
    have h0 := nameB_size (h x (List.mem_cons_self ..)).1
    have h1 := valueB_size (h x (List.mem_cons_self ..)).2
    have ih := all_enc l r (fun y hy => h y (List.mem_cons_of_mem _ hy))
    simp only [List.length_cons, List.flatMap_cons, labels_Decode.all, labels_Encode.pieces, List.append_assoc]
    rw [one_piece _ _ (by omega)]
    simp only [Option.bind_some]
    rw [one_piece _ _ (by omega)]
    simp only [Option.bind_some]
    rw [ih]
    rfl
theorem all_short : ∀ (l : List S41) (m : Nat), (∀ x ∈ l, Base.nameB x.f0 = true ∧ Base.valueB x.f1 = true) → m < (l.flatMap labels_Encode.pieces).length → labels_Decode.all l.length ((l.flatMap labels_Encode.pieces).take m) = none
  | [], m, _, hm => by simp at hm
  | x :: l, m, h, hm => by
    have h0 := nameB_size (h x (List.mem_cons_self ..)).1
    have h1 := valueB_size (h x (List.mem_cons_self ..)).2
    rw [List.flatMap_cons, List.length_append] at hm
    simp only [List.length_cons, List.flatMap_cons, labels_Decode.all]
    rw [labels_Encode.pieces, List.append_assoc]
    rw [labels_Encode.pieces, List.length_append] at hm
    by_cases ha : m < (labels_Encode.piece x.f0).length
    · rw [one_short _ _ (by omega) _ ha]
      rfl
    · rw [List.take_append, List.take_of_length_le (by omega), one_piece _ _ (by omega)]
      simp only [Option.bind_some]
      by_cases hb : m - (labels_Encode.piece x.f0).length < (labels_Encode.piece x.f1).length
      · rw [one_short _ _ (by omega) _ hb]
        rfl
      · rw [List.take_append, List.take_of_length_le (l := labels_Encode.piece x.f1) (by omega), one_piece _ _ (by omega)]
        simp only [Option.bind_some]
        rw [all_short l _ (fun y hy => h y (List.mem_cons_of_mem _ hy)) (by omega)]
        rfl
theorem okB_of {b : List Int} (h1 : b.length ≤ 140737488355328) (h2 : ∀ y ∈ b, 0 ≤ y ∧ y < 256) : labels_Decode.okB b = true := by
  simp only [labels_Decode.okB, Bool.and_eq_true, decide_eq_true_eq, List.all_eq_true]
  exact ⟨h1, h2⟩
theorem decode_back (l : List S41) (hc : canB l = true) (r : List Int) (hl : r.length ≤ 140737488351232) (hr : ∀ y ∈ r, 0 ≤ y ∧ y < 256) : Ev (fun k => labels_Decode.f k (labels_Encode.enc l ++ r)) (l, r, 0) := by
  have hc2 := hc
  simp only [canB, Bool.and_eq_true, decide_eq_true_eq] at hc2
  have he := (enc_le hc).1
  have hb := okB_of (b := labels_Encode.enc l ++ r) (by rw [List.length_append]; omega) (fun y hy => by
    rcases List.mem_append.1 hy with h | h
    · exact enc_range l y h
    · exact hr y h)
  refine Ev.congr (f := fun k => (labels_Can.f k l).bind fun b => if b = true then some (l, r, 0) else some ([], [], 5)) (fun k => ?_) (Ev.bind (can_ev l) ?_)
  · unfold labels_Decode.f
    rw [if_pos hb]
    have e : (((l.length : Int) % 256)).toNat = l.length := by omega
    simp only [labels_Encode.enc, List.cons_append, e]
    rw [all_enc l r (okFrom_mem l [] hc2.2)]
  · rw [hc]
    exact Ev.congr (fun k => by rw [if_pos rfl]) (Ev.now _)
theorem decode_short (l : List S41) (hc : canB l = true) (m : Nat) (hm : m < (labels_Encode.enc l).length) : Ev (fun k => labels_Decode.f k ((labels_Encode.enc l).take m)) ([], [], 3) := by
  have hc2 := hc
  simp only [canB, Bool.and_eq_true, decide_eq_true_eq] at hc2
  have he := (enc_le hc).1
  have hb := okB_of (b := (labels_Encode.enc l).take m) (by rw [List.length_take]; omega) (fun y hy => enc_range l y (List.mem_of_mem_take hy))
  refine Ev.congr (f := fun k => some ([], [], 3)) (fun k => ?_) (Ev.now _)
  unfold labels_Decode.f
  rw [if_pos hb]
  cases m with
  | zero => rfl
  | succ m =>
    have e : (((l.length : Int) % 256)).toNat = l.length := by omega
    simp only [labels_Encode.enc, List.take_succ_cons, e]
    rw [all_short l m (okFrom_mem l [] hc2.2) (by simp only [labels_Encode.enc, List.length_cons] at hm; omega)]
theorem rd_drop_int (l : List Int) (i : Nat) (x : Int) (r : List Int) (h : l.drop i = x :: r) : rd l (i : Int) = x ∧ i < l.length ∧ l.drop (i + 1) = r := by
  have hi : i < l.length := by
    rcases Nat.lt_or_ge i l.length with h1 | h1
    · exact h1
    · rw [List.drop_eq_nil_of_le h1] at h
      cases h
  rw [List.drop_eq_getElem_cons hi] at h
  obtain ⟨h1, h2⟩ := List.cons.inj h
  refine ⟨?_, hi, h2⟩
  simp [rd, List.getD_eq_getElem?_getD, hi, h1]
theorem eqb_l0 (a b : List Int) (ha : a.length ≤ 9223372036854775807) (hab : a.length = b.length) : ∀ (r q : List Int) (i : Nat), a.drop i = r → b.drop i = q →
    Ev (fun k => slices_Equal_byte_byte.l0 k a b (a.length : Int) (i : Int)) (decide (r = q)) := by
  intro r
  induction r with
  | nil =>
    intro q i h1 h2
    have hi : a.length ≤ i := List.drop_eq_nil_iff.1 h1
    have hq : q = [] := by rw [← h2]; exact List.drop_eq_nil_of_le (by omega)
    subst hq
    refine Ev.step (f := fun _ => some true) (fun k => ?_) (by simpa using Ev.now true)
    simp only [slices_Equal_byte_byte.l0]
    rw [if_neg (by omega)]
  | cons x r ih =>
    intro q i h1 h2
    obtain ⟨hx, hi, hr⟩ := rd_drop_int a i x r h1
    cases q with
    | nil =>
      have := List.drop_eq_nil_iff.1 h2
      omega
    | cons y q =>
      obtain ⟨hy, hj, hq⟩ := rd_drop_int b i y q h2
      by_cases he : x = y
      · refine Ev.step (f := fun k => slices_Equal_byte_byte.l0 k a b (a.length : Int) ((i + 1 : Nat) : Int)) (fun k => ?_) (by simpa [he] using ih q (i + 1) hr hq)
        simp only [slices_Equal_byte_byte.l0]
        rw [if_pos (by omega), if_pos (by omega), if_pos (by omega), if_pos (by omega), hx, hy, if_pos he, wrap_up i (by omega)]
      · refine Ev.step (f := fun _ => some false) (fun k => ?_) (by simpa [he] using Ev.now false)
        simp only [slices_Equal_byte_byte.l0]
        rw [if_pos (by omega), if_pos (by omega), if_pos (by omega), if_pos (by omega), hx, hy, if_neg he]
theorem eqb_ev (a b : List Int) (ha : a.length ≤ 9223372036854775807) : Ev (fun k => slices_Equal_byte_byte.f k a b) (decide (a = b)) := by
  by_cases hab : a.length = b.length
  · refine Ev.congr (fun k => ?_) (eqb_l0 a b ha hab a b 0 rfl rfl)
    show slices_Equal_byte_byte.f k a b = _
    unfold slices_Equal_byte_byte.f
    rw [if_pos (by omega)]
    rfl
  · have e : decide (a = b) = false := decide_eq_false (fun h => hab (by rw [h]))
    rw [e]
    refine Ev.congr (fun k => ?_) (Ev.now _)
    show slices_Equal_byte_byte.f k a b = _
    unfold slices_Equal_byte_byte.f
    rw [if_neg (by omega)]
end Go.Proofs.Ytdbbfhmcbogknaa.Laws
