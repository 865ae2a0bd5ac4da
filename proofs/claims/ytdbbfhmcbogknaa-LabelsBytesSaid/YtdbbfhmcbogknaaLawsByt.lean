/- Plain law: LabelsBytes. No program runs in it. -/
import Derived.Test.YtdbbfhmcbogknaaLawsEnc
import Derived.Test.YtdbbfhmcbogknaaPAllx27
import Derived.Test.YtdbbfhmcbogknaaPAllx29
import Derived.Test.YtdbbfhmcbogknaaPAllx26
import Derived.Test.YtdbbfhmcbogknaaPAllx32
namespace Go.Proofs.Ytdbbfhmcbogknaa.Laws
open Go.RowKit Go.Proofs.Ytdbbfhmcbogknaa.PAll Go.Proofs.YtdbbfhmcbogknaaW.PrintWords Go.Proofs.YtdbbfhmcbogknaaW.PrintLast
set_option linter.unusedVariables false
set_option linter.unusedSimpArgs false

theorem renc_is (l : List S41) : dryrotref07_Encode.enc l = labels_Encode.enc l := rfl
theorem rone_is : ∀ b : List Int, dryrotref07_Piece.one b = labels_Decode.one b
  | [] => rfl
  | _ :: _ => rfl
theorem rall_is : ∀ (n : Nat) (b : List Int), dryrotref07_Decode.all n b = labels_Decode.all n b
  | 0, _ => rfl
  | n + 1, b => by
    simp only [dryrotref07_Decode.all, labels_Decode.all, rone_is, rall_is n]
theorem one_sizes {b q : List Int} {s : ByteArray} (h : labels_Decode.one b = some (s, q)) : s.size ≤ b.length ∧ q.length ≤ b.length := by
  cases b with
  | nil => cases h
  | cons c r =>
    simp only [labels_Decode.one] at h
    split at h
    · obtain ⟨h1, h2⟩ := Prod.mk.inj (Option.some.inj h)
      subst h1 h2
      rw [strOfNums_size, List.length_take, List.length_drop, List.length_cons]
      omega
    · cases h
theorem all_sizes : ∀ (n : Nat) (b : List Int) (l : List S41) (q : List Int), labels_Decode.all n b = some (l, q) → l.length = n ∧ q.length ≤ b.length ∧ ∀ y ∈ l, y.f0.size ≤ b.length ∧ y.f1.size ≤ b.length
  | 0, b, l, q, h => by
    obtain ⟨h1, h2⟩ := Prod.mk.inj (Option.some.inj h)
    subst h1 h2
    exact ⟨rfl, Nat.le_refl _, fun y hy => by cases hy⟩
  | n + 1, b, l, q, h => by
    obtain ⟨⟨s0, b1⟩, h1, h⟩ := Option.bind_eq_some_iff.1 h
    obtain ⟨⟨s1, b2⟩, h2, h⟩ := Option.bind_eq_some_iff.1 h
    obtain ⟨⟨l2, q2⟩, h3, h⟩ := Option.map_eq_some_iff.1 h
    obtain ⟨e1, e2⟩ := Prod.mk.inj h
    subst e1 e2
    obtain ⟨i1, i2, i3⟩ := all_sizes n b2 l2 q2 h3
    have j1 := one_sizes h1
    have j2 := one_sizes h2
    simp only at j2
    refine ⟨by simp [i1], by show q2.length ≤ b.length; omega, fun y hy => ?_⟩
    rcases List.mem_cons.1 hy with rfl | hy
    · simp only
      omega
    · have := i3 y hy
      omega
theorem decode_both (b : List Int) (hl : b.length ≤ 140737488351232) (hb : ∀ y ∈ b, 0 ≤ y ∧ y < 256) : ∃ v : List S41 × List Int × Int, v.1.length ≤ 255 ∧ v.2.1.length ≤ b.length ∧ Ev (fun k => labels_Decode.f k b) v ∧ Ev (fun k => dryrotref07_Decode.f k b) v := by
  have ho := okB_of (b := b) (by omega) hb
  have ho2 : dryrotref07_Decode.okB b = true := ho
  cases b with
  | nil =>
    refine ⟨([], [], 3), by simp, by simp, ?_, ?_⟩
    · exact Ev.congr (fun k => by unfold labels_Decode.f; rw [if_pos ho]) (Ev.now _)
    · exact Ev.congr (fun k => by unfold dryrotref07_Decode.f; rw [if_pos ho2]) (Ev.now _)
  | cons c r =>
    have hc := hb c (List.mem_cons_self ..)
    cases ha : labels_Decode.all c.toNat r with
    | none =>
      refine ⟨([], [], 3), by simp, by simp, ?_, ?_⟩
      · exact Ev.congr (fun k => by unfold labels_Decode.f; rw [if_pos ho]; simp only [ha]) (Ev.now _)
      · exact Ev.congr (fun k => by unfold dryrotref07_Decode.f; rw [if_pos ho2]; simp only [rall_is, ha]) (Ev.now _)
    | some p =>
      obtain ⟨l, q⟩ := p
      obtain ⟨i1, i2, i3⟩ := all_sizes _ _ _ _ ha
      have hm : 140737488351232 ≤ maxLen := by decide
      have hl2 : r.length + 1 ≤ 140737488351232 := by simpa using hl
      have h1 := can_ev l
      have h2 := rcan_ev l (fun y hy => by have := i3 y hy; omega)
      refine ⟨if canB l = true then (l, q, 0) else ([], [], 5), ?_, ?_, ?_, ?_⟩
      · split
        · simp only
          omega
        · simp
      · split
        · simp only [List.length_cons]
          omega
        · simp
      · refine Ev.congr (f := fun k => (labels_Can.f k l).bind fun b => if b = true then some (l, q, 0) else some ([], [], 5)) (fun k => by unfold labels_Decode.f; rw [if_pos ho]; simp only [ha]) (Ev.bind h1 ?_)
        cases canB l with
        | true => exact Ev.congr (fun k => by simp) (Ev.now _)
        | false => exact Ev.congr (fun k => by simp) (Ev.now _)
      · refine Ev.congr (f := fun k => (dryrotref07_Can.f k l).bind fun b => if b = true then some (l, q, 0) else some ([], [], 5)) (fun k => by unfold dryrotref07_Decode.f; rw [if_pos ho2]; simp only [rall_is, ha]) (Ev.bind h2 ?_)
        cases canB l with
        | true => exact Ev.congr (fun k => by simp) (Ev.now _)
        | false => exact Ev.congr (fun k => by simp) (Ev.now _)
theorem rencode_ev (l : List S41) (hs : ∀ y ∈ l, y.f0.size ≤ maxLen ∧ y.f1.size ≤ maxLen) : Ev (fun k => dryrotref07_Encode.f k l) (if canB l = true then (labels_Encode.enc l, 0) else ([], 1)) := by
  refine Ev.bind (rcan_ev l hs) ?_
  cases hc : canB l with
  | false => exact Ev.congr (fun k => by simp) (Ev.now _)
  | true =>
    have := (enc_le hc).1
    refine Ev.congr (fun k => ?_) (Ev.now _)
    rw [if_pos rfl, renc_is, if_pos (by omega), if_pos rfl]
theorem bytes_row (l : List S41) (b : List Int) (hl : l.length ≤ maxLen ∧ ∀ y ∈ l, y.f0.size ≤ maxLen ∧ y.f1.size ≤ maxLen) (hb : b.length ≤ 140737488351232 ∧ ∀ y ∈ b, 0 ≤ y ∧ y < 256) :
    Ev (fun k => dryrotlaw07_LabelsBytes.f k l b) true := by
  obtain ⟨K1, h1⟩ := encode_ev l
  obtain ⟨K2, h2⟩ := rencode_ev l hl.2
  obtain ⟨v, hv1, hv2, ⟨K3, h3⟩, ⟨K4, h4⟩⟩ := decode_both b hb.1 hb.2
  have hE : ∃ e : List Int × Int, e.1.length ≤ 529 ∧ e = (if canB l = true then (labels_Encode.enc l, 0) else ([], 1)) := by
    refine ⟨_, ?_, rfl⟩
    split
    · rename_i hc
      exact (enc_le hc).1
    · simp
  obtain ⟨e, he1, he⟩ := hE
  rw [← he] at h1 h2
  obtain ⟨K5, h5⟩ := eqb_ev e.1 e.1 (by omega)
  obtain ⟨K6, h6⟩ := same_ev v.1 v.1 (by omega)
  obtain ⟨K7, h7⟩ := eqb_ev v.2.1 v.2.1 (by omega)
  obtain ⟨K8, h8⟩ := eqb_ev b b (by omega)
  obtain ⟨K9, h9⟩ := awake_ev
  refine ⟨max K1 (max K2 (max K3 (max K4 (max K5 (max K6 (max K7 (max K8 K9))))))), fun k hk => ?_⟩
  have e1 : labels_Encode.f k l = _ := h1 k (by omega)
  have e2 : dryrotref07_Encode.f k l = _ := h2 k (by omega)
  have e3 : labels_Decode.f k b = _ := h3 k (by omega)
  have e4 : dryrotref07_Decode.f k b = _ := h4 k (by omega)
  have e5 : slices_Equal_byte_byte.f k e.1 e.1 = _ := h5 k (by omega)
  have e6 : api_Label.f k v.1 v.1 = _ := h6 k (by omega)
  have e7 : slices_Equal_byte_byte.f k v.2.1 v.2.1 = _ := h7 k (by omega)
  have e8 : slices_Equal_byte_byte.f k b b = _ := h8 k (by omega)
  have e9 : dryrotlaw07_awake.f k = _ := h9 k (by omega)
  have e10 : slices_Clone_byte_byte.f b = some b := by
    unfold slices_Clone_byte_byte.f
    rw [if_pos (by omega)]
  simp only [dryrotlaw07_LabelsBytes.f, e1, e2, e3, e4, e5, e6, e7, e8, e9, e10, Option.bind_some, eqL_self, if_true, decide_true]
end Go.Proofs.Ytdbbfhmcbogknaa.Laws
