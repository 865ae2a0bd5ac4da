/- Plain laws: the reference's names, values and labels are the same as the program's. No program runs in it. -/
import Derived.Test.YtdbbfhmcbogknaaLaws1
import Derived.Test.YtdbbfhmcbogknaaPAllx23
import Derived.Test.YtdbbfhmcbogknaaPAllx20
import Derived.Test.YtdbbfhmcbogknaaPAllx22
namespace Go.Proofs.Ytdbbfhmcbogknaa.Laws
open Go.RowKit Go.Proofs.Ytdbbfhmcbogknaa.PAll Go.Proofs.YtdbbfhmcbogknaaW.PrintWords Go.Proofs.YtdbbfhmcbogknaaW.PrintLast
set_option linter.unusedVariables false
set_option linter.unusedSimpArgs false

theorem wrap_up (i : Nat) (h : i < 9223372036854775807) : wrap64 ((i : Int) + 1) = ((i + 1 : Nat) : Int) := by
  unfold wrap64
  omega
theorem at_byte (s : ByteArray) (i : Nat) (c : UInt8) (r : List UInt8) (h : s.data.toList.drop i = c :: r) : i < s.size ∧ bt s (i : Int) = (c.toNat : Int) ∧ s.data.toList.drop (i + 1) = r := by
  have hlt : i < s.data.toList.length := by
    rcases Nat.lt_or_ge i s.data.toList.length with h1 | h1
    · exact h1
    · rw [List.drop_eq_nil_of_le h1] at h
      cases h
  have hs : s.size = s.data.toList.length := Base.size_list s
  rw [List.drop_eq_getElem_cons hlt] at h
  obtain ⟨h1, h2⟩ := List.cons.inj h
  refine ⟨by omega, ?_, h2⟩
  rw [Base.bt_list s i (by omega), List.getD_eq_getElem?_getD, List.getElem?_eq_getElem hlt, h1]
  rfl
theorem no_byte (s : ByteArray) (i : Nat) (h : s.data.toList.drop i = []) : s.size ≤ i := by
  have hs : s.size = s.data.toList.length := Base.size_list s
  have := List.drop_eq_nil_iff.1 h
  omega

/-- A letter, as the reference asks it. -/
def letterI (c : Int) : Bool := (decide (97 ≤ c) && decide (c ≤ 122)) || (decide (65 ≤ c) && decide (c ≤ 90)) || decide (c = 95)
theorem letter_fin : ∀ n : Fin 256, Base.letterB (n.val : Int) = letterI (n.val : Int) := by decide +kernel
theorem letter_is (c : UInt8) : Base.letterB (c.toNat : Int) = letterI (c.toNat : Int) := letter_fin ⟨c.toNat, c.toNat_lt⟩
theorem name_step (k : Nat) (s : ByteArray) (i : Nat) (hi : i < s.size) (hs : s.size ≤ 9223372036854775807) :
    dryrotref07_Name.l0 (k + 1) s (i : Int) = if letterI (bt s i) = true then dryrotref07_Name.l0 k s ((i + 1 : Nat) : Int) else if i = 0 then some false else
      if Base.digitB (bt s i) = true then dryrotref07_Name.l0 k s ((i + 1 : Nat) : Int) else some false := by
  have hw := wrap_up i (by omega)
  simp only [dryrotref07_Name.l0]
  rw [if_pos (by omega), if_pos (by omega), hw]
  generalize bt s (i : Int) = c
  have e0 : ((i : Int) = 0) = (i = 0) := by simp
  simp only [e0]
  unfold letterI Base.digitB
  by_cases h1 : 97 ≤ c <;> by_cases h2 : c ≤ 122 <;> by_cases h3 : 65 ≤ c <;> by_cases h4 : c ≤ 90 <;> by_cases h5 : c = 95 <;> first | (exfalso; omega) | skip
  all_goals by_cases h6 : 48 ≤ c <;> by_cases h7 : c ≤ 57 <;> first | (exfalso; omega) | skip
  all_goals simp [h1, h2, h3, h4, h5, h6, h7]

  all_goals rw [if_neg (show ¬ c < 48 by omega), if_neg (show ¬ 57 < c by omega)]
theorem name_l0 (s : ByteArray) (hs : s.size ≤ 9223372036854775807) : ∀ (r : List UInt8) (i : Nat), 1 ≤ i → s.data.toList.drop i = r →
    Ev (fun k => dryrotref07_Name.l0 k s (i : Int)) (r.all (fun c => Base.letterB (c.toNat : Int) || Base.digitB (c.toNat : Int)) && (decide (1 ≤ s.size) && decide (s.size ≤ 24))) := by
  intro r
  induction r with
  | nil =>
    intro i hi h
    have h1 := no_byte s i h
    refine Ev.step (f := fun _ => some (decide (1 ≤ s.size) && decide (s.size ≤ 24))) (fun k => ?_) (by simpa using Ev.now _)
    simp only [dryrotref07_Name.l0]
    rw [if_neg (by omega)]
    by_cases h2 : 1 ≤ s.size
    · rw [if_pos (by omega)]
      simp [h2]
      omega
    · rw [if_neg (by omega)]
      simp [h2]
  | cons c r ih =>
    intro i hi h
    obtain ⟨hlt, hbt, hr⟩ := at_byte s i c r h
    have ih2 := ih (i + 1) (by omega) hr
    cases hl : Base.letterB (c.toNat : Int) with
    | true =>
      have e : (c :: r).all (fun c => Base.letterB (c.toNat : Int) || Base.digitB (c.toNat : Int)) = r.all (fun c => Base.letterB (c.toNat : Int) || Base.digitB (c.toNat : Int)) := by rw [List.all_cons, hl]; rfl
      rw [e]
      refine Ev.step (fun k => ?_) ih2
      rw [name_step k s i hlt hs, hbt, ← letter_is, if_pos hl]
    | false =>
      cases hd : Base.digitB (c.toNat : Int) with
      | true =>
        have e : (c :: r).all (fun c => Base.letterB (c.toNat : Int) || Base.digitB (c.toNat : Int)) = r.all (fun c => Base.letterB (c.toNat : Int) || Base.digitB (c.toNat : Int)) := by rw [List.all_cons, hl, hd]; rfl
        rw [e]
        refine Ev.step (fun k => ?_) ih2
        rw [name_step k s i hlt hs, hbt, ← letter_is, if_neg (by rw [hl]; simp), if_neg (by omega), if_pos hd]
      | false =>
        have e : (c :: r).all (fun c => Base.letterB (c.toNat : Int) || Base.digitB (c.toNat : Int)) = false := by rw [List.all_cons, hl, hd]; rfl
        rw [e]
        refine Ev.step (f := fun _ => some false) (fun k => ?_) (Ev.now _)
        rw [name_step k s i hlt hs, hbt, ← letter_is, if_neg (by rw [hl]; simp), if_neg (by omega), if_neg (by rw [hd]; simp)]
theorem all_bytes (s : ByteArray) (p : Int → Bool) : (bytesOf s).all p = s.data.toList.all (fun c => p (c.toNat : Int)) := by
  rw [bytesOf, List.all_map]
  rfl
theorem rname_ev (s : ByteArray) (hs : s.size ≤ 9223372036854775807) : Ev (fun k => dryrotref07_Name.f k s) (Base.nameB s) := by
  refine Ev.congr (f := fun k => dryrotref07_Name.l0 k s ((0 : Nat) : Int)) (fun k => rfl) ?_
  have hz := Base.size_list s
  cases hd : s.data.toList with
  | nil =>
    have h0 : s.size = 0 := by rw [hz, hd]; rfl
    have e : Base.nameB s = false := by simp [Base.nameB, h0]
    rw [e]
    refine Ev.step (f := fun _ => some false) (fun k => ?_) (Ev.now _)
    simp only [dryrotref07_Name.l0]
    rw [if_neg (by omega), if_neg (by omega)]
  | cons c r =>
    obtain ⟨hlt, hbt, hr⟩ := at_byte s 0 c r (by rw [hd]; rfl)
    have ih := name_l0 s hs r 1 (Nat.le_refl _) (by rw [hd]; rfl)
    have hb : (bytesOf s).headD 0 = (c.toNat : Int) := by rw [bytesOf, hd]; rfl
    have e : Base.nameB s = (Base.letterB (c.toNat : Int) && (r.all (fun c => Base.letterB (c.toNat : Int) || Base.digitB (c.toNat : Int)) && (decide (1 ≤ s.size) && decide (s.size ≤ 24)))) := by
      rw [Base.nameB, all_bytes, hb, hd, List.all_cons]
      have h1 : decide (0 < s.size) = decide (1 ≤ s.size) := rfl
      rw [h1]
      cases Base.letterB (c.toNat : Int) <;> cases decide (1 ≤ s.size) <;> cases decide (s.size ≤ 24) <;> simp
    rw [e]
    cases hl : Base.letterB (c.toNat : Int) with
    | true =>
      rw [Bool.true_and]
      refine Ev.step (fun k => ?_) ih
      rw [name_step k s 0 hlt hs, hbt, ← letter_is, if_pos hl]
    | false =>
      rw [Bool.false_and]
      refine Ev.step (f := fun _ => some false) (fun k => ?_) (Ev.now _)
      rw [name_step k s 0 hlt hs, hbt, ← letter_is, if_neg (by rw [hl]; simp), if_pos rfl]
theorem plain_is (r : Int) : (!(decide (r < 32) || decide (r = 127) || decide (r = 65533))) = Base.plainB r := by
  unfold Base.plainB
  by_cases h : r < 32
  · have : ¬ 32 ≤ r := by omega
    simp [h, this]
  · have : 32 ≤ r := by omega
    simp [h, this]
theorem rvalue_is (s : ByteArray) : dryrotref07_Value.f s = some (Base.valueB s) := by
  have e : Base.plainTextB s = (Base.runesOf s).all Base.plainB := by
    unfold Base.plainTextB
    congr 1
    funext r
    exact plain_is r
  simp only [dryrotref07_Value.f, dryrotref07_Plain.f, Option.bind_some, e, Base.valueB]
  by_cases h1 : 1 ≤ s.size
  · rw [if_pos (by omega)]
    by_cases h2 : s.size ≤ 40
    · rw [if_pos (by omega)]
      have : 0 < s.size := h1
      simp [h2, this]
    · rw [if_neg (by omega)]
      simp [h2]
  · rw [if_neg (by omega)]
    have : ¬ 0 < s.size := h1
    simp [this]

/-! ### labels that may be, as the reference asks it -/
theorem rcan_l0 (l : List S41) (hl : l.length ≤ 8) (hs : ∀ y ∈ l, y.f0.size ≤ maxLen ∧ y.f1.size ≤ maxLen) : ∀ (r : List S41) (i : Nat) (last : ByteArray), l.drop i = r → (i = 0 → last = ⟨#[]⟩) → (0 < i → rd_T41 l ((i - 1 : Nat) : Int) = rd_T41 l ((i - 1 : Nat) : Int) ∧ (rd_T41 l ((i - 1 : Nat) : Int)).f0 = last) →
    Ev (fun k => dryrotref07_Can.l0 k l l (l.length : Int) (i : Int)) (okFrom last.data.toList r) := by
  intro r
  induction r with
  | nil =>
    intro i last h _ _
    have hi : l.length ≤ i := List.drop_eq_nil_iff.1 h
    refine Ev.step (f := fun _ => some true) (fun k => ?_) (Ev.now _)
    simp only [dryrotref07_Can.l0]
    rw [if_neg (by omega)]
  | cons x r ih =>
    intro i last h hfst hlast
    obtain ⟨hx, hi, hr⟩ := rd_drop l i x r h
    have hw := wrap_up i (by omega)
    have hmem : x ∈ l := List.mem_of_mem_drop (by rw [h]; simp)
    obtain ⟨K1, h1⟩ := rname_ev x.f0 (Nat.le_trans (hs x hmem).1 (by decide))
    obtain ⟨K2, h2⟩ := ih (i + 1) x.f0 hr (fun h => by omega) (fun _ => ⟨rfl, by rw [show i + 1 - 1 = i by omega, hx]⟩)
    refine ⟨max K1 K2 + 1, fun k hk => ?_⟩
    obtain ⟨k, rfl⟩ : ∃ k', k = k' + 1 := ⟨k - 1, by omega⟩
    have e1 : dryrotref07_Name.f k x.f0 = some (Base.nameB x.f0) := h1 k (by omega)
    have e2 : dryrotref07_Can.l0 k l l (l.length : Int) ((i + 1 : Nat) : Int) = some (okFrom x.f0.data.toList r) := h2 k (by omega)
    simp only [dryrotref07_Can.l0]
    rw [if_pos (by omega), if_pos (by omega), if_pos (by omega), hx, e1, rvalue_is, hw]
    simp only [Option.bind_some, okFrom, e2]
    cases hn : Base.nameB x.f0 with
    | false => simp
    | true =>
      cases hv : Base.valueB x.f1 with
      | false => simp
      | true =>
        by_cases h0 : i = 0
        · have hz := nameB_size hn
          have hb : Op.bytesLess last.data.toList x.f0.data.toList = true := by
            rw [hfst h0]
            cases hd : x.f0.data.toList with
            | nil => rw [Base.size_list, hd] at hz; simp at hz
            | cons c q => simp [Op.bytesLess]
          rw [if_pos rfl, if_pos rfl, if_neg (by omega), hb]
          rfl
        · have hwm : wrap64 ((i : Int) - 1) = ((i - 1 : Nat) : Int) := by unfold wrap64; omega
          rw [if_pos rfl, if_pos rfl, if_pos (by omega), hwm, if_pos (by omega), if_pos (by omega), (hlast (by omega)).2]
          simp only [ByteArray.toList_eq]
          cases hb : Op.bytesLess last.data.toList x.f0.data.toList with
          | false => simp
          | true => simp
theorem rcan_ev (l : List S41) (hs : ∀ y ∈ l, y.f0.size ≤ maxLen ∧ y.f1.size ≤ maxLen) : Ev (fun k => dryrotref07_Can.f k l) (canB l) := by
  by_cases h0 : l.length = 0
  · have hc : canB l = false := by simp [canB, h0]
    rw [hc]
    refine Ev.congr (f := fun k => dryrotref07_Can.j0 k l true) (fun k => ?_) ?_
    · simp only [dryrotref07_Can.f]
      rw [if_pos (by omega)]
    · refine Ev.step (f := fun _ => some false) (fun k => ?_) (Ev.now _)
      simp only [dryrotref07_Can.j0]
      simp
  · refine Ev.congr (f := fun k => dryrotref07_Can.j0 k l (decide ((l.length : Int) > 8))) (fun k => ?_) ?_
    · simp only [dryrotref07_Can.f]
      rw [if_neg (by omega)]
    · by_cases h8 : l.length ≤ 8
      · have hc : canB l = okFrom [] l := by
          have h1 : 1 ≤ l.length := by omega
          simp [canB, h1, h8]
        rw [hc]
        refine Ev.step (f := fun k => dryrotref07_Can.l0 k l l (l.length : Int) 0) (fun k => ?_) (rcan_l0 l h8 hs l 0 ⟨#[]⟩ rfl (fun _ => rfl) (fun h => by omega))
        simp only [dryrotref07_Can.j0]
        rw [if_neg (by simp; omega)]
      · have hc : canB l = false := by simp [canB, h8]
        rw [hc]
        refine Ev.step (f := fun _ => some false) (fun k => ?_) (Ev.now _)
        simp only [dryrotref07_Can.j0]
        rw [if_pos (by simp; omega)]
end Go.Proofs.Ytdbbfhmcbogknaa.Laws
