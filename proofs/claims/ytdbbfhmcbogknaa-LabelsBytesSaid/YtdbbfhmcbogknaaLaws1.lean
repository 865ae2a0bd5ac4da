/- Plain laws of the printed functions: labels that may be, their text. No program runs in it. -/
import Derived.Test.YtdbbfhmcbogknaaBas2
import Derived.Test.YtdbbfhmcbogknaaPAllx14
import Derived.Test.YtdbbfhmcbogknaaPAllx16
import Derived.Test.YtdbbfhmcbogknaaPAllx17
namespace Go.Proofs.Ytdbbfhmcbogknaa.Laws
open Go.RowKit Go.Proofs.Ytdbbfhmcbogknaa.PAll Go.Proofs.YtdbbfhmcbogknaaW.PrintWords Go.Proofs.YtdbbfhmcbogknaaW.PrintLast
set_option linter.unusedVariables false
set_option linter.unusedSimpArgs false

/-- Names that rise, and what may be. -/
def okFrom : List UInt8 → List S41 → Bool
  | _, [] => true
  | last, x :: r => Base.nameB x.f0 && Base.valueB x.f1 && Op.bytesLess last x.f0.data.toList && okFrom x.f0.data.toList r
def canB (l : List S41) : Bool := decide (1 ≤ l.length) && decide (l.length ≤ 8) && okFrom [] l

theorem rd_drop (l : List S41) (i : Nat) (x : S41) (r : List S41) (h : l.drop i = x :: r) : rd_T41 l (i : Int) = x ∧ i < l.length ∧ l.drop (i + 1) = r := by
  have hlt : i < l.length := by
    rcases Nat.lt_or_ge i l.length with h1 | h1
    · exact h1
    · rw [List.drop_eq_nil_of_le h1] at h
      cases h
  rw [List.drop_eq_getElem_cons hlt] at h
  obtain ⟨h1, h2⟩ := List.cons.inj h
  refine ⟨?_, hlt, h2⟩
  rw [← h1]
  simp [rd_T41, List.getD_eq_getElem?_getD, hlt]

theorem can_l0 (l : List S41) (hl : l.length ≤ 8) : ∀ (r : List S41) (i : Nat) (last : ByteArray), l.drop i = r →
    Ev (fun k => labels_Can.l0 k last l (l.length : Int) (i : Int)) (okFrom last.data.toList r) := by
  intro r
  induction r with
  | nil =>
    intro i last h
    have hi : l.length ≤ i := by
      rcases Nat.lt_or_ge i l.length with h1 | h1
      · rw [List.drop_eq_getElem_cons h1] at h
        cases h
      · exact h1
    refine Ev.step (f := fun _ => some true) (fun k => ?_) (Ev.now _)
    simp only [labels_Can.l0]
    rw [if_neg (by omega)]
  | cons x r ih =>
    intro i last h
    obtain ⟨hx, hi, hr⟩ := rd_drop l i x r h
    have hw : wrap64 ((i : Int) + 1) = ((i + 1 : Nat) : Int) := Base.wrap_nat i (by omega)
    have h1 : ((i : Int) < (l.length : Int)) := by omega
    have h0 : ((0 : Int) ≤ (i : Int)) := by omega
    cases hn : Base.nameB x.f0 with
    | false =>
      refine Ev.step (f := fun _ => some false) (fun k => ?_) ?_
      · simp only [labels_Can.l0]
        rw [if_pos h1, if_pos h0, if_pos h1, hx]
        simp [labels_Name.f, hn]
      · have : okFrom last.data.toList (x :: r) = false := by simp [okFrom, hn]
        rw [this]
        exact Ev.now _
    | true =>
      cases hv : Base.valueB x.f1 with
      | false =>
        refine Ev.step (f := fun _ => some false) (fun k => ?_) ?_
        · simp only [labels_Can.l0]
          rw [if_pos h1, if_pos h0, if_pos h1, hx]
          simp [labels_Name.f, labels_Value.f, hn, hv]
        · have : okFrom last.data.toList (x :: r) = false := by simp [okFrom, hn, hv]
          rw [this]
          exact Ev.now _
      | true =>
        cases hb : Op.bytesLess last.data.toList x.f0.data.toList with
        | false =>
          refine Ev.step (f := fun _ => some false) (fun k => ?_) ?_
          · simp only [labels_Can.l0]
            rw [if_pos h1, if_pos h0, if_pos h1, hx]
            simp [labels_Name.f, labels_Value.f, hn, hv, ByteArray.toList_eq, hb]
          · have : okFrom last.data.toList (x :: r) = false := by simp [okFrom, hn, hv, hb]
            rw [this]
            exact Ev.now _
        | true =>
          have ih2 := ih (i + 1) x.f0 hr
          refine Ev.step (f := fun k => labels_Can.l0 k x.f0 l (l.length : Int) ((i + 1 : Nat) : Int)) (fun k => ?_) ?_
          · simp only [labels_Can.l0]
            rw [if_pos h1, if_pos h0, if_pos h1, hx, hw]
            simp [labels_Name.f, labels_Value.f, hn, hv, ByteArray.toList_eq, hb]
          · have : okFrom last.data.toList (x :: r) = okFrom x.f0.data.toList r := by simp [okFrom, hn, hv, hb]
            rw [this]
            exact ih2

theorem can_ev (l : List S41) : Ev (fun k => labels_Can.f k l) (canB l) := by
  by_cases h0 : l.length = 0
  · have hc : canB l = false := by simp [canB, h0]
    rw [hc]
    refine Ev.congr (f := fun k => labels_Can.j0 k l true) (fun k => ?_) ?_
    · simp only [labels_Can.f]
      rw [if_pos (by omega)]
    · refine Ev.step (f := fun _ => some false) (fun k => ?_) (Ev.now _)
      simp only [labels_Can.j0]
      simp
  · refine Ev.congr (f := fun k => labels_Can.j0 k l (decide ((l.length : Int) > 8))) (fun k => ?_) ?_
    · simp only [labels_Can.f]
      rw [if_neg (by omega)]
    · by_cases h8 : l.length ≤ 8
      · have hc : canB l = okFrom [] l := by
          have h1 : 1 ≤ l.length := by omega
          simp [canB, h1, h8]
        rw [hc]
        refine Ev.step (f := fun k => labels_Can.l0 k (⟨#[]⟩ : ByteArray) l (l.length : Int) 0) (fun k => ?_) (can_l0 l h8 l 0 ⟨#[]⟩ rfl)
        simp only [labels_Can.j0]
        rw [if_neg (by simp; omega)]
      · have hc : canB l = false := by simp [canB, h8]
        rw [hc]
        refine Ev.step (f := fun _ => some false) (fun k => ?_) (Ev.now _)
        simp only [labels_Can.j0]
        rw [if_pos (by simp; omega)]

/-! ### the text -/
def pieceL (x : S41) : List UInt8 := x.f0.data.toList ++ 61 :: Base.quoteL x.f1.data.toList
def pieceS (x : S41) : ByteArray := (x.f0 ++ (⟨#[61]⟩ : ByteArray)) ++ Base.quoteS x.f1
def textL (l : List S41) : List UInt8 := 123 :: (Lib.join (l.map pieceL) [44] ++ [125])
theorem pieceS_data (x : S41) : (pieceS x).data.toList = pieceL x := by
  simp [pieceS, pieceL, Base.append_data, Base.quoteS]

theorem quoteL_le (l : List UInt8) : (Base.quoteL l).length ≤ 2 * l.length + 2 := by
  have h : ∀ l : List UInt8, (l.flatMap Base.quoteByte).length ≤ 2 * l.length := by
    intro l
    induction l with
    | nil => simp
    | cons x r ih =>
      have h1 : (Base.quoteByte x).length ≤ 2 := by unfold Base.quoteByte; split <;> simp
      simp only [List.flatMap_cons, List.length_append, List.length_cons]
      omega
  have := h l
  simp only [Base.quoteL, List.length_cons, List.length_append, List.length_nil]
  omega
theorem nameB_size {s : ByteArray} (h : Base.nameB s = true) : 1 ≤ s.size ∧ s.size ≤ 24 := by
  simp only [Base.nameB, Bool.and_eq_true, decide_eq_true_eq] at h
  omega
theorem valueB_size {s : ByteArray} (h : Base.valueB s = true) : 1 ≤ s.size ∧ s.size ≤ 40 := by
  simp only [Base.valueB, Bool.and_eq_true, decide_eq_true_eq] at h
  omega
theorem okFrom_mem : ∀ (l : List S41) (last : List UInt8), okFrom last l = true → ∀ x ∈ l, Base.nameB x.f0 = true ∧ Base.valueB x.f1 = true := by
  intro l
  induction l with
  | nil => intro _ _ x hx; cases hx
  | cons y r ih =>
    intro last h x hx
    simp only [okFrom, Bool.and_eq_true] at h
    rcases List.mem_cons.1 hx with rfl | hx
    · exact ⟨h.1.1.1, h.1.1.2⟩
    · exact ih _ h.2 x hx
theorem join_le (M : Nat) : ∀ (xs : List (List UInt8)), (∀ x ∈ xs, x.length ≤ M) → (Lib.join xs [44]).length ≤ xs.length * (M + 1) := by
  intro xs
  induction xs with
  | nil => intro _; simp [Lib.join_nil]
  | cons x r ih =>
    intro h
    have hx := h x (by simp)
    have hr := ih (fun y hy => h y (by simp [hy]))
    rw [Lib.join_cons]
    have ht : (Lib.joinTail [44] r).length ≤ r.length * (M + 1) := by
      clear ih hr hx
      have : ∀ y ∈ r, y.length ≤ M := fun y hy => h y (by simp [hy])
      clear h
      induction r with
      | nil => simp [Lib.joinTail]
      | cons y q ih =>
        have hy := this y (by simp)
        have hq := ih (fun z hz => this z (by simp [hz]))
        simp only [Lib.joinTail, List.map_cons, List.flatten_cons, List.length_append, List.length_cons] at hq ⊢
        rw [Nat.add_mul]
        simp only [List.length_nil]
        omega
    simp only [List.length_append, List.length_cons]
    rw [Nat.add_mul]
    omega
theorem piece_le {x : S41} (h0 : Base.nameB x.f0 = true) (h1 : Base.valueB x.f1 = true) : (pieceL x).length ≤ 107 := by
  have a := nameB_size h0
  have b := valueB_size h1
  have c := quoteL_le x.f1.data.toList
  rw [← Base.size_list] at c
  simp only [pieceL, List.length_append, List.length_cons]
  rw [← Base.size_list]
  omega
theorem quote_some {s : ByteArray} (h : s.size ≤ 1000000000) : labels_Quote.f s = some (Base.quoteS s) := by
  have c := quoteL_le s.data.toList
  rw [← Base.size_list] at c
  unfold labels_Quote.f
  rw [if_pos (by omega)]
theorem quoteS_size (s : ByteArray) : (Base.quoteS s).size ≤ 2 * s.size + 2 := by
  have c := quoteL_le s.data.toList
  rw [← Base.size_list] at c
  rw [Base.size_list]
  simpa [Base.quoteS] using c

theorem text_l0 (l : List S41) (hl : l.length ≤ 8) (hok : ∀ x ∈ l, Base.nameB x.f0 = true ∧ Base.valueB x.f1 = true) : ∀ (r : List S41) (i : Nat), l.drop i = r → i ≤ l.length →
    Ev (fun k => labels_Text.l0 k ((l.take i).map pieceS ++ List.replicate (l.length - i) (⟨#[]⟩ : ByteArray)) l (l.length : Int) (i : Int)) (Base.ofL (textL l), 0) := by
  intro r
  induction r with
  | nil =>
    intro i h hil
    have hi : l.length ≤ i := by
      rcases Nat.lt_or_ge i l.length with h1 | h1
      · rw [List.drop_eq_getElem_cons h1] at h
        cases h
      · exact h1
    have he : i = l.length := by omega
    subst he
    have hp : (l.take l.length).map pieceS ++ List.replicate (l.length - l.length) (⟨#[]⟩ : ByteArray) = l.map pieceS := by simp
    rw [hp]
    have hm : (l.map pieceS).map (·.data.toList) = l.map pieceL := by
      rw [List.map_map]
      exact List.map_congr_left (fun x _ => pieceS_data x)
    have hj := join_le 107 (l.map pieceL) (by
      intro y hy
      obtain ⟨x, hx, rfl⟩ := List.mem_map.1 hy
      exact piece_le (hok x hx).1 (hok x hx).2)
    rw [List.length_map] at hj
    have hjl : (Lib.join (l.map pieceL) [44]).length ≤ 864 := by omega
    refine Ev.step (f := fun _ => some (Base.ofL (textL l), 0)) (fun k => ?_) (Ev.now _)
    simp only [labels_Text.l0]
    rw [if_neg (by omega)]
    have h44 : ((⟨#[44]⟩ : ByteArray)).data.toList = [44] := rfl
    simp only [strings_Join.f, hm, h44, List.length_map]
    rw [if_pos (by omega), if_pos (by omega)]
    simp only [Option.bind_some]
    have hsz : (⟨(Lib.join (l.map pieceL) [44]).toArray⟩ : ByteArray).size = (Lib.join (l.map pieceL) [44]).length := by
      rw [Base.size_list]
    rw [if_pos (by rw [hsz]; omega), if_pos (by rw [Base.size_list, Base.append_data]; simp; omega)]
    congr 2
  | cons x r ih =>
    intro i h hil
    obtain ⟨hx, hi, hr⟩ := rd_drop l i x r h
    have hw : wrap64 ((i : Int) + 1) = ((i + 1 : Nat) : Int) := Base.wrap_nat i (by omega)
    have h1 : ((i : Int) < (l.length : Int)) := by omega
    have h0 : ((0 : Int) ≤ (i : Int)) := by omega
    have hmem : x ∈ l := by
      have h2 : x ∈ l.drop i := by rw [h]; simp
      exact List.mem_of_mem_drop h2
    have hn := nameB_size (hok x hmem).1
    have hv := valueB_size (hok x hmem).2
    have hq := quoteS_size x.f1
    have ih2 := ih (i + 1) hr (by omega)
    have hset : ((l.take i).map pieceS ++ List.replicate (l.length - i) (⟨#[]⟩ : ByteArray)).set i (pieceS x) = (l.take (i + 1)).map pieceS ++ List.replicate (l.length - (i + 1)) (⟨#[]⟩ : ByteArray) := by
      have e1 : l.take (i + 1) = l.take i ++ [x] := by
        rw [List.take_succ_eq_append_getElem hi]
        have h2 : l[i] = x := by
          rw [List.drop_eq_getElem_cons hi] at h
          exact (List.cons.inj h).1
        rw [h2]
      have e2 : l.length - i = (l.length - (i + 1)) + 1 := by omega
      rw [e1, e2, List.replicate_succ, List.map_append, List.set_append_right]
      · simp [Nat.min_eq_left (Nat.le_of_lt hi)]
      · simp
        omega
    refine Ev.step (f := fun k => labels_Text.l0 k ((l.take (i + 1)).map pieceS ++ List.replicate (l.length - (i + 1)) (⟨#[]⟩ : ByteArray)) l (l.length : Int) ((i + 1 : Nat) : Int)) (fun k => ?_) ih2
    simp only [labels_Text.l0]
    rw [if_pos h1, if_pos h0, if_pos h1, hx, hw, if_pos (by omega), quote_some (by omega)]
    simp only [Option.bind_some]
    have hsz : (x.f0 ++ (⟨#[61]⟩ : ByteArray)).size = x.f0.size + 1 := by
      rw [Base.size_list, Base.append_data, List.length_append, ← Base.size_list]
      rfl
    rw [if_pos (by rw [hsz]; omega)]
    rw [if_pos (by simp; omega)]
    rw [show (i : Int).toNat = i from rfl, ← hset]
    rfl

theorem text_ev (l : List S41) : Ev (fun k => labels_Text.f k l) (if canB l = true then (Base.ofL (textL l), 0) else ((⟨#[]⟩ : ByteArray), 1)) := by
  refine Ev.bind (can_ev l) ?_
  cases hc : canB l with
  | false => exact Ev.congr (fun k => by simp) (Ev.now _)
  | true =>
    have h := hc
    simp only [canB, Bool.and_eq_true, decide_eq_true_eq] at h
    have h2 := text_l0 l h.1.2 (okFrom_mem l [] h.2) l 0 rfl (by omega)
    refine Ev.congr (fun k => ?_) h2
    rw [if_pos rfl, if_pos (by omega), if_pos (by simp; omega)]
    simp

theorem awake_ev : Ev (fun k => dryrotlaw07_awake.f k) true := by
  refine Ev.bind (text_ev _) ?_
  have hc : canB ([(⟨(⟨#[97]⟩ : ByteArray), (⟨#[120]⟩ : ByteArray)⟩ : S41), (⟨(⟨#[98]⟩ : ByteArray), (⟨#[34, 121, 34]⟩ : ByteArray)⟩ : S41)] : List (S41)) = true := by decide +kernel
  rw [hc]
  refine Ev.congr (fun k => ?_) (Ev.now _)
  have ht : textL ([(⟨(⟨#[97]⟩ : ByteArray), (⟨#[120]⟩ : ByteArray)⟩ : S41), (⟨(⟨#[98]⟩ : ByteArray), (⟨#[34, 121, 34]⟩ : ByteArray)⟩ : S41)] : List (S41)) = [123, 97, 61, 34, 120, 34, 44, 98, 61, 34, 92, 34, 121, 92, 34, 34, 125] := by decide +kernel
  simp only [if_true, ByteArray.toList_eq, Base.ofL_data, ht]
  decide
end Go.Proofs.Ytdbbfhmcbogknaa.Laws
