/- Plain laws: the reference's names, values and labels are the same as the program's; MatchOwn. No program runs in it. -/
import Derived.Test.YtgnehcgaplnfkaaDoorBas2
import Derived.Test.YtgnehcgaplnfkaaDoorPAllx62
import Derived.Test.YtgnehcgaplnfkaaDoorPAllx59
import Derived.Test.YtgnehcgaplnfkaaDoorPAllx61
import Derived.Test.YtgnehcgaplnfkaaDoorPAllx64
import Derived.Sort.Walk0
namespace Go.Proofs.YtgnehcgaplnfkaaDoor.Laws
open Go.RowKit Go.Proofs.YtgnehcgaplnfkaaDoor.PAll Go.Proofs.YtgnehcgaplnfkaaDoorW.PrintWords Go.Proofs.YtgnehcgaplnfkaaDoorW.PrintLast
set_option linter.unusedVariables false
set_option linter.unusedSimpArgs false

/-- Names that rise, and what may be. -/
def okFrom : List UInt8 → List S42 → Bool
  | _, [] => true
  | last, x :: r => Base.nameB x.f0 && Base.valueB x.f1 && Op.bytesLess last x.f0.data.toList && okFrom x.f0.data.toList r
def canB (l : List S42) : Bool := decide (1 ≤ l.length) && decide (l.length ≤ 8) && okFrom [] l

theorem rd_drop (l : List S42) (i : Nat) (x : S42) (r : List S42) (h : l.drop i = x :: r) : rd_T42 l (i : Int) = x ∧ i < l.length ∧ l.drop (i + 1) = r := by
  have hlt : i < l.length := by
    rcases Nat.lt_or_ge i l.length with h1 | h1
    · exact h1
    · rw [List.drop_eq_nil_of_le h1] at h
      cases h
  rw [List.drop_eq_getElem_cons hlt] at h
  obtain ⟨h1, h2⟩ := List.cons.inj h
  refine ⟨?_, hlt, h2⟩
  rw [← h1]
  simp [rd_T42, List.getD_eq_getElem?_getD, hlt]

theorem nameB_size {s : ByteArray} (h : Base.nameB s = true) : 1 ≤ s.size ∧ s.size ≤ 24 := by
  simp only [Base.nameB, Bool.and_eq_true, decide_eq_true_eq] at h
  omega
theorem valueB_size {s : ByteArray} (h : Base.valueB s = true) : 1 ≤ s.size ∧ s.size ≤ 40 := by
  simp only [Base.valueB, Bool.and_eq_true, decide_eq_true_eq] at h
  omega
theorem okFrom_mem : ∀ (l : List S42) (last : List UInt8), okFrom last l = true → ∀ x ∈ l, Base.nameB x.f0 = true ∧ Base.valueB x.f1 = true := by
  intro l
  induction l with
  | nil => intro _ _ x hx; cases hx
  | cons y r ih =>
    intro last h x hx
    simp only [okFrom, Bool.and_eq_true] at h
    rcases List.mem_cons.1 hx with rfl | hx
    · exact ⟨h.1.1.1, h.1.1.2⟩
    · exact ih _ h.2 x hx
theorem wrap_up (i : Nat) (h : i < 9223372036854775807) : wrap64 ((i : Int) + 1) = ((i + 1 : Nat) : Int) := by
  unfold wrap64
  omega
theorem at_byte (s : ByteArray) (i : Nat) (c : UInt8) (r : List UInt8) (h : s.data.toList.drop i = c :: r) : i < s.size ∧ bt s (i : Int) = (c.toNat : Int) ∧ s.data.toList.drop (i + 1) = r := by
  have hlt : i < s.data.toList.length := by
    rcases Nat.lt_or_ge i s.data.toList.length with h1 | h1
    · exact h1
    · rw [List.drop_eq_nil_of_le h1] at h
      cases h
  have hs : s.size = s.data.toList.length := Base.size_list s
  rw [List.drop_eq_getElem_cons hlt] at h
  obtain ⟨h1, h2⟩ := List.cons.inj h
  refine ⟨by omega, ?_, h2⟩
  rw [Base.bt_list s i (by omega), List.getD_eq_getElem?_getD, List.getElem?_eq_getElem hlt, h1]
  rfl
theorem no_byte (s : ByteArray) (i : Nat) (h : s.data.toList.drop i = []) : s.size ≤ i := by
  have hs : s.size = s.data.toList.length := Base.size_list s
  have := List.drop_eq_nil_iff.1 h
  omega

/-- A letter, as the reference asks it. -/
def letterI (c : Int) : Bool := (decide (97 ≤ c) && decide (c ≤ 122)) || (decide (65 ≤ c) && decide (c ≤ 90)) || decide (c = 95)
theorem letter_fin : ∀ n : Fin 256, Base.letterB (n.val : Int) = letterI (n.val : Int) := by decide +kernel
theorem letter_is (c : UInt8) : Base.letterB (c.toNat : Int) = letterI (c.toNat : Int) := letter_fin ⟨c.toNat, c.toNat_lt⟩
theorem name_step (k : Nat) (s : ByteArray) (i : Nat) (hi : i < s.size) (hs : s.size ≤ 9223372036854775807) :
    dryrotref07_Name.l0 (k + 1) s (i : Int) = if letterI (bt s i) = true then dryrotref07_Name.l0 k s ((i + 1 : Nat) : Int) else if i = 0 then some false else
      if Base.digitB (bt s i) = true then dryrotref07_Name.l0 k s ((i + 1 : Nat) : Int) else some false := by
  have hw := wrap_up i (by omega)
  simp only [dryrotref07_Name.l0]
  rw [if_pos (by omega), if_pos (by omega), hw]
  generalize bt s (i : Int) = c
  have e0 : ((i : Int) = 0) = (i = 0) := by simp
  simp only [e0]
  unfold letterI Base.digitB
  by_cases h1 : 97 ≤ c <;> by_cases h2 : c ≤ 122 <;> by_cases h3 : 65 ≤ c <;> by_cases h4 : c ≤ 90 <;> by_cases h5 : c = 95 <;> first | (exfalso; omega) | skip
  all_goals by_cases h6 : 48 ≤ c <;> by_cases h7 : c ≤ 57 <;> first | (exfalso; omega) | skip
  all_goals simp [h1, h2, h3, h4, h5, h6, h7]

  all_goals rw [if_neg (show ¬ c < 48 by omega), if_neg (show ¬ 57 < c by omega)]
theorem name_l0 (s : ByteArray) (hs : s.size ≤ 9223372036854775807) : ∀ (r : List UInt8) (i : Nat), 1 ≤ i → s.data.toList.drop i = r →
    Ev (fun k => dryrotref07_Name.l0 k s (i : Int)) (r.all (fun c => Base.letterB (c.toNat : Int) || Base.digitB (c.toNat : Int)) && (decide (1 ≤ s.size) && decide (s.size ≤ 24))) := by
  intro r
  induction r with
  | nil =>
    intro i hi h
    have h1 := no_byte s i h
    refine Ev.step (f := fun _ => some (decide (1 ≤ s.size) && decide (s.size ≤ 24))) (fun k => ?_) (by simpa using Ev.now _)
    simp only [dryrotref07_Name.l0]
    rw [if_neg (by omega)]
    by_cases h2 : 1 ≤ s.size
    · rw [if_pos (by omega)]
      simp [h2]
      omega
    · rw [if_neg (by omega)]
      simp [h2]
  | cons c r ih =>
    intro i hi h
    obtain ⟨hlt, hbt, hr⟩ := at_byte s i c r h
    have ih2 := ih (i + 1) (by omega) hr
    cases hl : Base.letterB (c.toNat : Int) with
    | true =>
      have e : (c :: r).all (fun c => Base.letterB (c.toNat : Int) || Base.digitB (c.toNat : Int)) = r.all (fun c => Base.letterB (c.toNat : Int) || Base.digitB (c.toNat : Int)) := by rw [List.all_cons, hl]; rfl
      rw [e]
      refine Ev.step (fun k => ?_) ih2
      rw [name_step k s i hlt hs, hbt, ← letter_is, if_pos hl]
    | false =>
      cases hd : Base.digitB (c.toNat : Int) with
      | true =>
        have e : (c :: r).all (fun c => Base.letterB (c.toNat : Int) || Base.digitB (c.toNat : Int)) = r.all (fun c => Base.letterB (c.toNat : Int) || Base.digitB (c.toNat : Int)) := by rw [List.all_cons, hl, hd]; rfl
        rw [e]
        refine Ev.step (fun k => ?_) ih2
        rw [name_step k s i hlt hs, hbt, ← letter_is, if_neg (by rw [hl]; simp), if_neg (by omega), if_pos hd]
      | false =>
        have e : (c :: r).all (fun c => Base.letterB (c.toNat : Int) || Base.digitB (c.toNat : Int)) = false := by rw [List.all_cons, hl, hd]; rfl
        rw [e]
        refine Ev.step (f := fun _ => some false) (fun k => ?_) (Ev.now _)
        rw [name_step k s i hlt hs, hbt, ← letter_is, if_neg (by rw [hl]; simp), if_neg (by omega), if_neg (by rw [hd]; simp)]
theorem all_bytes (s : ByteArray) (p : Int → Bool) : (bytesOf s).all p = s.data.toList.all (fun c => p (c.toNat : Int)) := by
  rw [bytesOf, List.all_map]
  rfl
theorem rname_ev (s : ByteArray) (hs : s.size ≤ 9223372036854775807) : Ev (fun k => dryrotref07_Name.f k s) (Base.nameB s) := by
  refine Ev.congr (f := fun k => dryrotref07_Name.l0 k s ((0 : Nat) : Int)) (fun k => rfl) ?_
  have hz := Base.size_list s
  cases hd : s.data.toList with
  | nil =>
    have h0 : s.size = 0 := by rw [hz, hd]; rfl
    have e : Base.nameB s = false := by simp [Base.nameB, h0]
    rw [e]
    refine Ev.step (f := fun _ => some false) (fun k => ?_) (Ev.now _)
    simp only [dryrotref07_Name.l0]
    rw [if_neg (by omega), if_neg (by omega)]
  | cons c r =>
    obtain ⟨hlt, hbt, hr⟩ := at_byte s 0 c r (by rw [hd]; rfl)
    have ih := name_l0 s hs r 1 (Nat.le_refl _) (by rw [hd]; rfl)
    have hb : (bytesOf s).headD 0 = (c.toNat : Int) := by rw [bytesOf, hd]; rfl
    have e : Base.nameB s = (Base.letterB (c.toNat : Int) && (r.all (fun c => Base.letterB (c.toNat : Int) || Base.digitB (c.toNat : Int)) && (decide (1 ≤ s.size) && decide (s.size ≤ 24)))) := by
      rw [Base.nameB, all_bytes, hb, hd, List.all_cons]
      have h1 : decide (0 < s.size) = decide (1 ≤ s.size) := rfl
      rw [h1]
      cases Base.letterB (c.toNat : Int) <;> cases decide (1 ≤ s.size) <;> cases decide (s.size ≤ 24) <;> simp
    rw [e]
    cases hl : Base.letterB (c.toNat : Int) with
    | true =>
      rw [Bool.true_and]
      refine Ev.step (fun k => ?_) ih
      rw [name_step k s 0 hlt hs, hbt, ← letter_is, if_pos hl]
    | false =>
      rw [Bool.false_and]
      refine Ev.step (f := fun _ => some false) (fun k => ?_) (Ev.now _)
      rw [name_step k s 0 hlt hs, hbt, ← letter_is, if_neg (by rw [hl]; simp), if_pos rfl]
theorem plain_is (r : Int) : (!(decide (r < 32) || decide (r = 127) || decide (r = 65533))) = Base.plainB r := by
  unfold Base.plainB
  by_cases h : r < 32
  · have : ¬ 32 ≤ r := by omega
    simp [h, this]
  · have : 32 ≤ r := by omega
    simp [h, this]
theorem rvalue_is (s : ByteArray) : dryrotref07_Value.f s = some (Base.valueB s) := by
  have e : Base.plainTextB s = (Base.runesOf s).all Base.plainB := by
    unfold Base.plainTextB
    congr 1
    funext r
    exact plain_is r
  simp only [dryrotref07_Value.f, dryrotref07_Plain.f, Option.bind_some, e, Base.valueB]
  by_cases h1 : 1 ≤ s.size
  · rw [if_pos (by omega)]
    by_cases h2 : s.size ≤ 40
    · rw [if_pos (by omega)]
      have : 0 < s.size := h1
      simp [h2, this]
    · rw [if_neg (by omega)]
      simp [h2]
  · rw [if_neg (by omega)]
    have : ¬ 0 < s.size := h1
    simp [this]

/-! ### labels that may be, as the reference asks it -/
theorem rcan_l0 (l : List S42) (hl : l.length ≤ 8) (hs : ∀ y ∈ l, y.f0.size ≤ maxLen ∧ y.f1.size ≤ maxLen) : ∀ (r : List S42) (i : Nat) (last : ByteArray), l.drop i = r → (i = 0 → last = ⟨#[]⟩) → (0 < i → rd_T42 l ((i - 1 : Nat) : Int) = rd_T42 l ((i - 1 : Nat) : Int) ∧ (rd_T42 l ((i - 1 : Nat) : Int)).f0 = last) →
    Ev (fun k => dryrotref07_Can.l0 k l l (l.length : Int) (i : Int)) (okFrom last.data.toList r) := by
  intro r
  induction r with
  | nil =>
    intro i last h _ _
    have hi : l.length ≤ i := List.drop_eq_nil_iff.1 h
    refine Ev.step (f := fun _ => some true) (fun k => ?_) (Ev.now _)
    simp only [dryrotref07_Can.l0]
    rw [if_neg (by omega)]
  | cons x r ih =>
    intro i last h hfst hlast
    obtain ⟨hx, hi, hr⟩ := rd_drop l i x r h
    have hw := wrap_up i (by omega)
    have hmem : x ∈ l := List.mem_of_mem_drop (by rw [h]; simp)
    obtain ⟨K1, h1⟩ := rname_ev x.f0 (Nat.le_trans (hs x hmem).1 (by decide))
    obtain ⟨K2, h2⟩ := ih (i + 1) x.f0 hr (fun h => by omega) (fun _ => ⟨rfl, by rw [show i + 1 - 1 = i by omega, hx]⟩)
    refine ⟨max K1 K2 + 1, fun k hk => ?_⟩
    obtain ⟨k, rfl⟩ : ∃ k', k = k' + 1 := ⟨k - 1, by omega⟩
    have e1 : dryrotref07_Name.f k x.f0 = some (Base.nameB x.f0) := h1 k (by omega)
    have e2 : dryrotref07_Can.l0 k l l (l.length : Int) ((i + 1 : Nat) : Int) = some (okFrom x.f0.data.toList r) := h2 k (by omega)
    simp only [dryrotref07_Can.l0]
    rw [if_pos (by omega), if_pos (by omega), if_pos (by omega), hx, e1, rvalue_is, hw]
    simp only [Option.bind_some, okFrom, e2]
    cases hn : Base.nameB x.f0 with
    | false => simp
    | true =>
      cases hv : Base.valueB x.f1 with
      | false => simp
      | true =>
        by_cases h0 : i = 0
        · have hz := nameB_size hn
          have hb : Op.bytesLess last.data.toList x.f0.data.toList = true := by
            rw [hfst h0]
            cases hd : x.f0.data.toList with
            | nil => rw [Base.size_list, hd] at hz; simp at hz
            | cons c q => simp [Op.bytesLess]
          rw [if_pos rfl, if_pos rfl, if_neg (by omega), hb]
          rfl
        · have hwm : wrap64 ((i : Int) - 1) = ((i - 1 : Nat) : Int) := by unfold wrap64; omega
          rw [if_pos rfl, if_pos rfl, if_pos (by omega), hwm, if_pos (by omega), if_pos (by omega), (hlast (by omega)).2]
          simp only [ByteArray.toList_eq]
          cases hb : Op.bytesLess last.data.toList x.f0.data.toList with
          | false => simp
          | true => simp
theorem rcan_ev (l : List S42) (hs : ∀ y ∈ l, y.f0.size ≤ maxLen ∧ y.f1.size ≤ maxLen) : Ev (fun k => dryrotref07_Can.f k l) (canB l) := by
  by_cases h0 : l.length = 0
  · have hc : canB l = false := by simp [canB, h0]
    rw [hc]
    refine Ev.congr (f := fun k => dryrotref07_Can.j0 k l true) (fun k => ?_) ?_
    · simp only [dryrotref07_Can.f]
      rw [if_pos (by omega)]
    · refine Ev.step (f := fun _ => some false) (fun k => ?_) (Ev.now _)
      simp only [dryrotref07_Can.j0]
      simp
  · refine Ev.congr (f := fun k => dryrotref07_Can.j0 k l (decide ((l.length : Int) > 8))) (fun k => ?_) ?_
    · simp only [dryrotref07_Can.f]
      rw [if_neg (by omega)]
    · by_cases h8 : l.length ≤ 8
      · have hc : canB l = okFrom [] l := by
          have h1 : 1 ≤ l.length := by omega
          simp [canB, h1, h8]
        rw [hc]
        refine Ev.step (f := fun k => dryrotref07_Can.l0 k l l (l.length : Int) 0) (fun k => ?_) (rcan_l0 l h8 hs l 0 ⟨#[]⟩ rfl (fun _ => rfl) (fun h => by omega))
        simp only [dryrotref07_Can.j0]
        rw [if_neg (by simp; omega)]
      · have hc : canB l = false := by simp [canB, h8]
        rw [hc]
        refine Ev.step (f := fun _ => some false) (fun k => ?_) (Ev.now _)
        simp only [dryrotref07_Can.j0]
        rw [if_pos (by simp; omega)]
abbrev Lb := S42
abbrev Mt := S35
theorem less_iff (a b : List UInt8) : Op.bytesLess a b = true ↔ a < b := by rw [Go.Proofs.bytesLess_eq]; exact decide_eq_true_iff
theorem less_trans {a b c : List UInt8} (h1 : Op.bytesLess a b = true) (h2 : Op.bytesLess b c = true) : Op.bytesLess a c = true := by
  rw [less_iff] at *
  exact List.lt_trans h1 h2
theorem less_all : ∀ (l : List Lb) (last : List UInt8), okFrom last l = true → ∀ x ∈ l, Op.bytesLess last x.f0.data.toList = true := by
  intro l
  induction l with
  | nil => intro _ _ x hx; cases hx
  | cons y r ih =>
    intro last h x hx
    simp only [okFrom, Bool.and_eq_true] at h
    rcases List.mem_cons.1 hx with rfl | hx
    · exact h.1.2
    · exact less_trans h.1.2 (ih _ h.2 x hx)
theorem get_own : ∀ (l : List Lb) (last : List UInt8), okFrom last l = true → ∀ x ∈ l, labels_Get.get x.f0 l = x.f1 := by
  intro l
  induction l with
  | nil => intro _ _ x hx; cases hx
  | cons y r ih =>
    intro last h x hx
    simp only [okFrom, Bool.and_eq_true] at h
    rcases List.mem_cons.1 hx with rfl | hx
    · rw [labels_Get.get, if_pos rfl]
    · have h1 := less_all r _ h.2 x hx
      rw [labels_Get.get, if_neg (fun he => by
        rw [ByteArray.toList_eq, ByteArray.toList_eq] at he
        rw [he, Base.less_irrefl] at h1
        cases h1)]
      exact ih _ h.2 x hx
def mk (x : Lb) : Mt := ⟨1, x.f0, x.f1⟩
theorem can_ok {l : List Lb} (h : canB l = true) : 1 ≤ l.length ∧ l.length ≤ 8 ∧ okFrom [] l = true := by
  simp only [canB, Bool.and_eq_true, decide_eq_true_eq] at h
  exact ⟨h.1.1, h.1.2, h.2⟩
theorem dec_true {P : Prop} (h : P) : regex_Match.dec P = true := (regex_Match.dec_iff P).2 h
theorem dec_false {P : Prop} (h : ¬ P) : regex_Match.dec P = false := by
  cases hp : regex_Match.dec P with
  | false => rfl
  | true => exact absurd ((regex_Match.dec_iff P).1 hp) h
theorem all_own (l : List Lb) (n : Nat) (h : canB l = true) : match_All.ans ((l.take n).map mk) l = true := by
  refine dec_true (fun x hx => ?_)
  obtain ⟨y, hy, rfl⟩ := List.mem_map.1 hx
  exact Or.inl ⟨rfl, get_own l [] (can_ok h).2.2 y (List.mem_of_mem_take hy)⟩
theorem can_own (l : List Lb) (n : Nat) (hn : n ≤ 6) (h : canB l = true) : match_Can.CanB ((l.take n).map mk) = true := by
  unfold match_Can.CanB
  rw [Bool.and_eq_true]
  refine ⟨decide_eq_true (by rw [List.length_map, List.length_take]; omega), List.all_eq_true.2 (fun x hx => ?_)⟩
  obtain ⟨y, hy, rfl⟩ := List.mem_map.1 hx
  obtain ⟨h1, h2⟩ := okFrom_mem l [] (can_ok h).2.2 y (List.mem_of_mem_take hy)
  show match_can.canB 1 y.f0 y.f1 = true
  rw [match_can.of_pair (Or.inl rfl), h1, h2]
  simp
theorem all_none (l : List Lb) : match_All.ans [] l = true := dec_true (fun x hx => by cases hx)
theorem all_other (l : List Lb) (n j : Nat) (h : canB l = true) (hj : j < ((l.take n).map mk).length) (t : ByteArray) (ht : t.size ≠ 0) (y : Mt) (hy : ((l.take n).map mk)[j] = y) :
    match_All.ans (((l.take n).map mk).set j ⟨y.f0, y.f1, t ++ y.f2⟩) l = false := by
  refine dec_false (fun hall => ?_)
  obtain ⟨z, hz, hzy⟩ := List.mem_map.1 (List.getElem_mem hj)
  rw [hy] at hzy
  have h1 := hall ⟨y.f0, y.f1, t ++ y.f2⟩ (List.mem_iff_getElem.2 ⟨j, by rw [List.length_set]; exact hj, by rw [List.getElem_set_self]⟩)
  have hget := get_own l [] (can_ok h).2.2 z (List.mem_of_mem_take hz)
  subst hzy
  rcases h1 with ⟨_, h1⟩ | ⟨h1, _⟩ | ⟨h1, _⟩ | ⟨h1, _⟩
  · have h2 : labels_Get.get z.f0 l = t ++ z.f1 := h1
    rw [hget] at h2
    have := congrArg ByteArray.size h2
    rw [ByteArray.size_append] at this
    omega
  · exact absurd h1 (show ¬ (1 : Int) = 2 by decide)
  · exact absurd h1 (show ¬ (1 : Int) = 3 by decide)
  · exact absurd h1 (show ¬ (1 : Int) = 4 by decide)
theorem rd_mt (l : List Mt) (j : Nat) (hj : j < l.length) : rd_T35 l (j : Int) = l[j] := by
  simp [rd_T35, List.getD_eq_getElem?_getD, hj]
theorem wrap_nn (a : Int) : 0 ≤ IntKind.u64.wrap a := by
  unfold IntKind.wrap
  dsimp [IntKind.signed, IntKind.bits]
  first
    | exact Int.emod_nonneg _ (by decide)
    | (simp; omega)
theorem wrap_len (n : Nat) (hn : n ≤ 6) : IntKind.u64.wrap (n : Int) = (n : Int) := by
  have : ∀ m : Fin 7, IntKind.u64.wrap ((m.val : Nat) : Int) = ((m.val : Nat) : Int) := by decide +kernel
  exact this ⟨n, by omega⟩
theorem idx (a : Int) (n : Nat) (h1 : 1 ≤ n) (hn : n ≤ 6) : ∃ j : Nat, j < n ∧ wrap64 (Int.tmod (IntKind.u64.wrap a) (IntKind.u64.wrap (n : Int))) = (j : Int) := by
  rw [wrap_len n hn]
  have h0 := wrap_nn a
  generalize IntKind.u64.wrap a = x at h0
  obtain ⟨m, rfl⟩ := Int.eq_ofNat_of_zero_le h0
  refine ⟨m % n, Nat.mod_lt _ (by omega), ?_⟩
  have e : Int.tmod (m : Int) (n : Int) = ((m % n : Nat) : Int) := by
    rw [Int.tmod_eq_emod_of_nonneg (by omega)]
    exact (Int.natCast_emod m n).symm
  rw [e]
  have := Nat.mod_lt m (show 0 < n by omega)
  unfold wrap64
  omega
theorem own_l0 (l : List Lb) (a : Int) (n : Nat) (hn : n ≤ 6) (hnl : n ≤ l.length) (h1 : 1 ≤ n) (h : canB l = true) (hs : ∀ y ∈ l, y.f0.size ≤ maxLen ∧ y.f1.size ≤ maxLen) : ∀ (r : List Lb) (i : Nat), (l.take n).drop i = r →
    Ev (fun k => dryrotlaw09_MatchOwn.l0 k l a (((l.take n).take i).map mk) (l.take n) ((l.take n).length : Int) (i : Int)) true := by
  have hlen : (l.take n).length = n := by rw [List.length_take]; omega
  intro r
  induction r with
  | nil =>
    intro i hd
    have hi : (l.take n).length ≤ i := List.drop_eq_nil_iff.1 hd
    have ht : (l.take n).take i = l.take n := List.take_of_length_le hi
    refine Ev.step (f := fun _ => some true) (fun k => ?_) (Ev.now _)
    have hml : ((l.take n).map mk).length = n := by rw [List.length_map, hlen]
    obtain ⟨j, hj, hjx⟩ := idx a n h1 hn
    have hjm : j < ((l.take n).map mk).length := by omega
    simp only [dryrotlaw09_MatchOwn.l0]
    rw [if_neg (by omega), ht, hml, hjx, wrap_len n hn, if_neg (by omega)]
    have hcl : api_Matcher_22.f ((l.take n).map mk) = some ((l.take n).map mk) := by
      unfold api_Matcher_22.f
      rw [if_pos (by omega)]
    simp only [hcl, Option.bind_some]
    rw [if_pos (by omega), if_pos (by omega), rd_mt _ j hjm]
    obtain ⟨y, hy⟩ : ∃ y, ((l.take n).map mk)[j] = y := ⟨_, rfl⟩
    rw [hy]
    have hysz : y.f2.size ≤ 40 := by
      obtain ⟨z, hz, hzy⟩ := List.mem_map.1 (List.getElem_mem hjm)
      rw [hy] at hzy
      subst hzy
      exact (valueB_size (okFrom_mem l [] (can_ok h).2.2 z (List.mem_of_mem_take hz)).2).2
    rw [if_pos (by omega)]
    simp only [match_All.f, match_Can.f, Option.bind_some, Int.toNat_natCast]
    rw [if_pos (all_own l n h), if_pos (can_own l n hn h), all_other l n j h hjm ⟨#[110, 101, 118, 101, 114, 32]⟩ (by decide) y hy, all_none]
    simp
  | cons x r ih =>
    intro i hd
    obtain ⟨hx, hi, hr⟩ := rd_drop (l.take n) i x r hd
    have hw := wrap_up i (by omega)
    have ih2 := ih (i + 1) hr
    refine Ev.step (fun k => ?_) ih2
    have hacc : (((l.take n).take i).map mk).length = i := by rw [List.length_map, List.length_take]; omega
    have hstep : ((l.take n).take i).map mk ++ [(⟨1, x.f0, x.f1⟩ : Mt)] = ((l.take n).take (i + 1)).map mk := by
      have : (l.take n)[i]? = some x := by
        rw [List.drop_eq_getElem_cons hi] at hd
        rw [List.getElem?_eq_getElem hi, (List.cons.inj hd).1]
      rw [List.take_add_one, this, List.map_append]
      rfl
    simp only [dryrotlaw09_MatchOwn.l0]
    rw [if_pos (by omega), if_pos (by omega), if_pos (by omega), if_pos (by omega), hx, hw, hstep]
theorem own_row (l : List Lb) (a : Int) (hl : l.length * 32 ≤ 140737488351232 ∧ ∀ y ∈ l, (y.f0.size ≤ 140737488351232 ∧ y.f1.size ≤ 140737488351232)) (_ : (Lit.int .i64 a).wf = true) : Ev (fun k => dryrotlaw09_MatchOwn.f k l a) true := by
  have hs : ∀ y ∈ l, y.f0.size ≤ maxLen ∧ y.f1.size ≤ maxLen := fun y hy => ⟨Nat.le_trans (hl.2 y hy).1 (by decide), Nat.le_trans (hl.2 y hy).2 (by decide)⟩
  refine Ev.bind (rcan_ev l hs) ?_
  cases hc : canB l with
  | false =>
    refine Ev.congr (f := fun _ => some true) (fun k => ?_) (Ev.now true)
    simp [dryrotlaw09_awake.f]
  | true =>
    obtain ⟨h1, h8, _⟩ := can_ok hc
    obtain ⟨n, hn⟩ : ∃ n : Nat, n = min l.length 6 := ⟨_, rfl⟩
    have hmn : mn (l.length : Int) 6 = (n : Int) := by
      rw [hn]
      unfold mn
      split <;> omega
    refine Ev.congr (f := fun k => dryrotlaw09_MatchOwn.l0 k l a (((l.take n).take 0).map mk) (l.take n) ((l.take n).length : Int) ((0 : Nat) : Int)) (fun k => ?_) (own_l0 l a n (by omega) (by omega) (by omega) hc hs (l.take n) 0 rfl)
    rw [if_pos rfl, hmn, if_pos (by omega), if_pos (by omega)]
    simp
end Go.Proofs.YtgnehcgaplnfkaaDoor.Laws
