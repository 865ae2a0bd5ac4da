/- Plain laws: a text read as labels, by the program and by the reference. No program runs in it. -/
import Derived.Test.YtdbbfhmcbogknaaLawsNam
import Derived.Test.YtdbbfhmcbogknaaLaws2
import Derived.Test.YtdbbfhmcbogknaaPAllx47
import Derived.Test.YtdbbfhmcbogknaaPAllx49
import Derived.Lib.Bytealg
namespace Go.Proofs.Ytdbbfhmcbogknaa.Laws
open Go.RowKit Go.Proofs.Ytdbbfhmcbogknaa.PAll Go.Proofs.YtdbbfhmcbogknaaW.PrintWords Go.Proofs.YtdbbfhmcbogknaaW.PrintLast
set_option linter.unusedVariables false
set_option linter.unusedSimpArgs false

/-! ### cuts -/
theorem index_at : ∀ (w q : List UInt8) (c : UInt8), c ∉ w → Lib.indexByte (w ++ c :: q) c = (w.length : Int) := by
  intro w
  induction w with
  | nil => intro q c _; simp [Lib.indexByte]
  | cons x r ih =>
    intro q c h
    have h1 : ¬ x = c := fun e => h (by simp [e])
    have h2 := ih q c (fun e => h (by simp [e]))
    simp only [List.cons_append, Lib.indexByte, h2, beq_iff_eq, h1, if_false]
    rw [if_neg (by omega)]
    simp
theorem index_no : ∀ (w : List UInt8) (c : UInt8), c ∉ w → Lib.indexByte w c = -1 := by
  intro w
  induction w with
  | nil => intro c _; simp [Lib.indexByte]
  | cons x r ih =>
    intro c h
    have h1 : ¬ x = c := fun e => h (by simp [e])
    have h2 := ih c (fun e => h (by simp [e]))
    simp [Lib.indexByte, h2, h1]
theorem cut_at (s : ByteArray) (w q : List UInt8) (c : UInt8) (hs : s.size ≤ 1000000000000000) (h : s.data.toList = w ++ c :: q) (hn : c ∉ w) : strings_Cut.f s (⟨#[c]⟩ : ByteArray) = some (Base.ofL w, Base.ofL q, true) := by
  have hz := Base.size_list s
  rw [h] at hz
  simp only [List.length_append, List.length_cons] at hz
  have hi : stringslite_Index.f s (⟨#[c]⟩ : ByteArray) = some (w.length : Int) := by
    have e : (⟨#[c]⟩ : ByteArray).data.toList = [c] := rfl
    simp only [stringslite_Index.f, e, h, index_at w q c hn]
  have hc1 : (⟨#[c]⟩ : ByteArray).size = 1 := rfl
  have hw : wrap64 ((w.length : Int) + ((1 : Nat) : Int)) = ((w.length + 1 : Nat) : Int) := wrap_up w.length (by omega)
  have e1 : s.extract 0 ((w.length : Nat) : Int).toNat = Base.ofL w := Base.ext_data (by rw [Base.extract_list, h, Base.ofL_data]; simp)
  have e2 : s.extract ((w.length + 1 : Nat) : Int).toNat s.size = Base.ofL q := Base.ext_data (by rw [Base.extract_rest, h, Base.ofL_data]; simp)
  simp only [strings_Cut.f, stringslite_Cut.f, hi, Option.bind_some, hc1, hw]
  rw [if_pos (by omega), if_pos (by omega), if_pos (by omega), if_pos (by omega), if_pos (by omega), e1, e2]
  rfl
theorem cut_not (s : ByteArray) (c : UInt8) (hn : c ∉ s.data.toList) : strings_Cut.f s (⟨#[c]⟩ : ByteArray) = some (s, (⟨#[]⟩ : ByteArray), false) := by
  have hi : stringslite_Index.f s (⟨#[c]⟩ : ByteArray) = some (-1) := by
    have e : (⟨#[c]⟩ : ByteArray).data.toList = [c] := rfl
    simp only [stringslite_Index.f, e, index_no _ c hn]
  simp only [strings_Cut.f, stringslite_Cut.f, hi, Option.bind_some]
  rw [if_neg (by omega)]
  rfl

/-! ### what is read -/
def cutL (c : UInt8) : List UInt8 → Option (List UInt8 × List UInt8)
  | [] => none
  | x :: r => if x = c then some ([], r) else (cutL c r).map fun p => (x :: p.1, p.2)
theorem cutL_some : ∀ (c : UInt8) (l w q : List UInt8), cutL c l = some (w, q) ↔ (l = w ++ c :: q ∧ c ∉ w) := by
  intro c l
  induction l with
  | nil => intro w q; simp [cutL]
  | cons x r ih =>
    intro w q
    by_cases hx : x = c
    · subst hx
      simp only [cutL, if_true, Option.some.injEq, Prod.mk.injEq]
      constructor
      · rintro ⟨rfl, rfl⟩; simp
      · rintro ⟨h, hn⟩
        cases w with
        | nil => simp at h; exact ⟨rfl, h⟩
        | cons y w => simp at h hn; exact absurd h.1.symm (fun e => hn.1 e.symm)
    · simp only [cutL, hx, if_false, Option.map_eq_some_iff, Prod.mk.injEq]
      constructor
      · rintro ⟨⟨a, b⟩, h1, rfl, rfl⟩
        obtain ⟨h2, h3⟩ := (ih a b).1 h1
        refine ⟨by simp [h2], by simp [h3]; exact fun e => hx e.symm⟩
      · rintro ⟨h, hn⟩
        cases w with
        | nil => simp at h; exact absurd h.1 hx
        | cons y w =>
          simp only [List.cons_append, List.cons.injEq] at h
          simp only [List.mem_cons, not_or] at hn
          exact ⟨(w, q), (ih w q).2 ⟨h.2, hn.2⟩, by rw [h.1], rfl⟩
theorem cutL_none (c : UInt8) (l : List UInt8) : cutL c l = none ↔ c ∉ l := by
  induction l with
  | nil => simp [cutL]
  | cons x r ih =>
    by_cases hx : x = c
    · simp [cutL, hx]
    · simp only [cutL, hx, if_false, Option.map_eq_none_iff, ih, List.mem_cons, not_or]
      exact ⟨fun h => ⟨fun e => hx e.symm, h⟩, fun h => h.2⟩
def unqT : List UInt8 → Option (List UInt8 × List UInt8)
  | [] => none
  | c :: r => if c = 34 then Base.unqL r [] else none
theorem unq_is (s : ByteArray) : Base.unq s = outU (unqT s.data.toList) := by
  cases h : s.data.toList with
  | nil => rw [unq_else s (by simp [h])]; rfl
  | cons c r =>
    by_cases hc : c = 34
    · rw [unq_cons s r (by rw [h, hc])]
      simp [unqT, hc]
    · rw [unq_else s (fun r' e => hc (by rw [h] at e; exact (List.cons.inj e).1))]
      simp [unqT, hc, outU]
theorem unqL_rest : ∀ (n : Nat) (l acc a q : List UInt8), l.length ≤ n → Base.unqL l acc = some (a, q) → a.length ≤ acc.length + l.length ∧ q.length < l.length := by
  intro n
  induction n with
  | zero =>
    intro l acc a q hn h
    cases l with
    | nil => simp [Base.unqL] at h
    | cons x r => simp at hn
  | succ n ih =>
    intro l acc a q hn h
    cases l with
    | nil => simp [Base.unqL] at h
    | cons c r =>
      unfold Base.unqL at h
      by_cases h1 : c = 34
      · rw [if_pos h1] at h
        obtain ⟨rfl, rfl⟩ := Prod.mk.inj (Option.some.inj h)
        simp
      · rw [if_neg h1] at h
        by_cases h2 : c = 92
        · rw [if_pos h2] at h
          cases r with
          | nil => simp at h
          | cons d q2 =>
            simp only at h
            by_cases h3 : d = 34 ∨ d = 92
            · rw [if_pos h3] at h
              have := ih q2 _ _ _ (by simp at hn; omega) h
              simp at this ⊢
              omega
            · rw [if_neg h3] at h
              cases h
        · rw [if_neg h2] at h
          have := ih r _ _ _ (by simp at hn; omega) h
          simp at this ⊢
          omega
theorem unqT_len {l a q : List UInt8} (h : unqT l = some (a, q)) : a.length ≤ l.length ∧ q.length ≤ l.length := by
  cases l with
  | nil => simp [unqT] at h
  | cons c r =>
    simp only [unqT] at h
    split at h
    · have := unqL_rest _ _ _ _ _ (Nat.le_refl _) h
      simp at this ⊢
      omega
    · cases h

/-- Behind a comma. -/
def onMore (more : List UInt8) (go : List UInt8 → Option (List S41)) : Option (List S41) := match more with
  | [] => none
  | c :: m => if c = 44 then go m else none
/-- Labels out of a text, at most so many more. -/
def parseL : Nat → List UInt8 → List S41 → Option (List S41)
  | 0, _, _ => none
  | n + 1, t, acc => match cutL 61 t with
    | none => none
    | some (w, q) => match unqT q with
      | none => none
      | some (v, more) => if more = [125] ∧ canB (acc ++ [(⟨Base.ofL w, Base.ofL v⟩ : S41)]) = true then some (acc ++ [(⟨Base.ofL w, Base.ofL v⟩ : S41)]) else
        onMore more fun m => parseL n m (acc ++ [(⟨Base.ofL w, Base.ofL v⟩ : S41)])
def outP (o : Option (List S41)) : List S41 × Int := match o with
  | some l => (l, 0)
  | none => ([], 5)
def parse (s : ByteArray) : List S41 × Int := match s.data.toList with
  | [] => ([], 5)
  | c :: r => if c = 123 then outP (parseL 8 r []) else ([], 5)
theorem parseL_can : ∀ (n : Nat) (t : List UInt8) (acc l : List S41), parseL n t acc = some l → canB l = true ∧ ∃ r, l = acc ++ r := by
  intro n
  induction n with
  | zero => intro t acc l h; cases h
  | succ n ih =>
    intro t acc l h
    simp only [parseL] at h
    split at h
    · cases h
    · split at h
      · cases h
      · rename_i w q _ v more _
        split at h
        · rename_i hc
          cases h
          exact ⟨hc.2, _, rfl⟩
        · unfold onMore at h
          split at h
          · cases h
          · split at h
            · obtain ⟨h1, r, h2⟩ := ih _ _ _ h
              exact ⟨h1, _, by rw [h2, List.append_assoc]⟩
            · cases h
theorem canB_mem {l : List S41} (h : canB l = true) : ∀ x ∈ l, Base.nameB x.f0 = true ∧ Base.valueB x.f1 = true := by
  simp only [canB, Bool.and_eq_true] at h
  exact okFrom_mem l [] h.2

/-! ### the program's -/
theorem cp_no (c : UInt8) (s : ByteArray) (h : ∀ r, s.data.toList ≠ c :: r) : strings_CutPrefix.f s (⟨#[c]⟩ : ByteArray) = some (s, false) := labels_Unquote.cut_no c s h
theorem cp_yes (c : UInt8) (s : ByteArray) (r : List UInt8) (h : s.data.toList = c :: r) : strings_CutPrefix.f s (⟨#[c]⟩ : ByteArray) = some (Base.ofL r, true) := by
  rw [labels_Unquote.cut_yes c s r h]
  have e : s.extract 1 s.size = Base.ofL r := Base.ext_data (by rw [Base.extract_rest, h, Base.ofL_data]; rfl)
  rw [e]
theorem par_false (s : ByteArray) (acc : List S41) : Ev (fun k => labels_Parse.l0 k s acc false) (([] : List S41), (5 : Int)) := by
  refine Ev.step (f := fun k => labels_Parse.j1 k s acc false) (fun k => ?_) ?_
  · simp only [labels_Parse.l0]
    rw [if_neg (by simp)]
  · refine Ev.step (f := fun _ => some (([] : List S41), (5 : Int))) (fun k => ?_) (Ev.now _)
    simp only [labels_Parse.j1]
    rw [if_neg (by simp)]
theorem j2_true (acc : List S41) (a b c : ByteArray) : Ev (fun k => labels_Parse.j2 k acc a b c true) (([] : List S41), (5 : Int)) := by
  refine Ev.step (f := fun _ => some (([] : List S41), (5 : Int))) (fun k => ?_) (Ev.now _)
  simp only [labels_Parse.j2]
  first | rw [if_pos rfl] | rw [if_pos trivial]
theorem par_l0 : ∀ (n : Nat) (s : ByteArray) (acc : List S41), n + acc.length = 8 → s.size ≤ 140737488351232 → Ev (fun k => labels_Parse.l0 k s acc true) (outP (parseL n s.data.toList acc)) := by
  intro n
  induction n with
  | zero =>
    intro s acc hn hs
    refine Ev.step (f := fun k => labels_Parse.j1 k s acc false) (fun k => ?_) ?_
    · simp only [labels_Parse.l0]
      first | rw [if_pos rfl] | rw [if_pos trivial]
      have : ¬ ((acc.length : Int) < 8) := by omega
      simp [this]
    · refine Ev.step (f := fun _ => some (([] : List S41), (5 : Int))) (fun k => ?_) (Ev.now _)
      simp only [labels_Parse.j1]
      rw [if_neg (by simp)]
  | succ n ih =>
    intro s acc hn hs
    have hz := Base.size_list s
    refine Ev.step (f := fun k => labels_Parse.j1 k s acc true) (fun k => ?_) ?_
    · simp only [labels_Parse.l0]
      first | rw [if_pos rfl] | rw [if_pos trivial]
      have : ((acc.length : Int) < 8) := by omega
      simp [this]
    · cases hc : cutL 61 s.data.toList with
      | none =>
        have hcut := cut_not s 61 ((cutL_none _ _).1 hc)
        have e : parseL (n + 1) s.data.toList acc = none := by simp only [parseL, hc]
        rw [e]
        have hu : labels_Unquote.f (⟨#[]⟩ : ByteArray) = some ((⟨#[]⟩ : ByteArray), (⟨#[]⟩ : ByteArray), 5) := by
          rw [unquote_some (by decide), unq_is]
          rfl
        refine Ev.step (fun k => ?_) (j2_true acc s (⟨#[]⟩ : ByteArray) (⟨#[]⟩ : ByteArray))
        simp only [labels_Parse.j1]
        first | rw [if_pos rfl, hcut] | rw [if_pos trivial, hcut]
        simp only [Option.bind_some, hu]
        rw [if_neg (by simp)]
      | some p =>
        obtain ⟨w, q⟩ := p
        obtain ⟨hl, hnw⟩ := (cutL_some _ _ _ _).1 hc
        have hcut := cut_at s w q 61 (by omega) hl hnw
        have hlen : w.length + q.length + 1 = s.size := by rw [hz, hl]; simp; omega
        have hu : labels_Unquote.f (Base.ofL q) = some (outU (unqT q)) := by
          rw [unquote_some (by rw [Base.size_list, Base.ofL_data]; omega), unq_is, Base.ofL_data]
        cases hq : unqT q with
        | none =>
          have e : parseL (n + 1) s.data.toList acc = none := by simp only [parseL, hc, hq]
          rw [e]
          refine Ev.step (fun k => ?_) (j2_true acc (Base.ofL w) (⟨#[]⟩ : ByteArray) (⟨#[]⟩ : ByteArray))
          simp only [labels_Parse.j1]
          first | rw [if_pos rfl, hcut] | rw [if_pos trivial, hcut]
          simp only [Option.bind_some, hu, hq, outU]
          first | rw [if_pos rfl] | rw [if_pos trivial]
          rfl
        | some p =>
          obtain ⟨v, more⟩ := p
          have hl2 := unqT_len hq
          refine Ev.step (f := fun k => labels_Parse.j2 k acc (Base.ofL w) (Base.ofL more) (Base.ofL v) false) (fun k => ?_) ?_
          · simp only [labels_Parse.j1]
            first | rw [if_pos rfl, hcut] | rw [if_pos trivial, hcut]
            simp only [Option.bind_some, hu, hq, outU]
            first | rw [if_pos rfl] | rw [if_pos trivial]
            rfl
          · have hP : parseL (n + 1) s.data.toList acc = if more = [125] ∧ canB (acc ++ [(⟨Base.ofL w, Base.ofL v⟩ : S41)]) = true then some (acc ++ [(⟨Base.ofL w, Base.ofL v⟩ : S41)]) else onMore more fun m => parseL n m (acc ++ [(⟨Base.ofL w, Base.ofL v⟩ : S41)]) := by simp only [parseL, hc, hq]
            rw [hP]
            clear hP
            have hj : ∀ k, labels_Parse.j2 (k + 1) acc (Base.ofL w) (Base.ofL more) (Base.ofL v) false = (if (Base.ofL more).toList = ([125] : List UInt8) then ((labels_Can.f k (acc ++ [(⟨Base.ofL w, Base.ofL v⟩ : S41)])).bind fun t250 => (if t250 = true then (some (acc ++ [(⟨Base.ofL w, Base.ofL v⟩ : S41)], 0)) else ((strings_CutPrefix.f (Base.ofL more) (⟨#[44]⟩ : ByteArray)).bind fun bt251 => (labels_Parse.l0 k bt251.1 (acc ++ [(⟨Base.ofL w, Base.ofL v⟩ : S41)]) bt251.2)))) else ((strings_CutPrefix.f (Base.ofL more) (⟨#[44]⟩ : ByteArray)).bind fun bt253 => (labels_Parse.l0 k bt253.1 (acc ++ [(⟨Base.ofL w, Base.ofL v⟩ : S41)]) bt253.2))) := by
              intro k
              simp only [labels_Parse.j2]
              rw [if_neg (by simp), if_pos (by omega)]
              simp only [Option.bind_some]
            rw [show (Base.ofL more).toList = more by rw [ByteArray.toList_eq, Base.ofL_data]] at hj
            have hlen' : (acc ++ [(⟨Base.ofL w, Base.ofL v⟩ : S41)]).length = acc.length + 1 := by simp
            generalize acc ++ [(⟨Base.ofL w, Base.ofL v⟩ : S41)] = acc2 at hj hlen' ⊢
            by_cases hm : more = [125]
            · subst hm
              refine Ev.step hj ?_
              refine Ev.congr (f := fun k => (labels_Can.f k acc2).bind fun t250 => (if t250 = true then (some (acc2, 0)) else ((strings_CutPrefix.f (Base.ofL [125]) (⟨#[44]⟩ : ByteArray)).bind fun bt251 => (labels_Parse.l0 k bt251.1 acc2 bt251.2)))) (fun k => by rw [if_pos rfl]) ?_
              refine Ev.bind (can_ev acc2) ?_
              cases hcan : canB acc2 with
              | true => exact Ev.congr (f := fun _ => some (acc2, (0 : Int))) (fun k => by simp) (by simpa [outP] using Ev.now (acc2, (0 : Int)))
              | false =>
                have hcp := cp_no 44 (Base.ofL [125]) (fun r e => by rw [Base.ofL_data] at e; cases e)
                have e : (outP (if [(125 : UInt8)] = [125] ∧ false = true then some acc2 else onMore [(125 : UInt8)] fun m => parseL n m acc2)) = (([] : List S41), (5 : Int)) := by simp [outP, onMore]
                rw [e]
                refine Ev.congr (fun k => ?_) (par_false (Base.ofL [125]) acc2)
                simp [hcp]
            · have e1 : (if more = [125] ∧ canB acc2 = true then some acc2 else onMore more fun m => parseL n m acc2) = onMore more fun m => parseL n m acc2 := if_neg (fun h => hm h.1)
              rw [e1]
              cases more with
              | nil =>
                have hcp := cp_no 44 (Base.ofL []) (fun r e => by rw [Base.ofL_data] at e; cases e)
                refine Ev.step hj (Ev.congr (fun k => ?_) (par_false (Base.ofL []) acc2))
                rw [if_neg hm, hcp]
                rfl
              | cons c m =>
                by_cases h44 : c = 44
                · subst h44
                  have hcp := cp_yes 44 (Base.ofL (44 :: m)) m (Base.ofL_data _)
                  simp only [onMore, if_true]
                  have ih2 := ih (Base.ofL m) acc2 (by omega) (by rw [Base.size_list, Base.ofL_data]; simp at hl2; omega)
                  rw [Base.ofL_data] at ih2
                  refine Ev.step hj (Ev.congr (fun k => ?_) ih2)
                  rw [if_neg hm, hcp]
                  rfl
                · have hcp := cp_no 44 (Base.ofL (c :: m)) (fun r e => by rw [Base.ofL_data] at e; exact h44 (List.cons.inj e).1)
                  simp only [onMore, h44, if_false]
                  refine Ev.step hj (Ev.congr (fun k => ?_) (par_false (Base.ofL (c :: m)) acc2))
                  rw [if_neg hm, hcp]
                  rfl
theorem parse_ev (s : ByteArray) (hs : s.size ≤ 140737488351232) : Ev (fun k => labels_Parse.f k s) (parse s) := by
  unfold parse
  cases hd : s.data.toList with
  | nil =>
    have hcp := cp_no 123 s (fun r e => by rw [hd] at e; cases e)
    refine Ev.congr (fun k => ?_) (par_false s [])
    simp only [labels_Parse.f, hcp, Option.bind_some]
  | cons c r =>
    by_cases hc : c = 123
    · subst hc
      have hcp := cp_yes 123 s r hd
      have hz := Base.size_list s
      rw [hd] at hz
      simp at hz
      have h2 := par_l0 8 (Base.ofL r) [] (by simp) (by rw [Base.size_list, Base.ofL_data]; omega)
      rw [Base.ofL_data] at h2
      simp only [if_true]
      refine Ev.congr (fun k => ?_) h2
      simp only [labels_Parse.f, hcp, Option.bind_some]
    · have hcp := cp_no 123 s (fun r' e => by rw [hd] at e; exact hc (List.cons.inj e).1)
      simp only [hc, if_false]
      refine Ev.congr (fun k => ?_) (par_false s [])
      simp only [labels_Parse.f, hcp, Option.bind_some]

/-! ### the reference's -/
def nb (c : UInt8) : Bool := Base.letterB (c.toNat : Int) || Base.digitB (c.toNat : Int)
theorem name_of (c : UInt8) (x : ByteArray) (h : x.data.toList = [97, c]) : Base.nameB x = nb c := by
  have hz := Base.size_list x
  rw [h] at hz
  have h2 : x.size = 2 := hz
  have h3 : bytesOf x = [97, (c.toNat : Int)] := by rw [bytesOf, h]; rfl
  have h4 : Base.letterB 97 = true := by decide +kernel
  simp [Base.nameB, h2, h3, h4, nb]
theorem take_tw (p : UInt8 → Bool) : ∀ l : List UInt8, l.take (l.takeWhile p).length = l.takeWhile p := by
  intro l
  induction l with
  | nil => rfl
  | cons x r ih =>
    rw [List.takeWhile_cons]
    split
    · simp [ih]
    · rfl
theorem mem_tw (p : UInt8 → Bool) : ∀ (l : List UInt8) (x : UInt8), x ∈ l.takeWhile p → p x = true := by
  intro l
  induction l with
  | nil => intro x h; cases h
  | cons y r ih =>
    intro x h
    rw [List.takeWhile_cons] at h
    split at h
    · rcases List.mem_cons.1 h with rfl | h
      · assumption
      · exact ih x h
    · cases h
theorem head_dw (p : UInt8 → Bool) : ∀ (l : List UInt8) (c : UInt8) (r : List UInt8), l.dropWhile p = c :: r → p c = false := by
  intro l
  induction l with
  | nil => intro c r h; cases h
  | cons y q ih =>
    intro c r h
    rw [List.dropWhile_cons] at h
    split at h
    · exact ih c r h
    · rename_i h2
      cases h
      simpa using h2
theorem toNat_is (c d : UInt8) : ((c.toNat : Int) = (d.toNat : Int)) ↔ c = d := ⟨fun e => UInt8.toNat_inj.1 (by omega), fun e => by rw [e]⟩
theorem word_l0 (s : ByteArray) (hs : s.size ≤ 140737488351232) : ∀ (r : List UInt8) (i : Nat), s.data.toList.drop i = r → i ≤ s.size →
    Ev (fun k => dryrotref07_Word.l0 k s (i : Int)) (Base.ofL (s.data.toList.take (i + (r.takeWhile nb).length)), Base.ofL (r.dropWhile nb)) := by
  intro r
  induction r with
  | nil =>
    intro i h hi
    have h1 := no_byte s i h
    have h2 : i = s.size := by omega
    have e1 : s.extract 0 ((i : Nat) : Int).toNat = Base.ofL (s.data.toList.take (i + (([] : List UInt8).takeWhile nb).length)) := Base.ext_data (by rw [Base.extract_list, Base.ofL_data]; simp)
    have e2 : s.extract ((i : Nat) : Int).toNat s.size = Base.ofL (([] : List UInt8).dropWhile nb) := Base.ext_data (by rw [Base.extract_rest, Base.ofL_data]; exact h)
    rw [← e1, ← e2]
    refine Ev.step (f := fun _ => some (s.extract 0 ((i : Nat) : Int).toNat, s.extract ((i : Nat) : Int).toNat s.size)) (fun k => ?_) (Ev.now _)
    simp only [dryrotref07_Word.l0]
    rw [if_neg (by omega), if_pos (by omega), if_pos (by omega)]
  | cons c r ih =>
    intro i h hi
    obtain ⟨hlt, hbt, hr⟩ := at_byte s i c r h
    have hw := wrap_up i (by omega)
    have hx : (⟨#[97]⟩ : ByteArray) ++ s.extract ((i : Nat) : Int).toNat ((i + 1 : Nat) : Int).toNat = Base.ofL [97, c] := Base.ext_data (by
      rw [Base.append_data, Base.extract_list, Base.ofL_data]
      have : ((i + 1 : Nat) : Int).toNat - ((i : Nat) : Int).toNat = 1 := by omega
      rw [this, show ((i : Nat) : Int).toNat = i by omega, h]
      rfl)
    have hxs : (s.extract ((i : Nat) : Int).toNat ((i + 1 : Nat) : Int).toNat).size ≤ 1 := by
      rw [ByteArray.size_extract]
      omega
    have hn := rname_ev (Base.ofL [97, c]) (by rw [Base.size_list, Base.ofL_data]; simp)
    rw [name_of c (Base.ofL [97, c]) (Base.ofL_data _)] at hn
    have hstep : ∀ k, dryrotref07_Word.l0 (k + 1) s (i : Int) = ((dryrotref07_Name.f k (Base.ofL [97, c])).bind fun t255 => (if t255 = true then (dryrotref07_Word.l0 k s ((i + 1 : Nat) : Int)) else (some (s.extract 0 (i : Int).toNat, s.extract (i : Int).toNat s.size)))) := by
      intro k
      simp only [dryrotref07_Word.l0]
      rw [hw, if_pos (by omega), if_pos (by omega), if_pos (by omega), if_pos (by omega), if_pos (by omega), hx]
      have : ((i : Int) ≤ (s.size : Int)) := by omega
      simp only [this, if_true]
    refine Ev.step hstep (Ev.bind hn ?_)
    cases hb : nb c with
    | true =>
      have ih2 := ih (i + 1) hr (by omega)
      have e1 : (c :: r).takeWhile nb = c :: r.takeWhile nb := by rw [List.takeWhile_cons, if_pos hb]
      have e2 : (c :: r).dropWhile nb = r.dropWhile nb := by rw [List.dropWhile_cons, if_pos hb]
      rw [e1, e2, show i + (c :: r.takeWhile nb).length = i + 1 + (r.takeWhile nb).length by simp; omega]
      exact Ev.congr (fun k => by simp) ih2
    | false =>
      have e1 : (c :: r).takeWhile nb = [] := by rw [List.takeWhile_cons, if_neg (by simp [hb])]
      have e2 : (c :: r).dropWhile nb = c :: r := by rw [List.dropWhile_cons, if_neg (by simp [hb])]
      rw [e1, e2]
      have e3 : s.extract 0 ((i : Nat) : Int).toNat = Base.ofL (s.data.toList.take (i + ([] : List UInt8).length)) := Base.ext_data (by rw [Base.extract_list, Base.ofL_data]; simp)
      have e4 : s.extract ((i : Nat) : Int).toNat s.size = Base.ofL (c :: r) := Base.ext_data (by rw [Base.extract_rest, Base.ofL_data]; exact h)
      rw [← e3, ← e4]
      exact Ev.congr (fun k => by simp) (Ev.now _)
theorem word_ev (s : ByteArray) (hs : s.size ≤ 140737488351232) : Ev (fun k => dryrotref07_Word.f k s) (Base.ofL (s.data.toList.takeWhile nb), Base.ofL (s.data.toList.dropWhile nb)) := by
  have h := word_l0 s hs s.data.toList 0 rfl (by omega)
  have e : s.data.toList.take (0 + (s.data.toList.takeWhile nb).length) = s.data.toList.takeWhile nb := by
    rw [Nat.zero_add]
    exact take_tw nb _
  rw [e] at h
  exact h

/-- A name with another byte in it: nothing is read. -/
theorem parse_bad (n : Nat) (t w : List UInt8) (acc : List S41) (c : UInt8) (r : List UInt8) (h : t.dropWhile nb = c :: r) (hc : ¬ c = 61) (hb : nb c = false) : parseL (n + 1) t acc = none := by
  cases hp : parseL (n + 1) t acc with
  | none => rfl
  | some l =>
    exfalso
    simp only [parseL] at hp
    split at hp
    · cases hp
    · rename_i w q hcut
      obtain ⟨h1, h2⟩ := (cutL_some _ _ _ _).1 hcut
      have hmem : c ∈ w := by
        have h3 : t = t.takeWhile nb ++ c :: r := by rw [← h, List.takeWhile_append_dropWhile]
        rw [h1] at h3
        rcases List.append_eq_append_iff.1 h3 with ⟨a, h4, h5⟩ | ⟨a, h4, h5⟩
        · cases a with
          | nil => simp at h5; exact absurd h5.1.symm hc
          | cons x a =>
            simp at h5
            have h6 : (61 : UInt8) ∈ t.takeWhile nb := by rw [h1, h4, ← h5.1]; simp
            have h7 := mem_tw nb _ _ h6
            have h8 : nb 61 = false := by decide +kernel
            rw [h8] at h7
            cases h7
        · cases a with
          | nil => simp at h5; exact absurd h5.1 hc
          | cons x a => simp at h5; rw [h4, h5.1]; simp
      have hbad : ∀ (v : List UInt8) (r2 l2 : List S41), canB l2 = true → l2 = acc ++ [(⟨Base.ofL w, Base.ofL v⟩ : S41)] ++ r2 → False := by
        intro v r2 l2 hcan hl2
        have h3 := (canB_mem hcan ⟨Base.ofL w, Base.ofL v⟩ (by rw [hl2]; simp)).1
        simp only [Base.nameB, Bool.and_eq_true] at h3
        have h4 := h3.2
        rw [all_bytes, Base.ofL_data] at h4
        have h5 := List.all_eq_true.1 h4 c hmem
        rw [show (Base.letterB (c.toNat : Int) || Base.digitB (c.toNat : Int)) = nb c from rfl, hb] at h5
        cases h5
      split at hp
      · cases hp
      · rename_i v more _
        split at hp
        · rename_i hcan
          exact hbad v [] _ hcan.2 (by simp)
        · unfold onMore at hp
          split at hp
          · cases hp
          · split at hp
            · obtain ⟨h3, r2, h4⟩ := parseL_can _ _ _ _ hp
              exact hbad v r2 _ h3 h4
            · cases hp
theorem rj2_true (acc : List S41) (a b : ByteArray) : Ev (fun k => dryrotref07_Parse.j2 k acc a b true) (([] : List S41), (5 : Int)) := by
  refine Ev.step (f := fun _ => some (([] : List S41), (5 : Int))) (fun k => ?_) (Ev.now _)
  simp only [dryrotref07_Parse.j2]
  first | rw [if_pos rfl] | rw [if_pos trivial]
theorem rj3_true (acc : List S41) (a b c : ByteArray) : Ev (fun k => dryrotref07_Parse.j3 k acc a b c true) (([] : List S41), (5 : Int)) := by
  refine Ev.step (f := fun _ => some (([] : List S41), (5 : Int))) (fun k => ?_) (Ev.now _)
  simp only [dryrotref07_Parse.j3]
  first | rw [if_pos rfl] | rw [if_pos trivial]

theorem nb61 : nb 61 = false := by decide +kernel
theorem cut_tw (t r : List UInt8) (h : t.dropWhile nb = 61 :: r) : cutL 61 t = some (t.takeWhile nb, r) := by
  refine (cutL_some _ _ _ _).2 ⟨by rw [← h, List.takeWhile_append_dropWhile], fun e => ?_⟩
  have := mem_tw nb _ _ e
  rw [nb61] at this
  cases this
theorem cut_tw_none (t : List UInt8) (h : t.dropWhile nb = []) : cutL 61 t = none := by
  refine (cutL_none _ _).2 fun e => ?_
  have h2 : t = t.takeWhile nb := by
    conv => lhs; rw [← List.takeWhile_append_dropWhile (p := nb) (l := t), h]
    simp
  rw [h2] at e
  have := mem_tw nb _ _ e
  rw [nb61] at this
  cases this
theorem first_byte (c : UInt8) (r : List UInt8) : 1 ≤ (Base.ofL (c :: r)).size ∧ bt (Base.ofL (c :: r)) 0 = (c.toNat : Int) ∧ (Base.ofL (c :: r)).extract 1 (Base.ofL (c :: r)).size = Base.ofL r := by
  refine ⟨by rw [Base.size_list, Base.ofL_data]; simp, ?_, Base.ext_data (by rw [Base.extract_rest, Base.ofL_data, Base.ofL_data]; rfl)⟩
  have h := at_byte (Base.ofL (c :: r)) 0 c r (by rw [Base.ofL_data]; rfl)
  exact h.2.1
theorem rpar_l0 : ∀ (n : Nat) (s : ByteArray) (acc : List S41), n + acc.length = 8 → s.size ≤ 140737488351232 → (∀ y ∈ acc, y.f0.size ≤ maxLen ∧ y.f1.size ≤ maxLen) → Ev (fun k => dryrotref07_Parse.l0 k s acc) (outP (parseL n s.data.toList acc)) := by
  intro n
  induction n using Nat.strongRecOn with
  | _ n ih =>
  intro s acc hn hs hacc
  have hz := Base.size_list s
  cases hd : s.data.toList.dropWhile nb with
  | nil =>
    have hP : parseL n s.data.toList acc = none := by
      cases n with
      | zero => rfl
      | succ n => simp only [parseL, cut_tw_none _ hd]
    rw [hP]
    have hw := word_ev s hs
    rw [hd] at hw
    refine Ev.step (fun k => rfl) (Ev.bind hw ?_)
    refine Ev.congr (fun k => ?_) (rj2_true acc (Base.ofL (s.data.toList.takeWhile nb)) (Base.ofL []))
    rw [if_pos (by rfl)]
  | cons c r =>
    have hw := word_ev s hs
    rw [hd] at hw
    obtain ⟨f1, f2, f3⟩ := first_byte c r
    have htl : s.data.toList = s.data.toList.takeWhile nb ++ c :: r := by rw [← hd, List.takeWhile_append_dropWhile]
    have hlen : (s.data.toList.takeWhile nb).length + r.length + 1 = s.size := by
      rw [hz]
      conv => rhs; rw [htl]
      simp
      omega
    refine Ev.step (fun k => rfl) (Ev.bind hw ?_)
    refine Ev.congr (f := fun k => dryrotref07_Parse.j2 k acc (Base.ofL (s.data.toList.takeWhile nb)) (Base.ofL (c :: r)) ((bt (Base.ofL (c :: r)) 0) != 61)) (fun k => ?_) ?_
    · show (if ((Base.ofL (c :: r)).size : Int) = 0 then _ else (if 0 < ((Base.ofL (c :: r)).size : Int) then _ else _)) = _
      rw [if_neg (by omega), if_pos (by omega)]
    · rw [f2]
      by_cases hc : c = 61
      · subst hc
        have hcut := cut_tw _ _ hd
        have hu := runq_ev (Base.ofL r) (by rw [Base.size_list, Base.ofL_data]; omega)
        rw [unq_is, Base.ofL_data] at hu
        have hbf : (((61 : UInt8).toNat : Int) != 61) = false := by decide
        rw [hbf]
        generalize hwd : s.data.toList.takeWhile nb = w at hcut hlen ⊢
        refine Ev.step (f := fun k => ((dryrotref07_Unquote.f k (Base.ofL r)).bind fun bt258 => (if bt258.2.2 = 0 then (if (bt258.2.1.size : Int) = 0 then (dryrotref07_Parse.j3 k acc (Base.ofL w) bt258.1 bt258.2.1 true) else (dryrotref07_Parse.j3 k acc (Base.ofL w) bt258.1 bt258.2.1 (decide ((acc.length : Int) ≥ 8)))) else (dryrotref07_Parse.j3 k acc (Base.ofL w) bt258.1 bt258.2.1 true)))) (fun k => ?_) (Ev.bind hu ?_)
        · simp only [dryrotref07_Parse.j2]
          rw [if_neg (by simp), if_pos (by omega), f3]
        · cases hq : unqT r with
          | none =>
            have hP : parseL n s.data.toList acc = none := by
              cases n with
              | zero => rfl
              | succ n => simp only [parseL, hcut, hq]
            rw [hP]
            refine Ev.congr (fun k => ?_) (rj3_true acc (Base.ofL w) (⟨#[]⟩ : ByteArray) (⟨#[]⟩ : ByteArray))
            show (if (5 : Int) = 0 then _ else _) = _
            rw [if_neg (by omega)]
            rfl
          | some p =>
            obtain ⟨v, more⟩ := p
            have hl2 := unqT_len hq
            cases more with
            | nil =>
              have hP : parseL n s.data.toList acc = none := by
                cases n with
                | zero => rfl
                | succ n => simp [parseL, hcut, hq, onMore]
              rw [hP]
              refine Ev.congr (fun k => ?_) (rj3_true acc (Base.ofL w) (Base.ofL v) (Base.ofL []))
              show (if (0 : Int) = 0 then (if ((Base.ofL []).size : Int) = 0 then _ else _) else _) = _
              rw [if_pos rfl, if_pos (by rfl)]
              rfl
            | cons d m =>
              obtain ⟨g1, g2, g3⟩ := first_byte d m
              refine Ev.congr (f := fun k => dryrotref07_Parse.j3 k acc (Base.ofL w) (Base.ofL v) (Base.ofL (d :: m)) (decide ((acc.length : Int) ≥ 8))) (fun k => ?_) ?_
              · show (if (0 : Int) = 0 then (if ((Base.ofL (d :: m)).size : Int) = 0 then _ else _) else _) = _
                rw [if_pos rfl, if_neg (by omega)]
                rfl
              · cases n with
                | zero =>
                  have : decide ((acc.length : Int) ≥ 8) = true := by simp; omega
                  rw [this]
                  exact rj3_true _ _ _ _
                | succ n =>
                  have : decide ((acc.length : Int) ≥ 8) = false := by simp; omega
                  rw [this]
                  have hP : parseL (n + 1) s.data.toList acc = if (d :: m) = [125] ∧ canB (acc ++ [(⟨Base.ofL w, Base.ofL v⟩ : S41)]) = true then some (acc ++ [(⟨Base.ofL w, Base.ofL v⟩ : S41)]) else onMore (d :: m) fun m => parseL n m (acc ++ [(⟨Base.ofL w, Base.ofL v⟩ : S41)]) := by simp only [parseL, hcut, hq]
                  rw [hP]
                  clear hP
                  have hj : ∀ k, dryrotref07_Parse.j3 (k + 1) acc (Base.ofL w) (Base.ofL v) (Base.ofL (d :: m)) false = (if (d.toNat : Int) = 44 then (dryrotref07_Parse.l0 k (Base.ofL m) (acc ++ [(⟨Base.ofL w, Base.ofL v⟩ : S41)])) else (if (d.toNat : Int) = 125 then (if m = [] then ((dryrotref07_Can.f k (acc ++ [(⟨Base.ofL w, Base.ofL v⟩ : S41)])).bind fun t264 => (if t264 = true then (some ((acc ++ [(⟨Base.ofL w, Base.ofL v⟩ : S41)]), 0)) else (some (([] : List (S41)), 5)))) else (some (([] : List (S41)), 5))) else (some (([] : List (S41)), 5)))) := by
                    intro k
                    simp only [dryrotref07_Parse.j3]
                    rw [if_neg (by simp), if_pos (by omega)]
                    simp only [Option.bind_some]
                    rw [if_pos (by omega), if_pos (by omega), g2, g3, ByteArray.toList_eq, Base.ofL_data]
                  have hacc2 : ∀ y ∈ acc ++ [(⟨Base.ofL w, Base.ofL v⟩ : S41)], y.f0.size ≤ maxLen ∧ y.f1.size ≤ maxLen := by
                    intro y hy
                    rcases List.mem_append.1 hy with hy | hy
                    · exact hacc y hy
                    · simp at hy
                      subst hy
                      have : 140737488351232 ≤ maxLen := by decide
                      constructor
                      · show (Base.ofL w).size ≤ maxLen
                        rw [Base.size_list, Base.ofL_data]
                        omega
                      · show (Base.ofL v).size ≤ maxLen
                        rw [Base.size_list, Base.ofL_data]
                        omega
                  have hlen' : (acc ++ [(⟨Base.ofL w, Base.ofL v⟩ : S41)]).length = acc.length + 1 := by simp
                  generalize acc ++ [(⟨Base.ofL w, Base.ofL v⟩ : S41)] = acc2 at hj hlen' hacc2 ⊢
                  refine Ev.step hj ?_
                  by_cases h44 : d = 44
                  · subst h44
                    have ih2 := ih n (by omega) (Base.ofL m) acc2 (by omega) (by rw [Base.size_list, Base.ofL_data]; simp at hl2; omega) hacc2
                    rw [Base.ofL_data] at ih2
                    have e : (if (44 :: m) = [125] ∧ canB acc2 = true then some acc2 else onMore (44 :: m) fun m => parseL n m acc2) = parseL n m acc2 := by
                      rw [if_neg (by simp)]
                      simp [onMore]
                    rw [e]
                    exact Ev.congr (fun k => by rw [if_pos (by decide)]) ih2
                  · have hn44 : ¬ (d.toNat : Int) = 44 := fun e => h44 ((toNat_is d 44).1 e)
                    by_cases h125 : d = 125
                    · subst h125
                      by_cases hm : m = []
                      · subst hm
                        have hcan := rcan_ev acc2 hacc2
                        refine Ev.congr (f := fun k => ((dryrotref07_Can.f k acc2).bind fun t264 => (if t264 = true then (some (acc2, 0)) else (some (([] : List (S41)), 5))))) (fun k => ?_) (Ev.bind hcan ?_)
                        · rw [if_neg hn44, if_pos (by decide), if_pos rfl]
                        · cases hb : canB acc2 with
                          | true => exact Ev.congr (f := fun _ => some (acc2, (0 : Int))) (fun k => by simp) (by simpa [outP] using Ev.now (acc2, (0 : Int)))
                          | false => exact Ev.congr (f := fun _ => some (([] : List S41), (5 : Int))) (fun k => by simp) (by simpa [outP, onMore] using Ev.now (([] : List S41), (5 : Int)))
                      · refine Ev.congr (f := fun _ => some (([] : List S41), (5 : Int))) (fun k => ?_) (by simpa [outP, onMore, hm] using Ev.now (([] : List S41), (5 : Int)))
                        rw [if_neg hn44, if_pos (by decide), if_neg hm]
                    · have hn125 : ¬ (d.toNat : Int) = 125 := fun e => h125 ((toNat_is d 125).1 e)
                      refine Ev.congr (f := fun _ => some (([] : List S41), (5 : Int))) (fun k => ?_) (by simpa [outP, onMore, h44, h125] using Ev.now (([] : List S41), (5 : Int)))
                      rw [if_neg hn44, if_neg hn125]
      · have hP : parseL n s.data.toList acc = none := by
          cases n with
          | zero => rfl
          | succ n => exact parse_bad n _ [] acc c r hd hc (head_dw nb _ _ _ hd)
        rw [hP]
        have hbt : ((c.toNat : Int) != 61) = true := by
          have : ¬ (c.toNat : Int) = 61 := fun e => hc ((toNat_is c 61).1 e)
          simp [this]
        rw [hbt]
        exact rj2_true _ _ _
theorem rparse_ev (s : ByteArray) (hs : s.size ≤ 140737488351232) : Ev (fun k => dryrotref07_Parse.f k s) (parse s) := by
  unfold parse
  have hz := Base.size_list s
  cases hd : s.data.toList with
  | nil =>
    rw [hd] at hz
    refine Ev.congr (f := fun k => dryrotref07_Parse.j0 k s true) (fun k => ?_) ?_
    · simp only [dryrotref07_Parse.f]
      rw [if_pos (by simpa using hz)]
    · refine Ev.step (f := fun _ => some (([] : List S41), (5 : Int))) (fun k => ?_) (Ev.now _)
      simp only [dryrotref07_Parse.j0]
      first | rw [if_pos rfl] | rw [if_pos trivial]
  | cons c r =>
    obtain ⟨f1, f2, f3⟩ := first_byte c r
    have hs2 : Base.ofL (c :: r) = s := by rw [← hd, Base.ofL_of]
    rw [hs2] at f1 f2 f3
    refine Ev.congr (f := fun k => dryrotref07_Parse.j0 k s ((c.toNat : Int) != 123)) (fun k => ?_) ?_
    · simp only [dryrotref07_Parse.f]
      rw [if_neg (by omega), if_pos (by omega), f2]
    · by_cases hc : c = 123
      · subst hc
        have hbf : (((123 : UInt8).toNat : Int) != 123) = false := by decide
        rw [hbf]
        have h2 := rpar_l0 8 (Base.ofL r) [] rfl (by rw [Base.size_list, Base.ofL_data]; rw [hd] at hz; simp at hz; omega) (fun y hy => by cases hy)
        rw [Base.ofL_data] at h2
        simp only [if_true]
        refine Ev.step (fun k => ?_) h2
        simp only [dryrotref07_Parse.j0]
        rw [if_neg (by simp), if_pos (by omega), f3]
      · have hbt : ((c.toNat : Int) != 123) = true := by
          have : ¬ (c.toNat : Int) = 123 := fun e => hc ((toNat_is c 123).1 e)
          simp [this]
        rw [hbt]
        simp only [hc, if_false]
        refine Ev.step (f := fun _ => some (([] : List S41), (5 : Int))) (fun k => ?_) (Ev.now _)
        simp only [dryrotref07_Parse.j0]
        first | rw [if_pos rfl] | rw [if_pos trivial]
theorem parse_len (s : ByteArray) : (parse s).1.length ≤ 9223372036854775807 := by
  unfold parse
  split
  · simp
  · split
    · rename_i c r _ _
      cases h : parseL 8 r [] with
      | none => simp [outP]
      | some l =>
        have := (parseL_can _ _ _ _ h).1
        simp only [canB, Bool.and_eq_true, decide_eq_true_eq] at this
        simp only [outP]
        omega
    · simp
end Go.Proofs.Ytdbbfhmcbogknaa.Laws
