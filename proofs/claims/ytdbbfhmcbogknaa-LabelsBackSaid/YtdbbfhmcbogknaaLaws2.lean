/- Plain laws: what the references make of quoting and of reading it back. No program runs in it. -/
import Derived.Test.YtdbbfhmcbogknaaBas2
import Derived.Test.YtdbbfhmcbogknaaLaws1
import Derived.Test.YtdbbfhmcbogknaaPAllx8
import Derived.Test.YtdbbfhmcbogknaaPAllx6
import Derived.Test.YtdbbfhmcbogknaaPAllx5
namespace Go.Proofs.Ytdbbfhmcbogknaa.Laws
open Go.RowKit Go.Proofs.Ytdbbfhmcbogknaa.PAll Go.Proofs.YtdbbfhmcbogknaaW.PrintWords Go.Proofs.YtdbbfhmcbogknaaW.PrintLast
set_option linter.unusedVariables false
set_option linter.unusedSimpArgs false

theorem head_drop (s : ByteArray) (i : Nat) (c : UInt8) (r : List UInt8) (h : s.data.toList.drop i = c :: r) : i < s.size ∧ bt s (i : Int) = (c.toNat : Int) ∧ s.data.toList.drop (i + 1) = r ∧ (s.extract i (i + 1)) = Base.ofL [c] ∧ r.length + i + 1 = s.size := by
  have hlt : i < s.data.toList.length := by
    rcases Nat.lt_or_ge i s.data.toList.length with h1 | h1
    · exact h1
    · rw [List.drop_eq_nil_of_le h1] at h
      cases h
  have hs : s.size = s.data.toList.length := Base.size_list s
  have hlen : (s.data.toList.drop i).length = s.data.toList.length - i := List.length_drop
  rw [h] at hlen
  simp only [List.length_cons] at hlen
  have h' := h
  rw [List.drop_eq_getElem_cons hlt] at h
  obtain ⟨h1, h2⟩ := List.cons.inj h
  refine ⟨by omega, ?_, h2, ?_, by omega⟩
  · rw [Base.bt_list s i (by omega), List.getD_eq_getElem?_getD, List.getElem?_eq_getElem hlt, h1]
    rfl
  · refine Base.ext_data ?_
    rw [Base.extract_list, Base.ofL_data, h']
    have : i + 1 - i = 1 := by omega
    rw [this]
    rfl
theorem byte_is (c : UInt8) : ((c.toNat : Int) = 34 ↔ c = 34) ∧ ((c.toNat : Int) = 92 ↔ c = 92) := by
  refine ⟨⟨fun e => UInt8.toNat_inj.1 (by simpa using (by omega : c.toNat = 34)), fun e => by rw [e]; rfl⟩, ⟨fun e => UInt8.toNat_inj.1 (by simpa using (by omega : c.toNat = 92)), fun e => by rw [e]; rfl⟩⟩
theorem drop_end (s : ByteArray) (i : Nat) (h : s.data.toList.drop i = []) : s.size ≤ i := by
  have hs : s.size = s.data.toList.length := Base.size_list s
  rcases Nat.lt_or_ge i s.data.toList.length with h1 | h1
  · rw [List.drop_eq_getElem_cons h1] at h
    cases h
  · omega

theorem rquote_l0 (s : ByteArray) (hs : s.size ≤ 140737488355232) : ∀ (r : List UInt8) (i : Nat) (acc : ByteArray), s.data.toList.drop i = r → i ≤ s.size → acc.size ≤ 2 * i + 1 →
    Ev (fun k => dryrotref07_Quote.l0 k s acc (i : Int)) (Base.ofL (acc.data.toList ++ (r.flatMap Base.quoteByte ++ [34]))) := by
  intro r
  induction r with
  | nil =>
    intro i acc h hi ha
    have hi2 := drop_end s i h
    refine Ev.step (f := fun _ => some (Base.ofL (acc.data.toList ++ [34]))) (fun k => ?_) (by simpa using Ev.now (Base.ofL (acc.data.toList ++ [34])))
    simp only [dryrotref07_Quote.l0]
    rw [if_neg (by omega), if_pos (by omega)]
    congr 1
  | cons c r ih =>
    intro i acc h hi ha
    obtain ⟨hlt, hbt, hr, hex, hlen⟩ := head_drop s i c r h
    have hw : wrap64 ((i : Int) + 1) = ((i + 1 : Nat) : Int) := Base.wrap_nat i (by omega)
    have h1 : ((i : Int) < (s.size : Int)) := by omega
    have h0 : ((0 : Int) ≤ (i : Int)) := by omega
    have hb := Aside0.mk (byte_is c)
    have hsz1 : (Base.ofL [c]).size = 1 := by rw [Base.size_list, Base.ofL_data]; rfl
    have hszb : (acc ++ (⟨#[92]⟩ : ByteArray)).size = acc.size + 1 := by
      rw [Base.size_list, Base.append_data, List.length_append, ← Base.size_list]
      rfl
    have hex2 : s.extract (i : Int).toNat ((i + 1 : Nat) : Int).toNat = Base.ofL [c] := hex
    by_cases hq : c = 34 ∨ c = 92
    · have hqb : Base.quoteByte c = [92, c] := by unfold Base.quoteByte; rw [if_pos hq]
      have ih2 := ih (i + 1) ((acc ++ (⟨#[92]⟩ : ByteArray)) ++ Base.ofL [c]) hr (by omega) (by rw [Base.size_list, Base.append_data, List.length_append, ← Base.size_list, hszb, Base.ofL_data]; simp; omega)
      have he : Base.ofL (acc.data.toList ++ ((c :: r).flatMap Base.quoteByte ++ [34])) = Base.ofL (((acc ++ (⟨#[92]⟩ : ByteArray)) ++ Base.ofL [c]).data.toList ++ (r.flatMap Base.quoteByte ++ [34])) := by
        congr 1
        rw [Base.append_data, Base.append_data, Base.ofL_data, List.flatMap_cons, hqb]
        simp
      rw [he]
      refine Ev.step (fun k => ?_) ih2
      simp only [dryrotref07_Quote.l0]
      rw [if_pos h1, if_pos h0, hbt, hw]
      rcases hq with hq | hq
      · rw [if_pos (hb.out.1.2 hq), if_pos (by omega), if_pos (by omega), if_pos (by omega), hex2, if_pos (by rw [hszb, hsz1]; omega)]
      · rw [if_neg (fun e => by have := hb.out.1.1 e; rw [hq] at this; exact absurd this (by decide)), if_pos (hb.out.2.2 hq), if_pos (by omega), if_pos (by omega), if_pos (by omega), hex2, if_pos (by rw [hszb, hsz1]; omega)]
    · have hqb : Base.quoteByte c = [c] := by unfold Base.quoteByte; rw [if_neg hq]
      have ih2 := ih (i + 1) (acc ++ Base.ofL [c]) hr (by omega) (by rw [Base.size_list, Base.append_data, List.length_append, ← Base.size_list, Base.ofL_data]; simp; omega)
      have he : Base.ofL (acc.data.toList ++ ((c :: r).flatMap Base.quoteByte ++ [34])) = Base.ofL ((acc ++ Base.ofL [c]).data.toList ++ (r.flatMap Base.quoteByte ++ [34])) := by
        congr 1
        rw [Base.append_data, Base.ofL_data, List.flatMap_cons, hqb]
        simp
      rw [he]
      refine Ev.step (fun k => ?_) ih2
      simp only [dryrotref07_Quote.l0]
      rw [if_pos h1, if_pos h0, hbt, hw, if_neg (fun e => hq (.inl (hb.out.1.1 e))), if_neg (fun e => hq (.inr (hb.out.2.1 e))), if_pos (by omega), if_pos (by omega), hex2, if_pos (by rw [hsz1]; omega)]
theorem rquote_ev (s : ByteArray) (hs : s.size ≤ 140737488355232) : Ev (fun k => dryrotref07_Quote.f k s) (Base.quoteS s) := by
  have h := rquote_l0 s hs s.data.toList 0 ⟨#[34]⟩ rfl (by omega) (by decide)
  refine Ev.congr (fun k => rfl) ?_
  have he : Base.quoteS s = Base.ofL ((⟨#[34]⟩ : ByteArray).data.toList ++ (s.data.toList.flatMap Base.quoteByte ++ [34])) := rfl
  rw [he]
  exact h

def outU (o : Option (List UInt8 × List UInt8)) : ByteArray × ByteArray × Int := match o with
  | some (a, q) => (Base.ofL a, Base.ofL q, 0)
  | none => (⟨#[]⟩, ⟨#[]⟩, 5)
theorem unq_cons (s : ByteArray) (r : List UInt8) (h : s.data.toList = 34 :: r) : Base.unq s = outU (Base.unqL r []) := by
  unfold Base.unq
  rw [h]
  simp only [outU, if_true]
  cases Base.unqL r [] with
  | none => rfl
  | some y => rfl
theorem unq_else (s : ByteArray) (h : ∀ r, s.data.toList ≠ 34 :: r) : Base.unq s = ((⟨#[]⟩ : ByteArray), (⟨#[]⟩ : ByteArray), 5) := by
  unfold Base.unq
  cases hl : s.data.toList with
  | nil => rfl
  | cons c r =>
    have hc : ¬ c = 34 := fun e => h r (by rw [hl, e])
    simp only [hc, if_false]

theorem runq_l0 (s : ByteArray) (hs : s.size ≤ 1000000000000000) : ∀ (n : Nat) (r : List UInt8) (i : Nat) (acc : ByteArray), r.length ≤ n → s.data.toList.drop i = r → i ≤ s.size → acc.size ≤ i →
    Ev (fun k => dryrotref07_Unquote.l0 k s acc (i : Int)) (outU (Base.unqL r acc.data.toList)) := by
  intro n
  induction n with
  | zero =>
    intro r i acc hn h hi ha
    have hr : r = [] := List.eq_nil_of_length_eq_zero (by omega)
    subst hr
    have hi2 := drop_end s i h
    rw [Base.unqL_nil]
    refine Ev.step (f := fun _ => some (outU none)) (fun k => ?_) (Ev.now _)
    simp only [dryrotref07_Unquote.l0]
    rw [if_neg (by omega)]
    rfl
  | succ n ih =>
    intro r i acc hn h hi ha
    cases r with
    | nil =>
      have hi2 := drop_end s i h
      rw [Base.unqL_nil]
      refine Ev.step (f := fun _ => some (outU none)) (fun k => ?_) (Ev.now _)
      simp only [dryrotref07_Unquote.l0]
      rw [if_neg (by omega)]
      rfl
    | cons c r =>
      obtain ⟨hlt, hbt', hr, hex, hlen⟩ := head_drop s i c r h
      have hbt := Aside0.mk hbt'
      clear hbt'
      have hw : wrap64 ((i : Int) + 1) = ((i + 1 : Nat) : Int) := Base.wrap_nat i (by omega)
      have h1 : ((i : Int) < (s.size : Int)) := by omega
      have h0 : ((0 : Int) ≤ (i : Int)) := by omega
      have hb := Aside0.mk (byte_is c)
      have hsz1 : ∀ d : UInt8, (Base.ofL [d]).size = 1 := fun d => by rw [Base.size_list, Base.ofL_data]; rfl
      by_cases h34 : c = 34
      · rw [h34, Base.unqL_end]
        refine Ev.step (f := fun _ => some (outU (some (acc.data.toList, r)))) (fun k => ?_) (Ev.now _)
        simp only [dryrotref07_Unquote.l0]
        rw [if_pos h1, if_pos h0, hbt.out, if_pos (hb.out.1.2 h34), hw, if_pos (by omega), if_pos (by omega)]
        have e1 : s.extract ((i + 1 : Nat) : Int).toNat s.size = Base.ofL r := Base.ext_data (by rw [Base.extract_rest, Base.ofL_data]; exact hr)
        rw [e1]
        simp only [outU, Base.ofL_of]
      · have hn34 : Aside0 (¬ (c.toNat : Int) = 34) := ⟨fun e => h34 (hb.out.1.1 e)⟩
        by_cases h92 : c = 92
        · cases r with
          | nil =>
            rw [h92, Base.unqL_open]
            have hi3 := drop_end s (i + 1) hr
            refine Ev.step (f := fun _ => some (outU none)) (fun k => ?_) (Ev.now _)
            simp only [dryrotref07_Unquote.l0]
            rw [if_pos h1, if_pos h0, hbt.out, if_neg hn34.out, if_pos (hb.out.2.2 h92), hw, if_pos (by omega)]
            rfl
          | cons d q =>
            obtain ⟨hlt2, hbt2', hr2, hex2, hlen2⟩ := head_drop s (i + 1) d q hr
            have hbt2 := Aside0.mk hbt2'
            clear hbt2'
            have hb2 := Aside0.mk (byte_is d)
            have hw2 : wrap64 (((i + 1 : Nat) : Int) + 1) = ((i + 1 + 1 : Nat) : Int) := Base.wrap_nat (i + 1) (by omega)
            have h5 : ((0 : Int) ≤ ((i + 1 : Nat) : Int)) := Int.natCast_nonneg _
            have h6 : (((i + 1 : Nat) : Int) < (s.size : Int)) := by omega
            have h7 : ¬ (((i + 1 : Nat) : Int) ≥ (s.size : Int)) := by omega
            have h8 : (((i + 1 : Nat) : Int) ≤ ((i + 1 + 1 : Nat) : Int)) := by omega
            have h9 : (((i + 1 + 1 : Nat) : Int) ≤ (s.size : Int)) := by omega
            have hexd : s.extract ((i + 1 : Nat) : Int).toNat ((i + 1 + 1 : Nat) : Int).toNat = Base.ofL [d] := hex2
            by_cases hd : d = 34 ∨ d = 92
            · have ih2 := ih q (i + 1 + 1) (acc ++ Base.ofL [d]) (by simp at hn; omega) hr2 (by omega) (by rw [Base.size_list, Base.append_data, List.length_append, ← Base.size_list, Base.ofL_data]; simp; omega)
              rw [h92, Base.unqL_esc d q _ hd]
              rw [Base.append_data, Base.ofL_data] at ih2
              refine Ev.step (fun k => ?_) ih2
              simp only [dryrotref07_Unquote.l0]
              rw [if_pos h1, if_pos h0, hbt.out, if_neg hn34.out, if_pos (hb.out.2.2 h92), hw, if_neg h7, if_pos h5, if_pos h6, hbt2.out, hw2]
              rcases hd with hd | hd
              · rw [if_pos (hb2.out.1.2 hd), if_pos h8, if_pos h9, hexd, if_pos (by rw [hsz1]; omega)]
              · rw [if_neg (fun e => by have := hb2.out.1.1 e; rw [hd] at this; exact absurd this (by decide)), if_pos (hb2.out.2.2 hd), if_pos h8, if_pos h9, hexd, if_pos (by rw [hsz1]; omega)]
            · rw [h92, Base.unqL_bad d q _ hd]
              refine Ev.step (f := fun _ => some (outU none)) (fun k => ?_) (Ev.now _)
              simp only [dryrotref07_Unquote.l0]
              rw [if_pos h1, if_pos h0, hbt.out, if_neg hn34.out, if_pos (hb.out.2.2 h92), hw, if_neg h7, if_pos h5, if_pos h6, hbt2.out, if_neg (fun e => hd (.inl (hb2.out.1.1 e))), if_neg (fun e => hd (.inr (hb2.out.2.1 e)))]
              rfl
        · have ih2 := ih r (i + 1) (acc ++ Base.ofL [c]) (by simp at hn; omega) hr (by omega) (by rw [Base.size_list, Base.append_data, List.length_append, ← Base.size_list, Base.ofL_data]; simp; omega)
          have hexc : s.extract (i : Int).toNat ((i + 1 : Nat) : Int).toNat = Base.ofL [c] := hex
          rw [Base.unqL_plain c r _ h34 h92]
          rw [Base.append_data, Base.ofL_data] at ih2
          refine Ev.step (fun k => ?_) ih2
          simp only [dryrotref07_Unquote.l0]
          rw [if_pos h1, if_pos h0, hbt.out, if_neg hn34.out, if_neg (fun e => h92 (hb.out.2.1 e)), hw, if_pos (by omega), if_pos (by omega), hexc, if_pos (by rw [hsz1]; omega)]
theorem runq_ev (s : ByteArray) (hs : s.size ≤ 1000000000000000) : Ev (fun k => dryrotref07_Unquote.f k s) (Base.unq s) := by
  by_cases h0 : s.size = 0
  · have hu : Base.unq s = ((⟨#[]⟩ : ByteArray), (⟨#[]⟩ : ByteArray), 5) := unq_else s (fun r hr => by
      have := Base.size_list s
      rw [hr] at this
      simp at this
      omega)
    rw [hu]
    refine Ev.congr (f := fun k => dryrotref07_Unquote.j0 k s true) (fun k => ?_) ?_
    · simp only [dryrotref07_Unquote.f]
      rw [if_pos (by omega)]
    · refine Ev.step (f := fun _ => some ((⟨#[]⟩ : ByteArray), (⟨#[]⟩ : ByteArray), 5)) (fun k => ?_) (Ev.now _)
      simp [dryrotref07_Unquote.j0]
  · refine Ev.congr (f := fun k => dryrotref07_Unquote.j0 k s ((bt s 0) != 34)) (fun k => ?_) ?_
    · simp only [dryrotref07_Unquote.f]
      rw [if_neg (by omega), if_pos (by omega)]
    · cases hl : s.data.toList with
      | nil =>
        have h9 := Base.size_list s
        rw [hl] at h9
        exact absurd h9 h0
      | cons c r =>
        obtain ⟨hlt, hbt, hr, hex, hlen⟩ := head_drop s 0 c r (by simpa using hl)
        have hbt0 : bt s 0 = (c.toNat : Int) := hbt
        by_cases h34 : c = 34
        · rw [unq_cons s r (by rw [hl, h34])]
          have h2 := runq_l0 s hs r.length r 1 ⟨#[]⟩ (Nat.le_refl _) (by simpa using hr) (by omega) (by decide)
          refine Ev.step (fun k => ?_) h2
          simp only [dryrotref07_Unquote.j0]
          rw [hbt0, if_neg (by simp [(byte_is c).1.2 h34])]
          rfl
        · rw [unq_else s (fun r' hr' => h34 (by rw [hl] at hr'; exact (List.cons.inj hr').1))]
          refine Ev.step (f := fun _ => some ((⟨#[]⟩ : ByteArray), (⟨#[]⟩ : ByteArray), 5)) (fun k => ?_) (Ev.now _)
          simp only [dryrotref07_Unquote.j0]
          rw [hbt0, if_pos (by simpa using fun e => h34 ((byte_is c).1.1 e))]

/-- What was quoted is read back, the rest behind it. -/
theorem unq_quote_gen : ∀ (l acc rest : List UInt8), Base.unqL (l.flatMap Base.quoteByte ++ (34 :: rest)) acc = some (acc ++ l, rest) := by
  intro l
  induction l with
  | nil => intro acc rest; simp [Base.unqL_end]
  | cons c r ih =>
    intro acc rest
    by_cases hq : c = 34 ∨ c = 92
    · have hqb : Base.quoteByte c = [92, c] := by unfold Base.quoteByte; rw [if_pos hq]
      rw [List.flatMap_cons, hqb]
      simp only [List.cons_append, List.nil_append]
      rw [Base.unqL_esc c _ _ hq, ih]
      simp
    · have hqb : Base.quoteByte c = [c] := by unfold Base.quoteByte; rw [if_neg hq]
      rw [List.flatMap_cons, hqb]
      simp only [List.cons_append, List.nil_append]
      rw [Base.unqL_plain c _ _ (fun e => hq (.inl e)) (fun e => hq (.inr e)), ih]
      simp
theorem unq_quote (s t : ByteArray) : Base.unq (Base.quoteS s ++ t) = (s, t, 0) := by
  rw [unq_cons (Base.quoteS s ++ t) (s.data.toList.flatMap Base.quoteByte ++ (34 :: t.data.toList)) (by rw [Base.append_data]; simp [Base.quoteS, Base.quoteL]), unq_quote_gen]
  simp only [outU, List.nil_append, Base.ofL_of]
theorem unquote_some {s : ByteArray} (h : s.size ≤ 140737488355328) : labels_Unquote.f s = some (Base.unq s) := by
  unfold labels_Unquote.f
  rw [if_pos h]
end Go.Proofs.Ytdbbfhmcbogknaa.Laws
