-- Written by a program of this seat (wip/tools), out of the translation. Not trusted: Lean checks it.
import Derived.Test.YtgnehcgaplnfkaaDoorPAllx0
import Derived.Test.YtgnehcgaplnfkaaDoorPAllx51
import Derived.Test.YtgnehcgaplnfkaaDoorPAllx52
import Derived.Test.YtgnehcgaplnfkaaDoorPAllx53
namespace Go.Proofs.YtgnehcgaplnfkaaDoor.PAll
open Go.RowKit Go.Proofs.YtgnehcgaplnfkaaDoorW.PrintWords Go.Proofs.YtgnehcgaplnfkaaDoorW.PrintLast Go.Proofs.YtgnehcgaplnfkaaDoorW.PrintMore
attribute [local go_sem] max2_int min2_int max_two min_two max_three min_three max_four min_four   -- for this text's walks alone
set_option linter.unusedVariables false
set_option linter.unusedSimpArgs false

/-! ### labels_Unquote: function 100 -/
-- uses strings_CutPrefix stringslite_CutPrefix stringslite_HasPrefix
def labels_Unquote.f (a0 : ByteArray) : Option (ByteArray × ByteArray × Int) := if a0.size ≤ 140737488355328 then some (Base.unq a0) else none
theorem labels_Unquote.cut_yes (c : UInt8) (s : ByteArray) (r : List UInt8) (h : s.data.toList = c :: r) : strings_CutPrefix.f s (⟨#[c]⟩ : ByteArray) = some (s.extract 1 s.size, true) := by
  have hs : s.size = r.length + 1 := by rw [← data_length, h]; rfl
  have h1 : (s.extract 0 1).toList = [c] := by
    rw [ByteArray.toList_eq, Base.extract_list, h]
    rfl
  have h2 : ((s.size : Int) ≥ 1) := by omega
  have h3 : ((1 : Int) ≤ (s.size : Int)) := by omega
  simp [strings_CutPrefix.f, stringslite_CutPrefix.f, stringslite_HasPrefix.f, Base.size1, h1, h2, h3, ByteArray.toList_eq]
theorem labels_Unquote.cut_no (c : UInt8) (s : ByteArray) (h : ∀ r, s.data.toList ≠ c :: r) : strings_CutPrefix.f s (⟨#[c]⟩ : ByteArray) = some (s, false) := by
  by_cases h2 : ((s.size : Int) ≥ 1)
  · have h3 : ((1 : Int) ≤ (s.size : Int)) := by omega
    have h1 : ¬ List.take 1 s.data.toList = [c] := by
      cases hl : s.data.toList with
      | nil => simp
      | cons x q =>
        intro e
        have : x = c := by simpa using e
        subst this
        exact h q hl
    simp [strings_CutPrefix.f, stringslite_CutPrefix.f, stringslite_HasPrefix.f, Base.size1, h1, h2, h3, ByteArray.toList_eq]
  · have h3 : ¬ ((1 : Int) ≤ (s.size : Int)) := by omega
    simp [strings_CutPrefix.f, stringslite_CutPrefix.f, stringslite_HasPrefix.f, Base.size1, h3]
/-- What a text's head is, in the walk's words. -/
theorem labels_Unquote.head (x : ByteArray) (c : UInt8) (r : List UInt8) (h : x.data.toList = c :: r) : ∃ hp : 0 < x.size, ((x[0]'hp).toNat : Int) = c.toNat ∧ (x.extract 1 x.size).data.toList = r ∧ x.size = r.length + 1 ∧ x.toList.isEmpty = false := by
  have hs : x.size = r.length + 1 := by rw [← data_length, h]; rfl
  have hp : 0 < x.size := by omega
  refine ⟨hp, ?_, ?_, hs, ?_⟩
  · have h1 : x.data.toList[0]? = some c := by rw [h]; rfl
    have h2 : x.data.toList[0]'(by rw [data_length]; exact hp) = c := by
      rw [List.getElem?_eq_getElem (by rw [data_length]; exact hp)] at h1
      exact Option.some.inj h1
    have h3 : x[0]'hp = x.data.toList[0]'(by rw [data_length]; exact hp) := rfl
    rw [h3, h2]
  · rw [Base.extract_rest, h]
    rfl
  · rw [ByteArray.toList_eq, h]
    rfl
theorem labels_Unquote.byte_is (c : UInt8) : ((c.toNat : Int) = 34 ↔ c = 34) ∧ ((c.toNat : Int) = 92 ↔ c = 92) := by
  refine ⟨⟨fun e => UInt8.toNat_inj.1 (by simpa using (by omega : c.toNat = 34)), fun e => by rw [e]; rfl⟩, ⟨fun e => UInt8.toNat_inj.1 (by simpa using (by omega : c.toNat = 92)), fun e => by rw [e]; rfl⟩⟩
theorem labels_Unquote.unqL_len : ∀ (n : Nat) (l acc a q : List UInt8), l.length ≤ n → Base.unqL l acc = some (a, q) → a.length ≤ acc.length + l.length := by
  intro n
  induction n with
  | zero =>
    intro l acc a q hn h
    cases l with
    | nil => simp [Base.unqL] at h
    | cons x r => simp at hn
  | succ n ih =>
    intro l acc a q hn h
    cases l with
    | nil => simp [Base.unqL] at h
    | cons c r =>
      unfold Base.unqL at h
      by_cases h1 : c = 34
      · rw [if_pos h1] at h
        obtain ⟨rfl, rfl⟩ := Prod.mk.inj (Option.some.inj h)
        simp
      · rw [if_neg h1] at h
        by_cases h2 : c = 92
        · rw [if_pos h2] at h
          cases r with
          | nil => simp at h
          | cons d q2 =>
            simp only at h
            by_cases h3 : d = 34 ∨ d = 92
            · rw [if_pos h3] at h
              have := ih q2 _ _ _ (by simp at hn; omega) h
              simp at this ⊢
              omega
            · rw [if_neg h3] at h
              cases h
        · rw [if_neg h2] at h
          have := ih r _ _ _ (by simp at hn; omega) h
          simp at this ⊢
          omega
theorem labels_Unquote.info : (Tryd.prog.info? 5).map (fun i => (i.zero, i.size, i.bytes)) = some (some (.int .u8 0), 1, 1) := by kernel_rfl
def labels_Unquote.nats (l : List UInt8) : List Int := l.map fun c => (c.toNat : Int)
theorem labels_Unquote.str_of (l : List UInt8) : strOfNums (labels_Unquote.nats l) = Base.ofL l := by
  refine Base.ext_data ?_
  rw [strOfNums_data, Base.ofL_data, labels_Unquote.nats, List.map_map]
  conv => rhs; rw [← List.map_id l]
  refine List.map_congr_left (fun c _ => ?_)
  simp
def labels_Unquote.out (o : Option (List UInt8 × List UInt8)) : ByteArray × ByteArray × Int := match o with
  | some (a, q) => (Base.ofL a, Base.ofL q, 0)
  | none => (⟨#[]⟩, ⟨#[]⟩, 5)
set_option maxHeartbeats 4000000 in
set_option maxRecDepth 100000 in
theorem labels_Unquote.calls (a0 : ByteArray) (r1 : ByteArray) (r2 : ByteArray) (r3 : Int) (w : World) (h : labels_Unquote.f a0 = some (r1, r2, r3)) :
    Calls Tryd.prog 100 #[.string a0] w fun e w' => e = .returned (.tuple #[.string r1, .string r2, .int .i64 r3]) ∧ Below w.heap.size w w' := by
  unfold labels_Unquote.f at h
  by_cases hlim : a0.size ≤ 140737488355328
  · rw [if_pos hlim] at h
    have hu := Option.some.inj h
    clear h
    by_cases hq : ∃ r, a0.data.toList = 34 :: r
    · obtain ⟨r, hr⟩ := hq
      have hu2 : labels_Unquote.out (Base.unqL r []) = (r1, r2, r3) := by
        rw [← hu]
        unfold Base.unq
        rw [hr]
        simp only [labels_Unquote.out, if_true]
        cases Base.unqL r [] with
        | none => rfl
        | some y => rfl
      have HU := Aside0.mk hu2
      have HC := Aside0.mk (labels_Unquote.cut_yes 34 a0 r hr)
      have hrl : Aside0 ((a0.extract 1 a0.size).data.toList = r) := ⟨by rw [Base.extract_rest, hr]; rfl⟩
      have hrn : r.length ≤ a0.size := by rw [← data_length, hr]; simp
      clear hu hu2 hr
      go_enter Tryd.func100, Tryd.ntmps100
      go_wp2_with (go_at_call 66; refine (strings_CutPrefix.calls _ _ _ _ _ HC.out).mono ?_; rintro e W1 ⟨rfl, ⟨nd, rfl⟩⟩)
      go_loopg [5, 7] (r.length) (fun kq v5 v7 wr => ∃ (x : ByteArray) (l acc : List UInt8), v5 = .string x ∧ Aside0 (x.data.toList = l ∧ labels_Unquote.out (Base.unqL l acc) = (r1, r2, r3) ∧ Kd.R (Kd.int .u8) 5 wr w.heap.size (fun _ => True) v7 (labels_Unquote.nats acc)) ∧ l.length ≤ kq ∧ acc.length + l.length ≤ r.length ∧ Aside0 (Below w.heap.size w wr))
      case atStart => exact ⟨_, r, [], rfl, ⟨hrl.out, HU.out, Kd.R_nil _ _ _ _ _⟩, Nat.le_refl _, by simp, ⟨pw_below_drewN (Below.refl _ _) nd⟩⟩
      case round =>
        obtain ⟨x, l, acc, rfl, HR, hk, hal, HB⟩ := hrel
        cases l with
        | nil =>
          have he : x.toList.isEmpty = true := by rw [ByteArray.toList_eq, HR.out.1]; rfl
          have hfin : Aside0 (r1 = ⟨#[]⟩ ∧ r2 = ⟨#[]⟩ ∧ r3 = 5) := ⟨by
            have h5 := HR.out.2.1
            rw [Base.unqL_nil] at h5
            obtain ⟨h6, h7⟩ := Prod.mk.inj h5
            obtain ⟨h8, h9⟩ := Prod.mk.inj h7
            exact ⟨h6.symm, h8.symm, h9.symm⟩⟩
          go_wp2
          go_ret3
          exact ⟨by rw [hfin.out.1, hfin.out.2.1, hfin.out.2.2]; rfl, HB.out⟩
        | cons c q =>
          obtain ⟨hp, hc, hx2, hxs, he⟩ := labels_Unquote.head x c q HR.out.1
          have HX2 := Aside0.mk hx2
          have HXS := Aside0.mk hxs
          have hx1 : 1 ≤ x.size := by omega
          clear hx2 hxs
          have hcz := labels_Unquote.byte_is c
          obtain ⟨z, hzc⟩ : ∃ z : Int, Aside0 ((c.toNat : Int) = z) := ⟨_, ⟨rfl⟩⟩
          rw [hzc.out] at hc hcz
          by_cases h34 : c = 34
          · have hz : (z == 34) = true := by simpa using hcz.1.2 h34
            have hcv := own_string (P := Tryd.prog) (src := 81) (dst := 9) (e := 5) (xs := labels_Unquote.nats acc) Tryd.underlying81 Tryd.underlying5 Tryd.underlying9 (Kd.own_of_R HR.out.2.2)
            rw [labels_Unquote.str_of] at hcv
            have hfin : Aside0 (r1 = Base.ofL acc ∧ r2 = Base.ofL q ∧ r3 = 0) := ⟨by
              have h5 := HR.out.2.1
              rw [h34, Base.unqL_end] at h5
              obtain ⟨h6, h7⟩ := Prod.mk.inj h5
              obtain ⟨h8, h9⟩ := Prod.mk.inj h7
              exact ⟨h6.symm, h8.symm, h9.symm⟩⟩
            have hrest : Aside0 (x.extract 1 x.size = Base.ofL q) := ⟨Base.ext_data (by rw [HX2.out, Base.ofL_data])⟩
            go_wp2
            go_ret3
            exact ⟨by rw [hfin.out.1, hfin.out.2.1, hfin.out.2.2, ← hrest.out]; rfl, HB.out⟩
          · have hb34 : (z == 34) = false := by
              have : ¬ z = 34 := fun e => h34 (hcz.1.1 e)
              simpa using this
            obtain ⟨g1, rfl⟩ : ∃ g1, gk = g1 + 1 := ⟨gk - 1, by simp at hk; omega⟩
            by_cases h92 : c = 92
            · have hz : (z == 92) = true := by simpa using hcz.2.2 h92
              cases q with
              | nil =>
                have he2 : (x.extract 1 x.size).toList.isEmpty = true := by rw [ByteArray.toList_eq, HX2.out]; rfl
                have hfin : Aside0 (r1 = ⟨#[]⟩ ∧ r2 = ⟨#[]⟩ ∧ r3 = 5) := ⟨by
                  have h5 := HR.out.2.1
                  rw [h92, Base.unqL_open] at h5
                  obtain ⟨h6, h7⟩ := Prod.mk.inj h5
                  obtain ⟨h8, h9⟩ := Prod.mk.inj h7
                  exact ⟨h6.symm, h8.symm, h9.symm⟩⟩
                go_wp2
                go_ret3
                exact ⟨by rw [hfin.out.1, hfin.out.2.1, hfin.out.2.2]; rfl, HB.out⟩
              | cons d q2 =>
                obtain ⟨hp2, hc2, hx22, hxs2, he2⟩ := labels_Unquote.head (x.extract 1 x.size) d q2 HX2.out
                have HX22 := Aside0.mk hx22
                have HXS2 := Aside0.mk hxs2
                have hx12 : 1 ≤ (x.extract 1 x.size).size := by omega
                have hx2s : 2 ≤ x.size := by
                  have := HXS.out
                  simp at this
                  omega
                have HX23 : Aside0 (((x.extract 1 x.size).extract 1 (x.size - 1)).data.toList = q2) := ⟨by
                  have e1 : (x.extract 1 x.size).size = x.size - 1 := by
                    have h1 := HXS.out
                    have h2 := HXS2.out
                    simp at h1
                    omega
                  have h3 := HX22.out
                  rw [e1] at h3
                  exact h3⟩
                clear hx22 hxs2
                have hcz2 := labels_Unquote.byte_is d
                obtain ⟨z2, hzd⟩ : ∃ z2 : Int, Aside0 ((d.toNat : Int) = z2) := ⟨_, ⟨rfl⟩⟩
                rw [hzd.out] at hc2 hcz2
                by_cases hd : d = 34 ∨ d = 92
                · have hfin : Aside0 (labels_Unquote.out (Base.unqL q2 (acc ++ [d])) = (r1, r2, r3)) := ⟨by
                    have h5 := HR.out.2.1
                    rw [h92, Base.unqL_esc d q2 acc hd] at h5
                    exact h5⟩
                  by_cases hd34 : d = 34
                  · have hz2 : (z2 == 34) = true := by simpa using hcz2.1.2 hd34
                    have hz2b : (z2 != 34) = false := by simpa using hcz2.1.2 hd34
                    go_wp2_with fail
                    go_quiet (fail)
                    go_wp2_with (at_builtin; refine print_append_num (w0 := w) w.heap.size rfl (.tmp 47) (.tmp 49) 81 5 .u8 1 rfl Tryd.underlying81 labels_Unquote.info (by decide) _ (labels_Unquote.nats acc) z2 rfl rfl (by exact pw_own_below (Kd.own_of_R HR.out.2.2) (pw_below_drewN (Below.refl _ _) _)) (by exact pw_below_drewN HB.out _) ?_ ?_ ?_)
                    · have := HB.out.size; simpa using this
                    · have h8 : (labels_Unquote.nats acc).length = acc.length := by simp [labels_Unquote.nats]
                      rw [h8]; simp at hal; omega
                    · intro v1 w1 hown hB hg hat
                      have hR1 : Kd.R (Kd.int .u8) 5 w1 w.heap.size (fun _ => True) v1 (labels_Unquote.nats (acc ++ [d])) := by
                        have h9 : labels_Unquote.nats (acc ++ [d]) = labels_Unquote.nats acc ++ [z2] := by simp [labels_Unquote.nats, hzd.out]
                        rw [h9]
                        have e9 : ∀ y : Int, (labels_Unquote.nats acc ++ [y]).length = (labels_Unquote.nats acc).length + 1 := fun y => by simp
                        refine Kd.R_of_own ?_ (fun _ _ => trivial)
                        rw [e9]
                        exact hown
                      have HR1 := Aside0.mk hR1
                      have HB1 := Aside0.mk hB
                      clear hown hg hat hB hR1
                      go_wp2
                      go_roundg g1
                      case rel => exact ⟨_, q2, acc ++ [d], rfl, ⟨HX23.out, hfin.out, HR1.out⟩, by simp at hk; omega, by simp at hal ⊢; omega, HB1⟩
                      case measure => omega
                  · have hz2 : (z2 == 34) = false := by
                      have : ¬ z2 = 34 := fun e => hd34 (hcz2.1.1 e)
                      simpa using this
                    have hz3 : (z2 == 92) = true := by
                      have : d = 92 := by rcases hd with h | h; exact absurd h hd34; exact h
                      simpa using hcz2.2.2 this
                    have hz2b : (z2 != 34) = true := by
                      have : ¬ z2 = 34 := fun e => hd34 (hcz2.1.1 e)
                      simpa using this
                    have hz3b : (z2 != 92) = false := by
                      have : d = 92 := by rcases hd with h | h; exact absurd h hd34; exact h
                      simpa using hcz2.2.2 this
                    go_wp2_with fail
                    go_quiet (fail)
                    go_wp2_with (at_builtin; refine print_append_num (w0 := w) w.heap.size rfl (.tmp 47) (.tmp 49) 81 5 .u8 1 rfl Tryd.underlying81 labels_Unquote.info (by decide) _ (labels_Unquote.nats acc) z2 rfl rfl (by exact pw_own_below (Kd.own_of_R HR.out.2.2) (pw_below_drewN (Below.refl _ _) _)) (by exact pw_below_drewN HB.out _) ?_ ?_ ?_)
                    · have := HB.out.size; simpa using this
                    · have h8 : (labels_Unquote.nats acc).length = acc.length := by simp [labels_Unquote.nats]
                      rw [h8]; simp at hal; omega
                    · intro v1 w1 hown hB hg hat
                      have hR1 : Kd.R (Kd.int .u8) 5 w1 w.heap.size (fun _ => True) v1 (labels_Unquote.nats (acc ++ [d])) := by
                        have h9 : labels_Unquote.nats (acc ++ [d]) = labels_Unquote.nats acc ++ [z2] := by simp [labels_Unquote.nats, hzd.out]
                        rw [h9]
                        have e9 : ∀ y : Int, (labels_Unquote.nats acc ++ [y]).length = (labels_Unquote.nats acc).length + 1 := fun y => by simp
                        refine Kd.R_of_own ?_ (fun _ _ => trivial)
                        rw [e9]
                        exact hown
                      have HR1 := Aside0.mk hR1
                      have HB1 := Aside0.mk hB
                      clear hown hg hat hB hR1
                      go_wp2
                      go_roundg g1
                      case rel => exact ⟨_, q2, acc ++ [d], rfl, ⟨HX23.out, hfin.out, HR1.out⟩, by simp at hk; omega, by simp at hal ⊢; omega, HB1⟩
                      case measure => omega
                · have hfin : Aside0 (r1 = ⟨#[]⟩ ∧ r2 = ⟨#[]⟩ ∧ r3 = 5) := ⟨by
                    have h5 := HR.out.2.1
                    rw [h92, Base.unqL_bad d q2 acc hd] at h5
                    obtain ⟨h6, h7⟩ := Prod.mk.inj h5
                    obtain ⟨h8, h9⟩ := Prod.mk.inj h7
                    exact ⟨h6.symm, h8.symm, h9.symm⟩⟩
                  have hz2 : (z2 == 34) = false := by
                    have : ¬ z2 = 34 := fun e => hd (.inl (hcz2.1.1 e))
                    simpa using this
                  have hz3 : (z2 == 92) = false := by
                    have : ¬ z2 = 92 := fun e => hd (.inr (hcz2.2.1 e))
                    simpa using this
                  have hz2b : (z2 != 34) = true := by simpa using hz2
                  have hz3b : (z2 != 92) = true := by simpa using hz3
                  go_wp2
                  go_ret3
                  exact ⟨by rw [hfin.out.1, hfin.out.2.1, hfin.out.2.2]; rfl, HB.out⟩
            · have hb92 : (z == 92) = false := by
                have : ¬ z = 92 := fun e => h92 (hcz.2.1 e)
                simpa using this
              have hfin : Aside0 (labels_Unquote.out (Base.unqL q (acc ++ [c])) = (r1, r2, r3)) := ⟨by
                have h5 := HR.out.2.1
                rw [Base.unqL_plain c q acc h34 h92] at h5
                exact h5⟩
              go_wp2_with (at_builtin; refine print_append_num (w0 := w) w.heap.size rfl (.tmp 47) (.tmp 49) 81 5 .u8 1 rfl Tryd.underlying81 labels_Unquote.info (by decide) _ (labels_Unquote.nats acc) z rfl rfl (by exact Kd.own_of_R HR.out.2.2) (by exact HB.out) ?_ ?_ ?_)
              · have := HB.out.size; simpa using this
              · have h8 : (labels_Unquote.nats acc).length = acc.length := by simp [labels_Unquote.nats]
                rw [h8]; simp at hal; omega
              · intro v1 w1 hown hB hg hat
                have hR1 : Kd.R (Kd.int .u8) 5 w1 w.heap.size (fun _ => True) v1 (labels_Unquote.nats (acc ++ [c])) := by
                  have h9 : labels_Unquote.nats (acc ++ [c]) = labels_Unquote.nats acc ++ [z] := by simp [labels_Unquote.nats, hzc.out]
                  rw [h9]
                  have e9 : ∀ y : Int, (labels_Unquote.nats acc ++ [y]).length = (labels_Unquote.nats acc).length + 1 := fun y => by simp
                  refine Kd.R_of_own ?_ (fun _ _ => trivial)
                  rw [e9]
                  exact hown
                have HR1 := Aside0.mk hR1
                have HB1 := Aside0.mk hB
                clear hown hg hat hB hR1
                go_wp2
                go_roundg g1
                case rel => exact ⟨_, q, acc ++ [c], rfl, ⟨HX2.out, hfin.out, HR1.out⟩, by simp at hk; omega, by simp at hal ⊢; omega, HB1⟩
                case measure => omega
    · have hcut := labels_Unquote.cut_no 34 a0 (fun r hr => hq ⟨r, hr⟩)
      have HC := Aside0.mk hcut
      have hu2 : Aside0 (r1 = ⟨#[]⟩ ∧ r2 = ⟨#[]⟩ ∧ r3 = 5) := ⟨by
        unfold Base.unq at hu
        cases hl : a0.data.toList with
        | nil =>
          rw [hl] at hu
          obtain ⟨h6, h7⟩ := Prod.mk.inj hu
          obtain ⟨h8, h9⟩ := Prod.mk.inj h7
          exact ⟨h6.symm, h8.symm, h9.symm⟩
        | cons c q =>
          rw [hl] at hu
          have hc : ¬ c = 34 := fun e => hq ⟨q, by rw [hl, e]⟩
          simp only [hc, if_false] at hu
          obtain ⟨h6, h7⟩ := Prod.mk.inj hu
          obtain ⟨h8, h9⟩ := Prod.mk.inj h7
          exact ⟨h6.symm, h8.symm, h9.symm⟩⟩
      clear hcut hu
      go_enter Tryd.func100, Tryd.ntmps100
      go_wp2_with (go_at_call 66; refine (strings_CutPrefix.calls _ _ _ _ _ HC.out).mono ?_; rintro e W1 ⟨rfl, ⟨nd, rfl⟩⟩)
      refine wp_loop_rounds 1 ?_
      rw [rounds_succ]
      go_wp2
      go_ret3
      exact ⟨by rw [hu2.out.1, hu2.out.2.1, hu2.out.2.2]; rfl, pw_below_drewN (Below.refl _ _) nd⟩
  · rw [if_neg hlim] at h
    exact absurd h (by simp)

end Go.Proofs.YtgnehcgaplnfkaaDoor.PAll
