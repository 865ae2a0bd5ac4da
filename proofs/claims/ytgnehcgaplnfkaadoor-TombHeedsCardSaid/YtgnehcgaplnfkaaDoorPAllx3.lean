-- Written by a program of this seat (wip/tools), out of the translation. Not trusted: Lean checks it.
import Derived.Test.YtgnehcgaplnfkaaDoorPAllx0
namespace Go.Proofs.YtgnehcgaplnfkaaDoor.PAll
open Go.RowKit Go.Proofs.YtgnehcgaplnfkaaDoorW.PrintWords Go.Proofs.YtgnehcgaplnfkaaDoorW.PrintLast Go.Proofs.YtgnehcgaplnfkaaDoorW.PrintMore
attribute [local go_sem] max2_int min2_int max_two min_two max_three min_three max_four min_four   -- for this text's walks alone
set_option linter.unusedVariables false
set_option linter.unusedSimpArgs false

/-! ### strings_ToValidUTF8: function 52 -/
def strings_ToValidUTF8.f : Option Int := none
/-- What the library's calls read of the world: utf8's tables, the search's bound. -/
def strings_ToValidUTF8.Gd (w : World) : Prop := Lib.Utf8Tabs 1 2 w ∧ ∃ m, w.cell? ⟨0, 0, none⟩ = some (.int .i64 m)
theorem strings_ToValidUTF8.Gd.tabs {w : World} (h : strings_ToValidUTF8.Gd w) : Lib.Utf8Tabs 1 2 w := h.1
theorem strings_ToValidUTF8.Gd.cell {w : World} (h : strings_ToValidUTF8.Gd w) : ∃ m, w.cell? ⟨0, 0, none⟩ = some (.int .i64 m) := h.2
theorem strings_ToValidUTF8.Gd.below {w w' : World} (h : strings_ToValidUTF8.Gd w) (hb : Below w.heap.size w w') : strings_ToValidUTF8.Gd w' := by
  refine ⟨Go.Proofs.Utf8Tabs_below h.1 hb, ?_⟩
  obtain ⟨m, hm⟩ := h.2
  refine ⟨m, ?_⟩
  have h0 : 0 < w.heap.size := by
    rcases Nat.eq_zero_or_pos w.heap.size with h9 | h9
    · simp [World.cell?, Array.getElem?_eq_none (show w.heap.size ≤ 0 by omega)] at hm
    · exact h9
  have h1 := hb.block 0 h0
  simpa [World.cell?, h1] using hm
/-- Whether a byte of a text is no code point's, from a place on. -/
def strings_ToValidUTF8.badFrom (s : ByteArray) : Nat → Nat → Bool
  | 0, _ => false
  | f + 1, pos => if pos < s.size then decide (Utf8.decode s pos = (65533, 1)) || strings_ToValidUTF8.badFrom s f (pos + (Utf8.decode s pos).2) else false
def strings_ToValidUTF8.badW (s : ByteArray) : Bool := strings_ToValidUTF8.badFrom s s.size 0
def strings_ToValidUTF8.Has (l : List UInt8) : Prop := ∃ a b, l = a ++ [239, 191, 189] ++ b
theorem strings_ToValidUTF8.Has.more {l : List UInt8} (h : strings_ToValidUTF8.Has l) (r : List UInt8) : strings_ToValidUTF8.Has (l ++ r) := by
  obtain ⟨a, b, rfl⟩ := h
  exact ⟨a, b ++ r, by simp⟩
theorem strings_ToValidUTF8.BA_below {B b : Nat} {p : Value} {bs : List Value} {w w' : World} (h : Lib.BuilderAt 125 5 B b p bs w) (hb : Below w.heap.size w w') : Lib.BuilderAt 125 5 B b p bs w' := by
  obtain ⟨hB, v, hk, ho, hne⟩ := h
  exact ⟨hB, v, blk_below hk hb, pw_own_below ho hb, hne⟩
theorem strings_ToValidUTF8.width_le (s : ByteArray) (pos : Nat) (h : pos < s.size) : pos + (Utf8.decode s pos).2 ≤ s.size := by
  have h1 : (s.data.toList.drop pos).length = s.size - pos := by rw [List.length_drop, data_length]
  have h2 := Lib.decodeL_le (s.data.toList.drop pos) (by intro h9; rw [h9] at h1; simp at h1; omega)
  rw [Lib.decodeL_drop] at h2
  omega
/-- A builder of the call's own that has been written, its bytes. -/
def strings_ToValidUTF8.BF (b : Nat) (acc : List UInt8) (w : World) : Prop := Lib.BuilderAtF 125 5 b b (.pointer (some ⟨b, 0, none⟩)) (Lib.byteCells acc) w
theorem strings_ToValidUTF8.BF.below {b : Nat} {acc : List UInt8} {w w' : World} (h : strings_ToValidUTF8.BF b acc w) (hb : Below w.heap.size w w') : strings_ToValidUTF8.BF b acc w' := by
  obtain ⟨hB, v, hk, ho, hne⟩ := h
  refine ⟨hB, v, blk_below hk hb, ⟨ho.1, ?_⟩, hne⟩
  rcases ho.2 with h9 | ⟨g, cap, cur, fz, h1, h2, h3, h4⟩
  · exact Or.inl h9
  · refine Or.inr ⟨g, cap, cur, fz, h1, h2, ?_, h4⟩
    have hlt : g < w.heap.size := by
      rcases Nat.lt_or_ge g w.heap.size with h' | h'
      · exact h'
      · simp [Array.getElem?_eq_none h'] at h3
    rw [hb.block g hlt]
    exact h3
theorem strings_ToValidUTF8.BF.is {b : Nat} {acc : List UInt8} {w : World} (h : strings_ToValidUTF8.BF b acc w) : Lib.IsBuilderF 125 5 b b (Lib.byteCells acc) w := Or.inr h
theorem strings_ToValidUTF8.BF.cap {b : Nat} {acc : List UInt8} {w : World} {v : Value} (h : strings_ToValidUTF8.BF b acc w) (hc : w.cell? ⟨b, 1, none⟩ = some v) (hp : 0 < v.capOf) : ∃ A c, w.cell? ⟨b, 1, none⟩ = some (.slice A acc.length c) ∧ 0 < c := by
  obtain ⟨hB, v1, hk, ho, hne⟩ := h
  have h8 : w.cell? ⟨b, 1, none⟩ = some v1 := by rw [Lib.cell_of_heap hk]; rfl
  rw [h8] at hc
  injection hc with hc
  subst hc
  rcases ho.2 with ⟨h1, h2⟩ | ⟨g, cap, cur, fz, h1, h2, h3, h4⟩
  · subst h1
    exact absurd hp (by decide)
  · refine ⟨some ⟨g, 0, none⟩, cap, ?_, ?_⟩
    · rw [h8, h1, Lib.byteCells_length]
    · rw [h1] at hp
      exact hp
theorem strings_ToValidUTF8.wstr (w : World) (b : Nat) (acc : List UInt8) (s : ByteArray) (h : strings_ToValidUTF8.BF b acc w) (hlen : acc.length + s.size ≤ 100000) (hbw : b ≤ w.heap.size) :
    Calls Tryd.prog 77 #[.pointer (some ⟨b, 0, none⟩), .string s] w fun e w' => e = .returned (.tuple #[.int .i64 s.size, .nilIface]) ∧ strings_ToValidUTF8.BF b (acc ++ s.data.toList) w' ∧ Below b w w' ∧ ∀ v0, w.cell? ⟨b, 1, none⟩ = some v0 → ∃ v1, w'.cell? ⟨b, 1, none⟩ = some v1 ∧ v0.capOf ≤ v1.capOf := by
  refine (Tryd.Builder_WriteString_kc b b (Lib.byteCells acc) s w (Or.inr h) (by rw [Lib.byteCells_length]; omega) hbw).mono ?_
  rintro e w' ⟨rfl, ⟨h1, h2, _⟩, h3⟩
  refine ⟨rfl, ?_, h2, h3⟩
  unfold strings_ToValidUTF8.BF
  rw [Lib.byteCells_append]
  exact h1
theorem strings_ToValidUTF8.wbyte (w : World) (b : Nat) (acc : List UInt8) (c : UInt8) (h : strings_ToValidUTF8.BF b acc w) (hlen : acc.length + 1 ≤ 100000) (hbw : b ≤ w.heap.size) :
    Calls Tryd.prog 79 #[.pointer (some ⟨b, 0, none⟩), .int .u8 c.toNat] w fun e w' => e = .returned .nilIface ∧ strings_ToValidUTF8.BF b (acc ++ [c]) w' ∧ Below b w w' := by
  refine (Tryd.Builder_WriteByte_k b b (Lib.byteCells acc) c.toNat w (Or.inr h) (by rw [Lib.byteCells_length]; omega) hbw).mono ?_
  rintro e w' ⟨rfl, h1, h2, _⟩
  refine ⟨rfl, ?_, h2⟩
  unfold strings_ToValidUTF8.BF
  rw [Lib.byteCells_append]
  exact h1
set_option maxHeartbeats 4000000 in
set_option maxRecDepth 10000 in
theorem strings_ToValidUTF8.calls (w : World) (s : ByteArray) (hG : strings_ToValidUTF8.Gd w) (hsz : s.size ≤ 1000) :
    Calls Tryd.prog 52 #[.string s, .string ⟨#[239, 191, 189]⟩] w fun e w' => ∃ r, e = .returned (.string r) ∧ Below w.heap.size w w' ∧ r.size ≤ 100000 ∧ (strings_ToValidUTF8.badW s = true → strings_ToValidUTF8.Has r.data.toList) ∧ (strings_ToValidUTF8.badW s = false → r = s) := by
  obtain ⟨Wb, hWb⟩ : ∃ Wb, Aside0 (w.alloc (.cells #[.pointer none, .slice none 0 0] 125) = Wb) := ⟨_, ⟨rfl⟩⟩
  have hbk : Aside0 (Wb.heap[w.heap.size]? = some (.cells #[.pointer none, .slice none 0 0] 125 (0, 0))) := ⟨by rw [← hWb.out]; exact blk_new _ _⟩
  have hbb : Aside0 (Below w.heap.size w Wb) := ⟨by rw [← hWb.out]; exact below_alloc (Below.refl _ _) _⟩
  have hsb : Aside0 (Wb.heap.size = w.heap.size + 1) := ⟨by rw [← hWb.out]; simp⟩
  have HG := Aside0.mk hG
  have HREP : Aside0 ((⟨#[239, 191, 189]⟩ : ByteArray).size = 3) := ⟨rfl⟩
  clear hG
  go_enter Tryd.func52, Tryd.ntmps52
  go_wp2
  rw [hWb.out]
  go_loopw [0] (fun v0 wr => ∃ (pos fuel : Nat), v0 = .string s ∧ wr.heap[w.heap.size + 1]? = some (.stringIter s pos) ∧ Aside0 (Below Wb.heap.size Wb wr) ∧ Aside0 (strings_ToValidUTF8.badFrom s fuel pos = strings_ToValidUTF8.badW s) ∧ s.size ≤ fuel + pos)
    (fun v0 wr => s.size - wr.iterPos (w.heap.size + 1))
  case atStart =>
    refine ⟨0, s.size, rfl, ?_, ⟨?_⟩, ⟨rfl⟩, by omega⟩
    · have := World.iter_heap Wb s 0
      rw [hsb.out] at this
      simpa using this
    · exact (Below.refl _ Wb).alloc (Nat.le_refl _) _
  case round =>
    obtain ⟨pos, fuel, rfl, hit, hbw, HE, hfu⟩ := hrel
    have hbk2 : Aside0 (wr.heap[w.heap.size]? = some (.cells #[.pointer none, .slice none 0 0] 125 (0, 0))) := ⟨blk_below hbk.out hbw.out⟩
    have hbw3 : Aside0 (Below w.heap.size w wr) := ⟨below_then hbb.out hbb.out.size hbw.out⟩
    have cb1 : wr.cell? ⟨w.heap.size, 1, none⟩ = some (.slice none 0 0) := by
      have h9 := blk_cell hbk2.out 1
      simpa using h9
    by_cases hp : pos < s.size
    · have hnx : ∀ ty, (Instr.next (.pointer (some ⟨w.heap.size + 1, 0, none⟩)) true ty).run Tryd.prog wr = _ := fun ty => Lib.run_next_any_at wr (w.heap.size + 1) s pos ty hit hp
      have hwd := Base.width_pos s pos hp
      have hd1 := decode_le s pos
      have hit2 := Lib.iterAt_heap wr (w.heap.size + 1) s pos (pos + (Utf8.decode s pos).2) hit
      have hbw2 := Lib.below_iterAt hbw.out (k := w.heap.size + 1) (by rw [hsb.out]; omega) s (pos + (Utf8.decode s pos).2)
      obtain ⟨f, rfl⟩ : ∃ f, fuel = f + 1 := ⟨fuel - 1, by omega⟩
      have hst : strings_ToValidUTF8.badFrom s (f + 1) pos = (decide (Utf8.decode s pos = (65533, 1)) || strings_ToValidUTF8.badFrom s f (pos + (Utf8.decode s pos).2)) := by
        conv => lhs; unfold strings_ToValidUTF8.badFrom
        rw [if_pos hp]
      rw [hst] at HE
      clear hst
      by_cases h4 : (Utf8.decode s pos).1 = 65533
      · have hb4 : (((Utf8.decode s pos).1 : Int) == 65533) = true := by simp; omega
        have hb5 : (((Utf8.decode s pos).1 : Int) != 65533) = false := by simp; omega
        obtain ⟨Wi, hWi⟩ : ∃ Wi, Aside0 (wr.iterAt (w.heap.size + 1) s (pos + (Utf8.decode s pos).2) = Wi) := ⟨_, ⟨rfl⟩⟩
        rw [hWi.out] at hit2 hbw2
        have HIT := Aside0.mk hit2
        have hwi : Aside0 (Below w.heap.size w Wi) := ⟨below_then hbb.out hbb.out.size hbw2⟩
        have hgi : Aside0 (strings_ToValidUTF8.Gd Wi) := ⟨HG.out.below hwi.out⟩
        have HBW2 := Aside0.mk hbw2
        have HDG : Aside0 (Lib.decodeGo (s.extract pos s.size) = Utf8.decode s pos) := ⟨Lib.decodeGo_extract s pos hp⟩
        clear hbw2 hit2
        by_cases hw1 : (Utf8.decode s pos).2 = 1
        · have hw2 : (((Utf8.decode s pos).2 : Int) == 1) = true := by simp; omega
          have hbad : Aside0 (strings_ToValidUTF8.badW s = true) := ⟨by
            rw [← HE.out, show Utf8.decode s pos = (65533, 1) from Prod.ext h4 hw1]
            rfl⟩
          obtain ⟨t, ht⟩ : ∃ t, Aside0 (s.extract pos s.size = t) := ⟨_, ⟨rfl⟩⟩
          have HTZ : Aside0 (t.size = s.size - pos) := ⟨by rw [← ht.out]; simp⟩
          have htl : t.size ≤ 1000 := by have := HTZ.out; omega
          have ht0 : Aside0 (Utf8.decode t 0 = (65533, 1)) := ⟨by
            have h9 := HDG.out
            rw [ht.out] at h9
            unfold Lib.decodeGo at h9
            rw [if_neg (by have := HTZ.out; omega)] at h9
            rw [h9]
            exact Prod.ext h4 hw1⟩
          clear hw1
          have hnum : Aside0 (((s.size + 3 : Nat) : Int) = (s.size : Int) + 3) := ⟨by omega⟩
          go_wp2_with (first
            | (go_at_call 75; rw [hWi.out]; (with_reducible refine (Tryd.utf8_DecodeRuneInString (s.extract pos s.size) Wi hgi.out.tabs).mono ?_); rintro e W1 ⟨rfl, hB1⟩; rw [HDG.out]
               have hbw1 : Aside0 (Below w.heap.size w W1) := ⟨below_then hwi.out hwi.out.size hB1⟩
               have hbk1 : Aside0 (W1.heap[w.heap.size]? = some (.cells #[.pointer none, .slice none 0 0] 125 (0, 0))) := ⟨blk_below (blk_below hbk.out HBW2.out) hB1⟩
               clear hB1)
            | (go_at_call 76
               have hGr := Tryd.Builder_Grow_fresh_cap w.heap.size w.heap.size (s.size + 3) W1 (Nat.le_refl _) hbk1.out hbw1.out.size (by omega)
               rw [hnum.out] at hGr
               (with_reducible refine hGr.mono ?_)
               clear hGr
               rintro e W2 ⟨rfl, ⟨hA2, hB2⟩, p2, cap2, hc2, hn2⟩
               have hbw4 : Aside0 (Below w.heap.size w W2) := ⟨hbw1.out.trans hB2⟩
               have hbf2 : Aside0 (strings_ToValidUTF8.BF w.heap.size [] W2) := ⟨Lib.BuilderAtF.of hA2⟩
               have hcap2 : Aside0 (W2.cell? ⟨w.heap.size, 1, none⟩ = some (.slice p2 0 cap2) ∧ 0 < cap2) := ⟨hc2, by omega⟩
               clear hA2 hB2 hc2 hn2)
            | (go_at_call 77; (with_reducible refine (strings_ToValidUTF8.wstr W2 w.heap.size [] (s.extract 0 pos) hbf2.out (by simp; omega) hbw4.out.size).mono ?_); rintro e W3 ⟨rfl, hF3, hB3, hc3⟩
               obtain ⟨v3, hv3, hle3⟩ := hc3 _ hcap2.out.1
               obtain ⟨A3, c3, hcell3, hpos3⟩ := hF3.cap hv3 (Nat.lt_of_lt_of_le hcap2.out.2 hle3)
               have hbw5 : Aside0 (Below w.heap.size w W3) := ⟨hbw4.out.trans hB3⟩
               have hbf3 := Aside0.mk hF3
               have hcz : ((c3 : Int) == 0) = false := by simp; omega
               clear hv3 hle3 hc3 hF3 hB3)
            | (go_at_call 78; (with_reducible refine (Tryd.Builder_Cap_cell w.heap.size A3 _ c3 W3 hcell3).mono ?_); rintro e W4 ⟨rfl, hW4⟩; rw [hW4, ht.out]))
          go_loopg [10, 11] t.size (fun kq v10 v11 wq => ∃ (i : Nat) (iv : Bool) (acc : List UInt8), v10 = .bool iv ∧ v11 = .int .i64 i ∧ i ≤ t.size ∧ Aside0 (strings_ToValidUTF8.BF w.heap.size acc wq) ∧ Aside0 (Below w.heap.size w wq) ∧ Aside0 ((i = 0 ∧ iv = false ∧ 0 < t.size) ∨ strings_ToValidUTF8.Has acc) ∧ t.size ≤ kq + i ∧ acc.length + 3 * (t.size - i) ≤ 5000)
          case atStart => exact ⟨0, false, _, rfl, rfl, by omega, hbf3, hbw5, ⟨Or.inl ⟨rfl, rfl, by have := HTZ.out; omega⟩⟩, by omega, by have := HTZ.out; simp; omega⟩
          case round =>
            obtain ⟨i, iv, acc, rfl, rfl, hi, hbf, hbw6, hhas, hk, hlen⟩ := hrel
            clear h4 hb4 hb5 hw2 hcz hcell3 hpos3 cb1 hnx hit hfu hwd hd1
            by_cases hlt : i < t.size
            · obtain ⟨g1, rfl⟩ : ∃ g1, gk = g1 + 1 := ⟨gk - 1, by omega⟩
              by_cases h128 : (t[i]'hlt).toNat < 128
              · have hci : decide (((t[i]'hlt).toNat : Int) < 128) = true := by simp; omega
                have hH : Aside0 (strings_ToValidUTF8.Has acc) := ⟨by
                  rcases hhas.out with ⟨h1, _, h3⟩ | h9
                  · exfalso
                    subst h1
                    have h2 := decode_ascii t 0 h3 h128
                    rw [ht0.out] at h2
                    injection h2 with h2 _
                    omega
                  · exact h9⟩
                go_wp2_with (go_at_call 79; (with_reducible refine (strings_ToValidUTF8.wbyte wr w.heap.size acc (t[i]'hlt) hbf.out (by omega) hbw6.out.size).mono ?_); rintro e W5 ⟨rfl, hF5, hB5⟩; have HF5 := Aside0.mk hF5; have HB5 := Aside0.mk hB5; clear hF5 hB5)
                go_roundg g1
                case rel => exact ⟨i + 1, false, acc ++ [t[i]'hlt], rfl, by go_num, by omega, HF5, ⟨hbw6.out.trans HB5.out⟩, ⟨Or.inr (hH.out.more _)⟩, by omega, by simp only [List.length_append, List.length_cons, List.length_nil]; omega⟩
                case measure => omega
              · have hci : decide (((t[i]'hlt).toNat : Int) < 128) = false := by simp; omega
                have HGr : Aside0 (strings_ToValidUTF8.Gd wr) := ⟨HG.out.below hbw6.out⟩
                have HD : Aside0 (Lib.decodeGo (t.extract i t.size) = Utf8.decode t i) := ⟨Lib.decodeGo_extract t i hlt⟩
                have hwd := Base.width_pos t i hlt
                have hwl := strings_ToValidUTF8.width_le t i hlt
                obtain ⟨x, hx⟩ : ∃ x, Aside0 (Utf8.decode t i = x) := ⟨_, ⟨rfl⟩⟩
                rw [hx.out] at HD hwd hwl
                obtain ⟨ru, wd⟩ := x
                simp only at hwd hwl
                by_cases hw1 : wd = 1
                · subst hw1
                  cases iv with
                  | false =>
                    go_wp2_with (first
                      | (go_at_call 75; (with_reducible refine (Tryd.utf8_DecodeRuneInString (t.extract i t.size) wr HGr.out.tabs).mono ?_); rintro e W4 ⟨rfl, hB4⟩; rw [HD.out]; have HB4 := Aside0.mk hB4; clear hB4)
                      | (go_at_call 77; (with_reducible refine (strings_ToValidUTF8.wstr W4 w.heap.size acc ⟨#[239, 191, 189]⟩ (hbf.out.below HB4.out) (by rw [HREP.out]; omega) (Nat.le_trans hbw6.out.size HB4.out.size)).mono ?_); rintro e W5 ⟨rfl, hF5, hB5, _⟩
                         have HF5 := Aside0.mk hF5
                         have HB5 : Aside0 (Below w.heap.size w W5) := ⟨(below_then hbw6.out hbw6.out.size HB4.out).trans hB5⟩
                         clear hF5 hB5))
                    go_roundg g1
                    case rel => exact ⟨i + 1, true, acc ++ [239, 191, 189], rfl, by go_num, by omega, HF5, HB5, ⟨Or.inr ⟨acc, [], by simp⟩⟩, by omega, by simp only [List.length_append, List.length_cons, List.length_nil]; omega⟩
                    case measure => omega
                  | true =>
                    have hH : Aside0 (strings_ToValidUTF8.Has acc) := ⟨by
                      rcases hhas.out with ⟨_, h1, _⟩ | h9
                      · cases h1
                      · exact h9⟩
                    go_wp2_with (go_at_call 75; (with_reducible refine (Tryd.utf8_DecodeRuneInString (t.extract i t.size) wr HGr.out.tabs).mono ?_); rintro e W4 ⟨rfl, hB4⟩; rw [HD.out]; have HB4 := Aside0.mk hB4; clear hB4)
                    go_roundg g1
                    case rel => exact ⟨i + 1, true, acc, rfl, by go_num, by omega, ⟨hbf.out.below HB4.out⟩, ⟨below_then hbw6.out hbw6.out.size HB4.out⟩, ⟨Or.inr hH.out⟩, by omega, by omega⟩
                    case measure => omega
                · have hw2 : ((wd : Int) == 1) = false := by simp; omega
                  have hH : Aside0 (strings_ToValidUTF8.Has acc) := ⟨by
                    rcases hhas.out with ⟨h1, _, h3⟩ | h9
                    · exfalso
                      subst h1
                      have h2 := hx.out
                      rw [ht0.out] at h2
                      injection h2 with _ h2
                      exact hw1 h2.symm
                    · exact h9⟩
                  clear hw1
                  have hex : Aside0 ((t.extract i (i + wd)).data.toList.length = wd) := ⟨by
                    rw [Base.extract_list, List.length_take, List.length_drop, data_length]
                    omega⟩
                  have hnum2 : Aside0 ((t.extract i (i + wd)).size = wd) := ⟨by rw [← data_length, hex.out]⟩
                  go_wp2_with (first
                    | (go_at_call 75; (with_reducible refine (Tryd.utf8_DecodeRuneInString (t.extract i t.size) wr HGr.out.tabs).mono ?_); rintro e W4 ⟨rfl, hB4⟩; rw [HD.out]; have HB4 := Aside0.mk hB4; clear hB4)
                    | (go_at_call 77; (with_reducible refine (strings_ToValidUTF8.wstr W4 w.heap.size acc (t.extract i (i + wd)) (hbf.out.below HB4.out) (by rw [hnum2.out]; omega) (Nat.le_trans hbw6.out.size HB4.out.size)).mono ?_); rintro e W5 ⟨rfl, hF5, hB5, _⟩
                       have HF5 := Aside0.mk hF5
                       have HB5 : Aside0 (Below w.heap.size w W5) := ⟨(below_then hbw6.out hbw6.out.size HB4.out).trans hB5⟩
                       clear hF5 hB5))
                  go_roundg g1
                  case rel => exact ⟨i + wd, false, acc ++ (t.extract i (i + wd)).data.toList, rfl, by go_num, by omega, HF5, HB5, ⟨Or.inr (hH.out.more _)⟩, by omega, by rw [List.length_append, hex.out]; omega⟩
                  case measure => omega
            · have hH : Aside0 (strings_ToValidUTF8.Has acc) := ⟨by
                rcases hhas.out with ⟨h1, _, h3⟩ | h9
                · exfalso
                  omega
                · exact h9⟩
              go_wp2_with (go_at_call 80; (with_reducible refine (Tryd.Builder_String_any_f w.heap.size w.heap.size acc wr hbf.out.is hbw6.out.size).mono ?_); rintro e W5 ⟨rfl, _, hB5⟩; have HB5 := Aside0.mk hB5; clear hB5)
              go_ret
              exact ⟨⟨acc.toArray⟩, rfl, hbw6.out.trans HB5.out, by simp [ByteArray.size]; omega, fun _ => hH.out, fun h9 => absurd h9 (by rw [hbad.out]; decide)⟩
        · have hw2 : (((Utf8.decode s pos).2 : Int) == 1) = false := by simp; omega
          have Hg : Aside0 (decide (Utf8.decode s pos = (65533, 1)) = false) := ⟨by
            simp only [decide_eq_false_iff_not]
            intro h9
            exact hw1 (by rw [h9])⟩
          clear hw1
          go_wp2_with (go_at_call 75; rw [hWi.out]; (with_reducible refine (Tryd.utf8_DecodeRuneInString (s.extract pos s.size) Wi hgi.out.tabs).mono ?_); rintro e W1 ⟨rfl, hB1⟩; rw [HDG.out]; have HB1 := Aside0.mk hB1; clear hB1)
          go_roundw
          case rel =>
            refine ⟨pos + (Utf8.decode s pos).2, f, rfl, blk_below HIT.out HB1.out, ⟨below_then HBW2.out HBW2.out.size HB1.out⟩, ⟨?_⟩, by omega⟩
            have h2 := HE.out
            rw [Hg.out, Bool.false_or] at h2
            exact h2
          case measure =>
            have e1 := blk_below HIT.out HB1.out
            simp only [World.iterPos, e1, hit]
            omega
      · have hb4 : (((Utf8.decode s pos).1 : Int) == 65533) = false := by simp; omega
        have hb5 : (((Utf8.decode s pos).1 : Int) != 65533) = true := by simp; omega
        have Hg : Aside0 (decide (Utf8.decode s pos = (65533, 1)) = false) := ⟨by
          simp only [decide_eq_false_iff_not]
          intro h9
          exact h4 (by rw [h9])⟩
        go_wp2
        go_roundw
        case rel =>
          refine ⟨pos + (Utf8.decode s pos).2, f, rfl, by simpa using hit2, ⟨hbw2⟩, ⟨?_⟩, by omega⟩
          have h2 := HE.out
          rw [Hg.out, Bool.false_or] at h2
          exact h2
        case measure =>
          simp only [World.iterPos, hit2, hit]
          omega
    · have hnx : ∀ ty, (Instr.next (.pointer (some ⟨w.heap.size + 1, 0, none⟩)) true ty).run Tryd.prog wr = _ := fun ty => Lib.run_next_end_at wr (w.heap.size + 1) s pos ty hit hp
      have H1 : Aside0 (strings_ToValidUTF8.badW s = false) := ⟨by
        rw [← HE.out]
        cases fuel with
        | zero => rfl
        | succ f =>
          unfold strings_ToValidUTF8.badFrom
          rw [if_neg hp]⟩
      go_wp2_with (go_at_call 78; (with_reducible refine (Tryd.Builder_Cap_cell w.heap.size none 0 0 wr cb1).mono ?_); rintro e W1 ⟨rfl, hW1⟩; rw [hW1])
      go_ret
      exact ⟨s, rfl, hbw3.out, by omega, fun h9 => absurd h9 (by rw [H1.out]; decide), fun _ => rfl⟩

end Go.Proofs.YtgnehcgaplnfkaaDoor.PAll
