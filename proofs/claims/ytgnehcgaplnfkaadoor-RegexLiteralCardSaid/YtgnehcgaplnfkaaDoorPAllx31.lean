-- Written by a program of this seat (wip/tools), out of the translation. Not trusted: Lean checks it.
import Derived.Test.YtgnehcgaplnfkaaDoorPAllx0
import Derived.Test.YtgnehcgaplnfkaaDoorPAllx3
import Derived.Test.YtgnehcgaplnfkaaDoorPAllx4
import Derived.Test.YtgnehcgaplnfkaaDoorPAllx10
import Derived.Test.YtgnehcgaplnfkaaDoorPAllx18
import Derived.Test.YtgnehcgaplnfkaaDoorPAllx20
namespace Go.Proofs.YtgnehcgaplnfkaaDoor.PAll
open Go.RowKit Go.Proofs.YtgnehcgaplnfkaaDoorW.PrintWords Go.Proofs.YtgnehcgaplnfkaaDoorW.PrintLast Go.Proofs.YtgnehcgaplnfkaaDoorW.PrintMore
attribute [local go_sem] max2_int min2_int max_two min_two max_three min_three max_four min_four   -- for this text's walks alone
set_option linter.unusedVariables false
set_option linter.unusedSimpArgs false

/-! ### regex_Literal: function 17 -/
-- uses regex_Check regex_parse strings_IndexByte regex_inst
def regex_Literal.markB (r : Int) : Bool := decide (r < 128) && decide (0 ≤ Lib.indexByte [46, 91, 40, 124, 42, 43, 63] ((r % 256).toNat.toUInt8))
/-- The code points that a pattern says, each behind a backslash or plain; none: another mark. -/
def regex_Literal.litFrom : List Int → Bool → List Int → Option (List Int)
  | [], _, acc => some acc
  | r :: q, true, acc => regex_Literal.litFrom q false (acc ++ [r])
  | r :: q, false, acc => if r = 92 then regex_Literal.litFrom q true acc else if regex_Literal.markB r = true then none else regex_Literal.litFrom q false (acc ++ [r])
def regex_Literal.litR : Option (List Int) → ByteArray × Bool
  | none => (⟨#[]⟩, false)
  | some l => (runesBytes l, true)
def regex_Literal.litM (p : ByteArray) : ByteArray × Bool := match regex_parse.parseM p with
  | none => (⟨#[]⟩, false)
  | some _ => regex_Literal.litR (regex_Literal.litFrom (Base.runesOf p) false [])
theorem regex_Literal.conv {w : World} {base : Nat} {ok : Nat → Prop} {v : Value} {xs : List Int} (h : Kd.R (Kd.int .i32) 21 w base ok v xs) : (convert 70 9 v).run Tryd.prog w = .ok (.string (runesBytes xs)) w := by
  obtain ⟨A, c, rfl, hc, hr⟩ := Kd.R_reads h
  cases A with
  | none =>
    cases xs with
    | nil => exact run_convert_runes_nil w 70 9 21 _ _ Tryd.underlying70 Tryd.underlying21 Tryd.underlying9
    | cons x xs =>
      obtain ⟨ad, e, _⟩ := Kd.at_int hr 0 (by omega) (by simp)
      cases e
  | some a =>
    have h9 := run_convert_runes (P := Tryd.prog) w 70 9 21 a xs.length c xs (Nat.le_refl _) Tryd.underlying70 Tryd.underlying21 Tryd.underlying9 (fun j hj => by
      obtain ⟨ad, e, hx⟩ := Kd.at_int hr (j : Int) (by omega) (by omega)
      injection e with e
      subst e
      simpa [rd] using hx)
    rw [List.take_length] at h9
    exact h9
theorem regex_Literal.info32 : (Tryd.prog.info? 21).map (fun i => (i.zero, i.size, i.bytes)) = some (some (.int .i32 0), 1, 4) := by kernel_rfl
theorem regex_Literal.size60 {p : ByteArray} {code : List S62} (h : regex_parse.parseM p = some code) : p.size ≤ 60 := by
  unfold regex_parse.parseM at h
  split at h
  · cases h
  · rename_i h60
    rcases Nat.lt_or_ge 60 p.size with h9 | h9
    · exact absurd (Or.inl h9) h60
    · exact h9
set_option maxHeartbeats 4000000 in
theorem regex_Literal.calls (p : ByteArray) (w : World) (hG : strings_ToValidUTF8.Gd w) : Calls Tryd.prog 17 #[.string p] w fun e w' => e = .returned (.tuple #[.string (regex_Literal.litM p).1, .bool (regex_Literal.litM p).2]) ∧ Below w.heap.size w w' := by
  have HG := Aside0.mk hG
  clear hG
  cases hp : regex_parse.parseM p with
  | none =>
    have HP := Aside0.mk hp
    have HM : Aside0 (regex_Literal.litM p = (⟨#[]⟩, false)) := ⟨by unfold regex_Literal.litM; rw [hp]⟩
    rw [HM.out]
    clear hp
    have hnil : ∀ W, (binOp .eql 56 (.slice none 0 0) (.slice none 0 0)).run Tryd.prog W = .ok (.bool true) W := fun W => Lib.run_eql_slice_nil W 56 62 none 0 0 0 0 Tryd.underlying56
    go_enter Tryd.func17, Tryd.ntmps17
    go_wp2_with (go_at_call 30; (with_reducible refine (regex_parse.calls w p HG.out).mono ?_); rintro e W1 ⟨v, rfl, hB1, hv⟩; rw [HP.out] at hv; simp only at hv; subst hv; have HB1 := Aside0.mk hB1; clear hB1)
    go_ret2
    exact ⟨rfl, HB1.out⟩
  | some code =>
    have HP := Aside0.mk hp
    obtain ⟨_, hlen, _⟩ := regex_Check.parse_wf hp
    have h60 := regex_Literal.size60 hp
    obtain ⟨R, hR⟩ : ∃ R, Aside0 (regex_Literal.litFrom (Base.runesOf p) false [] = R) := ⟨_, ⟨rfl⟩⟩
    have HM : Aside0 (regex_Literal.litM p = regex_Literal.litR R) := ⟨by unfold regex_Literal.litM; rw [hp]; simp only; rw [hR.out]⟩
    rw [HM.out]
    clear hp
    go_enter Tryd.func17, Tryd.ntmps17
    go_wp2_with (go_at_call 30; (with_reducible refine (regex_parse.calls w p HG.out).mono ?_); rintro e W1 ⟨v, rfl, hB1, hv⟩; rw [HP.out] at hv; simp only at hv; obtain ⟨A1, c1, e1⟩ := Kd.R_slice hv; subst e1; obtain ⟨gb, eg⟩ := regex_inst.form hv hlen; subst eg; have hnil : ∀ W, (binOp .eql 56 (.slice (some ⟨gb, 0, none⟩) code.length c1) (.slice none 0 0)).run Tryd.prog W = .ok (.bool false) W := fun W => Lib.run_eql_slice_nil W 56 62 (some ⟨gb, 0, none⟩) code.length c1 0 0 Tryd.underlying56; have HB1 := Aside0.mk hB1; clear hB1 hv)
    go_loopw [4, 5] (fun v4 v5 wr => ∃ (pos fuel : Nat) (acc : List Int) (esc : Bool), v5 = .bool esc ∧ wr.heap[W1.heap.size]? = some (.stringIter p pos) ∧ Aside0 (Below w.heap.size w wr) ∧ Aside0 (Kd.R (Kd.int .i32) 21 wr w.heap.size (fun k => k ≠ W1.heap.size) v4 acc) ∧ Aside0 (regex_Literal.litFrom (Base.runesFrom p fuel pos) esc acc = R) ∧ p.size ≤ fuel + pos ∧ acc.length ≤ pos)
      (fun v4 v5 wr => p.size - wr.iterPos W1.heap.size)
    case atStart =>
      refine ⟨0, p.size, [], false, rfl, ?_, ⟨HB1.out.alloc HB1.out.size _⟩, ⟨Kd.R_nil _ _ _ _ _⟩, ⟨hR.out⟩, by omega, by simp⟩
      have := World.iter_heap W1 p 0
      simpa using this
    case round =>
      obtain ⟨pos, fuel, acc, esc, rfl, hit, hbw, HR, HE, hfu, hal⟩ := hrel
      have HT1 : Aside0 (w.heap.size ≤ W1.heap.size) := ⟨HB1.out.size⟩
      by_cases hlt : pos < p.size
      · have hnx : ∀ ty, (Instr.next (.pointer (some ⟨W1.heap.size, 0, none⟩)) true ty).run Tryd.prog wr = _ := fun ty => Lib.run_next_any_at wr W1.heap.size p pos ty hit hlt
        have hwd := Base.width_pos p pos hlt
        have hd1 := decode_le p pos
        obtain ⟨f, rfl⟩ : ∃ f, fuel = f + 1 := ⟨fuel - 1, by omega⟩
        have hst := Base.runesFrom_step p f pos hlt
        obtain ⟨u, hu⟩ : ∃ u : Nat, (Utf8.decode p pos).1 = u := ⟨_, rfl⟩
        obtain ⟨pos2, hpos2⟩ : ∃ q, pos + (Utf8.decode p pos).2 = q := ⟨_, rfl⟩
        rw [hu] at hnx hst hd1
        rw [hpos2] at hnx hst
        rw [hst] at HE
        have hpl : pos < pos2 := by omega
        clear hst hu hpos2 hwd
        have hit2 := Aside0.mk (Lib.iterAt_heap wr W1.heap.size p pos pos2 hit)
        have hbw2 : Aside0 (Below w.heap.size w (wr.iterAt W1.heap.size p pos2)) := ⟨Lib.below_iterAt hbw.out HT1.out p pos2⟩
        have HR2 : Aside0 (Kd.R (Kd.int .i32) 21 (wr.iterAt W1.heap.size p pos2) w.heap.size (fun k => k ≠ W1.heap.size) _ acc) := ⟨Kd.R_move HR.out (fun k hk => Lib.iterAt_other wr W1.heap.size k p pos2 hk)⟩
        clear HR
        have HLI : Aside0 (W1.heap.size < (wr.iterAt W1.heap.size p pos2).heap.size) := ⟨(Array.getElem?_eq_some_iff.1 hit2.out).1⟩
        cases esc with
        | true =>
          have HE2 : Aside0 (regex_Literal.litFrom (Base.runesFrom p f pos2) false (acc ++ [(u : Int)]) = R) := ⟨HE.out⟩
          go_wp2_with (
            ((with_reducible refine gate_builtin (b := .append) (xs := #[.tmp 30, .tmp 32]) rfl ?_); at_builtin
             refine Kd.R_append (Kd.int .i32) (w0 := w) w.heap.size rfl (.tmp 30) (.tmp 32) 70 21 (.int .i32 0) 4 rfl Tryd.underlying70 regex_Literal.info32 rfl (by decide) (by decide) _ acc (u : Int) [.int .i32 u] (fun k => k ≠ W1.heap.size) (fun _ => False) rfl rfl rfl (fun _ hk => hk.elim) (fun k hk => by have := HLI.out; omega) HR2.out hbw2.out hbw2.out.size (by omega) ?_
             intro vx Wx hRx hBx hgx hatx
             have HRx := Aside0.mk hRx
             have HBx := Aside0.mk hBx
             have HIx : Aside0 (Wx.heap[W1.heap.size]? = some (.stringIter p pos2)) := ⟨(hgx.block _ HLI.out (fun e9 => (HR2.out.1 _ e9.symm) rfl)).trans hit2.out⟩
             clear hRx hBx hgx hatx))
          go_roundw
          case rel => exact ⟨pos2, f, acc ++ [(u : Int)], false, rfl, HIx.out, HBx, HRx, HE2, by omega, by simp; omega⟩
          case measure =>
            have h9 := HIx.out
            simp only [World.iterPos, h9, hit]
            omega
        | false =>
          by_cases h92 : u = 92
          · have hb : ((u : Int) == 92) = true := by simp; omega
            have HE2 : Aside0 (regex_Literal.litFrom (Base.runesFrom p f pos2) true acc = R) := ⟨by have h9 := HE.out; unfold regex_Literal.litFrom at h9; rw [if_pos (by omega)] at h9; exact h9⟩
            clear h92
            go_wp2
            go_roundw
            case rel => exact ⟨pos2, f, acc, true, rfl, hit2.out, hbw2, HR2, HE2, by omega, by omega⟩
            case measure =>
              have h9 := hit2.out
              simp only [World.iterPos, h9, hit]
              omega
          · have hb : ((u : Int) == 92) = false := by simp; omega
            obtain ⟨ix, hix⟩ : ∃ ix, Aside0 (Lib.indexByte [46, 91, 40, 124, 42, 43, 63] (((u : Int) % 256).toNat.toUInt8) = ix) := ⟨_, ⟨rfl⟩⟩
            have HE1 : Aside0 ((if (decide ((u : Int) < 128) && decide (0 ≤ ix)) = true then none else regex_Literal.litFrom (Base.runesFrom p f pos2) false (acc ++ [(u : Int)])) = R) := ⟨by have h9 := HE.out; unfold regex_Literal.litFrom at h9; rw [if_neg (by omega)] at h9; unfold regex_Literal.markB at h9; rw [hix.out] at h9; exact h9⟩
            clear h92 HE
            by_cases hm : u < 128 ∧ 0 ≤ ix
            · have hl : decide ((u : Int) < 128) = true := decide_eq_true (by omega)
              have hge : decide (0 ≤ ix) = true := decide_eq_true hm.2
              have HRN : Aside0 (R = none) := ⟨by have h9 := HE1.out; rw [hl, hge] at h9; exact h9.symm⟩
              clear hm
              go_wp2_with (go_at_call 34; refine (strings_IndexByte.calls _ _ _).mono ?_; rintro e w' ⟨rfl, hw⟩; rw [hw]; simp only [hix.out])
              go_ret2
              exact ⟨by rw [HRN.out]; rfl, hbw2.out⟩
            · have HE2 : Aside0 (regex_Literal.litFrom (Base.runesFrom p f pos2) false (acc ++ [(u : Int)]) = R) := ⟨by
                have h9 := HE1.out
                rw [if_neg (by simp only [Bool.and_eq_true, decide_eq_true_eq]; omega)] at h9
                exact h9⟩
              by_cases hl : u < 128
              · have hl1 : decide ((u : Int) < 128) = true := decide_eq_true (by omega)
                have hge : decide (0 ≤ ix) = false := decide_eq_false (by omega)
                clear hm hl
                go_wp2_with (first
                  | (go_at_call 34; refine (strings_IndexByte.calls _ _ _).mono ?_; rintro e w' ⟨rfl, hw⟩; rw [hw]; simp only [hix.out])
                  | ((with_reducible refine gate_builtin (b := .append) (xs := #[.tmp 30, .tmp 32]) rfl ?_); at_builtin
                     refine Kd.R_append (Kd.int .i32) (w0 := w) w.heap.size rfl (.tmp 30) (.tmp 32) 70 21 (.int .i32 0) 4 rfl Tryd.underlying70 regex_Literal.info32 rfl (by decide) (by decide) _ acc (u : Int) [.int .i32 u] (fun k => k ≠ W1.heap.size) (fun _ => False) rfl rfl rfl (fun _ hk => hk.elim) (fun k hk => by have := HLI.out; omega) HR2.out hbw2.out hbw2.out.size (by omega) ?_
                     intro vx Wx hRx hBx hgx hatx
                     have HRx := Aside0.mk hRx
                     have HBx := Aside0.mk hBx
                     have HIx : Aside0 (Wx.heap[W1.heap.size]? = some (.stringIter p pos2)) := ⟨(hgx.block _ HLI.out (fun e9 => (HR2.out.1 _ e9.symm) rfl)).trans hit2.out⟩
                     clear hRx hBx hgx hatx))
                go_roundw
                case rel => exact ⟨pos2, f, acc ++ [(u : Int)], false, rfl, HIx.out, HBx, HRx, HE2, by omega, by simp; omega⟩
                case measure =>
                  have h9 := HIx.out
                  simp only [World.iterPos, h9, hit]
                  omega
              · have hl1 : decide ((u : Int) < 128) = false := decide_eq_false (by omega)
                clear hm hl
                go_wp2_with (
                  ((with_reducible refine gate_builtin (b := .append) (xs := #[.tmp 30, .tmp 32]) rfl ?_); at_builtin
                   refine Kd.R_append (Kd.int .i32) (w0 := w) w.heap.size rfl (.tmp 30) (.tmp 32) 70 21 (.int .i32 0) 4 rfl Tryd.underlying70 regex_Literal.info32 rfl (by decide) (by decide) _ acc (u : Int) [.int .i32 u] (fun k => k ≠ W1.heap.size) (fun _ => False) rfl rfl rfl (fun _ hk => hk.elim) (fun k hk => by have := HLI.out; omega) HR2.out hbw2.out hbw2.out.size (by omega) ?_
                   intro vx Wx hRx hBx hgx hatx
                   have HRx := Aside0.mk hRx
                   have HBx := Aside0.mk hBx
                   have HIx : Aside0 (Wx.heap[W1.heap.size]? = some (.stringIter p pos2)) := ⟨(hgx.block _ HLI.out (fun e9 => (HR2.out.1 _ e9.symm) rfl)).trans hit2.out⟩
                   clear hRx hBx hgx hatx))
                go_roundw
                case rel => exact ⟨pos2, f, acc ++ [(u : Int)], false, rfl, HIx.out, HBx, HRx, HE2, by omega, by simp; omega⟩
                case measure =>
                  have h9 := HIx.out
                  simp only [World.iterPos, h9, hit]
                  omega
      · have hnx : ∀ ty, (Instr.next (.pointer (some ⟨W1.heap.size, 0, none⟩)) true ty).run Tryd.prog wr = _ := fun ty => Lib.run_next_end_at wr W1.heap.size p pos ty hit hlt
        have HH : Aside0 (R = some acc) := ⟨by
          have h9 := HE.out
          rw [Base.runesFrom_end p fuel pos hlt] at h9
          rw [← h9]
          cases esc <;> rfl⟩
        have hcv := regex_Literal.conv HR.out
        go_wp2
        go_ret2
        exact ⟨by rw [HH.out]; rfl, hbw.out⟩
-- in the form of the print
def regex_Literal.f (a0 : ByteArray) : Option (ByteArray × Bool) := some (regex_Literal.litM a0)
theorem regex_Literal.callsP (a0 : ByteArray) (r1 : ByteArray) (r2 : Bool) (w : World) (hG : strings_ToValidUTF8.Gd w) (h : regex_Literal.f a0 = some (r1, r2)) :
    Calls Tryd.prog 17 #[.string a0] w fun e w' => e = .returned (.tuple #[.string r1, .bool r2]) ∧ Below w.heap.size w w' := by
  have h0 : regex_Literal.litM a0 = (r1, r2) := Option.some.inj h
  refine (regex_Literal.calls a0 w hG).mono ?_
  rintro e w' ⟨rfl, hB⟩
  rw [h0]
  exact ⟨rfl, hB⟩

end Go.Proofs.YtgnehcgaplnfkaaDoor.PAll
