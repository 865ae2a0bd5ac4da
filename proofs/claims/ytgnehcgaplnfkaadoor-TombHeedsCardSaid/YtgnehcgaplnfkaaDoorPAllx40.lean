-- Written by a program of this seat (wip/tools), out of the translation. Not trusted: Lean checks it.
import Derived.Test.YtgnehcgaplnfkaaDoorPAllx0
import Derived.Test.YtgnehcgaplnfkaaDoorPAllx3
import Derived.Test.YtgnehcgaplnfkaaDoorPAllx18
import Derived.Test.YtgnehcgaplnfkaaDoorPAllx20
import Derived.Test.YtgnehcgaplnfkaaDoorPAllx36
import Derived.Test.YtgnehcgaplnfkaaDoorPAllx39
namespace Go.Proofs.YtgnehcgaplnfkaaDoor.PAll
open Go.RowKit Go.Proofs.YtgnehcgaplnfkaaDoorW.PrintWords Go.Proofs.YtgnehcgaplnfkaaDoorW.PrintLast Go.Proofs.YtgnehcgaplnfkaaDoorW.PrintMore
attribute [local go_sem] max2_int min2_int max_two min_two max_three min_three max_four min_four   -- for this text's walks alone
set_option linter.unusedVariables false
set_option linter.unusedSimpArgs false

/-! ### match_can: function 38 -/
-- uses labels_Value labels_Name regex_Check
/-- A pattern's text has no control code. -/
def match_can.quietB (r : Int) : Bool := !(decide (r < 32) || decide (r = 127))
def match_can.canB (kind : Int) (name value : ByteArray) : Bool :=
  (if kind = 1 ∨ kind = 2 then (decide (value.size = 0) || Base.valueB value)
   else if kind = 3 ∨ kind = 4 then (Base.runesOf value).all match_can.quietB && (regex_parse.parseM value).isSome
   else false) && Base.nameB name
theorem match_can.of_pair {kind : Int} {name value : ByteArray} (h : kind = 1 ∨ kind = 2) : match_can.canB kind name value = ((decide (value.size = 0) || Base.valueB value) && Base.nameB name) := by
  unfold match_can.canB
  rw [if_pos h]
theorem match_can.of_like {kind : Int} {name value : ByteArray} (h : kind = 3 ∨ kind = 4) : match_can.canB kind name value = (((Base.runesOf value).all match_can.quietB && (regex_parse.parseM value).isSome) && Base.nameB name) := by
  unfold match_can.canB
  rw [if_neg (by omega), if_pos h]
theorem match_can.empty_list (s : ByteArray) : s.toList.isEmpty = decide (s.size = 0) := by
  by_cases h : s.size = 0
  · rw [(Base.toList_nil s).2 h, decide_eq_true h]
    rfl
  · rw [decide_eq_false h]
    cases hl : s.toList with
    | nil => exact absurd ((Base.toList_nil s).1 hl) h
    | cons _ _ => rfl
set_option maxHeartbeats 4000000 in
set_option maxRecDepth 10000 in
theorem match_can.calls (w : World) (kind : Int) (name value : ByteArray) (hG : strings_ToValidUTF8.Gd w) :
    Calls Tryd.prog 38 #[.agg #[.int .i64 kind, .string name, .string value]] w fun e w' => e = .returned (.bool (match_can.canB kind name value)) ∧ Below w.heap.size w w' := by
  obtain ⟨Wa, hWa⟩ : ∃ Wa, Aside0 (w.alloc (.cells #[.int .i64 kind, .string name, .string value] 35) = Wa) := ⟨_, ⟨rfl⟩⟩
  have hbl : Below w.heap.size w Wa := by rw [← hWa.out]; exact below_alloc (Below.refl _ _) _
  have hbx : Wa.heap[w.heap.size]? = some (.cells #[.int .i64 kind, .string name, .string value] 35 (0, 0)) := by rw [← hWa.out]; exact blk_new _ _
  have HB := Aside0.mk hbl
  have HX := Aside0.mk hbx
  have HG := Aside0.mk (hG.below hbl)
  have HSZ : Aside0 (Wa.heap.size = w.heap.size + 1) := ⟨by rw [← hWa.out]; simp⟩
  obtain ⟨nm, hnm⟩ : ∃ b, Aside0 (Base.nameB name = b) := ⟨_, ⟨rfl⟩⟩
  have hnf : Aside0 (labels_Name.f name = some nm) := ⟨by rw [← hnm.out]; rfl⟩
  clear hbl hbx hG
  by_cases h12 : kind = 1 ∨ kind = 2
  · have HV : Aside0 (match_can.canB kind name value = ((decide (value.size = 0) || Base.valueB value) && nm)) := ⟨by rw [match_can.of_pair h12, hnm.out]⟩
    have hkk : ((kind == 1) = true ∧ kind = 1) ∨ ((kind == 1) = false ∧ (kind == 2) = true ∧ kind = 2) := by
      rcases h12 with rfl | rfl
      · exact Or.inl ⟨rfl, rfl⟩
      · exact Or.inr ⟨rfl, rfl, rfl⟩
    clear h12
    rw [HV.out]
    have he := match_can.empty_list value
    obtain ⟨vb, hvb⟩ : ∃ b, Aside0 (Base.valueB value = b) := ⟨_, ⟨rfl⟩⟩
    have hvf : Aside0 (labels_Value.f value = some vb) := ⟨by rw [← hvb.out]; rfl⟩
    rw [hvb.out]
    by_cases h0 : value.size = 0
    · rw [decide_eq_true h0] at he ⊢
      have hel : value.toList = [] := (Base.toList_nil value).2 h0
      clear h0 HV
      rcases hkk with ⟨_, rfl⟩ | ⟨_, _, rfl⟩
      all_goals
        have c0 := blk_cell HX.out 0
        go_enter Tryd.func38, Tryd.ntmps38
        go_wp2_with (first
          | (go_at_call 65; rw [hWa.out]; (with_reducible refine (labels_Name.calls name nm Wa hnf.out).mono ?_); rintro e W2 ⟨rfl, hB2⟩; have HB2 := Aside0.mk hB2; clear hB2))
        go_ret
        exact ⟨rfl, below_then HB.out HB.out.size HB2.out⟩
    · rw [decide_eq_false h0] at he ⊢
      have hen : ¬ value.toList = [] := by intro hl; rw [hl] at he; simp at he
      clear h0 HV
      cases vb
      all_goals
        rcases hkk with ⟨_, rfl⟩ | ⟨_, _, rfl⟩
        all_goals
          go_enter Tryd.func38, Tryd.ntmps38
          go_wp2_with (first
            | (go_at_call 64; rw [hWa.out]; (with_reducible refine (labels_Value.calls value _ Wa hvf.out).mono ?_); rintro e W1 ⟨rfl, hB1⟩
               have hx1 := blk_below HX.out hB1
               have c0 := blk_cell hx1 0
               have c1 := blk_cell hx1 1
               simp only [List.size_toArray, List.length_cons, List.length_nil, List.getElem?_toArray, List.getElem?_cons_zero, List.getElem?_cons_succ] at c0 c1
               have HB1 : Aside0 (Below w.heap.size w W1) := ⟨below_then HB.out HB.out.size hB1⟩
               clear hB1 hx1)
            | (go_at_call 65; (with_reducible refine (labels_Name.calls name nm W1 hnf.out).mono ?_); rintro e W2 ⟨rfl, hB2⟩; have HB2 := Aside0.mk hB2; clear hB2))
          go_ret
          first
            | exact ⟨rfl, HB1.out⟩
            | exact ⟨rfl, below_then HB1.out HB1.out.size HB2.out⟩
  · by_cases h34 : kind = 3 ∨ kind = 4
    · have HV : Aside0 (match_can.canB kind name value = (((Base.runesOf value).all match_can.quietB && (regex_parse.parseM value).isSome) && nm)) := ⟨by rw [match_can.of_like h34, hnm.out]⟩
      have c0a := blk_cell HX.out 0
      have c1a := blk_cell HX.out 1
      have c2a := blk_cell HX.out 2
      simp only [List.size_toArray, List.length_cons, List.length_nil, List.getElem?_toArray, List.getElem?_cons_zero, List.getElem?_cons_succ] at c0a c1a c2a
      rw [HV.out]
      clear h12 HV
      have hit0 : Aside0 ((Wa.iter value 0).heap[w.heap.size + 1]? = some (.stringIter value 0)) := ⟨by
        have := World.iter_heap Wa value 0
        rw [HSZ.out] at this
        exact this⟩
      have hbi : Aside0 (Below Wa.heap.size Wa (Wa.iter value 0)) := ⟨(Below.refl _ Wa).alloc (Nat.le_refl _) _⟩
      obtain ⟨Wi, hWi⟩ : ∃ Wi, Aside0 (Wa.iter value 0 = Wi) := ⟨_, ⟨rfl⟩⟩
      rw [hWi.out] at hit0 hbi
      rcases h34 with rfl | rfl
      all_goals
        go_enter Tryd.func38, Tryd.ntmps38
        go_wp2
        rw [hWa.out, hWi.out]
        go_loopw [] (fun wr => ∃ (pos fuel : Nat), wr.heap[w.heap.size + 1]? = some (.stringIter value pos) ∧ Aside0 (Below Wa.heap.size Wa wr) ∧ Aside0 ((Base.runesFrom value fuel pos).all match_can.quietB = (Base.runesOf value).all match_can.quietB) ∧ value.size ≤ fuel + pos)
          (fun wr => value.size - wr.iterPos (w.heap.size + 1))
        case atStart => exact ⟨0, value.size, hit0.out, hbi, ⟨rfl⟩, by omega⟩
        case round =>
          obtain ⟨pos, fuel, hit, hbw, HE, hfu⟩ := hrel
          have hxr := blk_below HX.out hbw.out
          have c0 := blk_cell hxr 0
          have c1 := blk_cell hxr 1
          have c2 := blk_cell hxr 2
          simp only [List.size_toArray, List.length_cons, List.length_nil, List.getElem?_toArray, List.getElem?_cons_zero, List.getElem?_cons_succ] at c0 c1 c2
          have HBr : Aside0 (Below w.heap.size w wr) := ⟨below_then HB.out HB.out.size hbw.out⟩
          clear hxr c0a c1a c2a
          by_cases hp : pos < value.size
          · have hnx : ∀ ty, (Instr.next (.pointer (some ⟨w.heap.size + 1, 0, none⟩)) true ty).run Tryd.prog wr = _ := fun ty => Lib.run_next_any_at wr (w.heap.size + 1) value pos ty hit hp
            have hwd := Base.width_pos value pos hp
            have hd1 := decode_le value pos
            obtain ⟨f, rfl⟩ : ∃ f, fuel = f + 1 := ⟨fuel - 1, by omega⟩
            have hst := Base.runesFrom_step value f pos hp
            obtain ⟨r, hr⟩ : ∃ r : Nat, (Utf8.decode value pos).1 = r := ⟨_, rfl⟩
            obtain ⟨pos2, hpos2⟩ : ∃ q, pos + (Utf8.decode value pos).2 = q := ⟨_, rfl⟩
            rw [hr] at hnx hd1 hst
            rw [hpos2] at hnx hst
            rw [hst, List.all_cons] at HE
            have hpl : pos < pos2 := by omega
            clear hst hr hpos2 hwd
            have hit2 := Aside0.mk (Lib.iterAt_heap wr (w.heap.size + 1) value pos pos2 hit)
            have hbw2 : Aside0 (Below Wa.heap.size Wa (wr.iterAt (w.heap.size + 1) value pos2)) := ⟨Lib.below_iterAt hbw.out (by rw [HSZ.out]; exact Nat.le_refl _) value pos2⟩
            have HBr2 : Aside0 (Below w.heap.size w (wr.iterAt (w.heap.size + 1) value pos2)) := ⟨below_then HB.out HB.out.size hbw2.out⟩
            by_cases h32 : r < 32
            · have hd : decide ((r : Int) < 32) = true := decide_eq_true (by omega)
              have HQ : Aside0 (match_can.quietB (r : Int) = false) := ⟨by unfold match_can.quietB; rw [hd]; rfl⟩
              rw [HQ.out, Bool.false_and] at HE
              go_wp2
              go_ret
              exact ⟨by rw [← HE.out]; rfl, HBr2.out⟩
            · have hd : decide ((r : Int) < 32) = false := decide_eq_false (by omega)
              by_cases h127 : r = 127
              · have he : ((r : Int) == 127) = true := by simp; omega
                have HQ : Aside0 (match_can.quietB (r : Int) = false) := ⟨by unfold match_can.quietB; rw [hd, decide_eq_true (show (r : Int) = 127 by omega)]; rfl⟩
                rw [HQ.out, Bool.false_and] at HE
                clear h127
                go_wp2
                go_ret
                exact ⟨by rw [← HE.out]; rfl, HBr2.out⟩
              · have he : ((r : Int) == 127) = false := by simp; omega
                have HQ : Aside0 (match_can.quietB (r : Int) = true) := ⟨by unfold match_can.quietB; rw [hd, decide_eq_false (show ¬ (r : Int) = 127 by omega)]; rfl⟩
                rw [HQ.out, Bool.true_and] at HE
                clear h127
                go_wp2
                go_roundw
                case rel => exact ⟨pos2, f, hit2.out, hbw2, HE, by omega⟩
                case measure =>
                  have h9 := hit2.out
                  simp only [World.iterPos, h9, hit]
                  omega
          · have hnx : ∀ ty, (Instr.next (.pointer (some ⟨w.heap.size + 1, 0, none⟩)) true ty).run Tryd.prog wr = _ := fun ty => Lib.run_next_end_at wr (w.heap.size + 1) value pos ty hit hp
            have HQ : Aside0 ((Base.runesOf value).all match_can.quietB = true) := ⟨by
              rw [← HE.out, Base.runesFrom_end value fuel pos hp]
              rfl⟩
            obtain ⟨pm, hpm⟩ : ∃ b, Aside0 ((regex_parse.parseM value).isSome = b) := ⟨_, ⟨rfl⟩⟩
            have HGr := Aside0.mk (HG.out.below hbw.out)
            cases pm
            all_goals
              go_wp2_with (first
                | (go_at_call 13; (with_reducible refine (regex_Check.calls wr value HGr.out).mono ?_); rintro e W1 ⟨rfl, hB1⟩; rw [hpm.out]
                   have hx1 := blk_below (blk_below HX.out hbw.out) hB1
                   have d1 := blk_cell hx1 1
                   simp only [List.size_toArray, List.length_cons, List.length_nil, List.getElem?_toArray, List.getElem?_cons_zero, List.getElem?_cons_succ] at d1
                   have HB1 : Aside0 (Below w.heap.size w W1) := ⟨below_then HBr.out HBr.out.size hB1⟩
                   clear hB1 hx1
                   simp only [if_true, if_false, Bool.false_eq_true])
                | (go_at_call 65; (with_reducible refine (labels_Name.calls name nm W1 hnf.out).mono ?_); rintro e W2 ⟨rfl, hB2⟩; have HB2 := Aside0.mk hB2; clear hB2))
              go_ret
              first
                | exact ⟨by rw [HQ.out, hpm.out]; rfl, HB1.out⟩
                | exact ⟨by rw [HQ.out, hpm.out]; rfl, below_then HB1.out HB1.out.size HB2.out⟩
    · have b1 : (kind == 1) = false := by simp; omega
      have b2 : (kind == 2) = false := by simp; omega
      have b3 : (kind == 3) = false := by simp; omega
      have b4 : (kind == 4) = false := by simp; omega
      have HO : Aside0 (match_can.canB kind name value = false) := ⟨by
        unfold match_can.canB
        rw [if_neg h12, if_neg h34]
        rfl⟩
      rw [HO.out]
      clear h12 h34
      go_enter Tryd.func38, Tryd.ntmps38
      go_wp2
      rw [hWa.out]
      go_ret
      exact ⟨rfl, HB.out⟩
-- in the form of the print
def match_can.f (a0 : Int) (a1 a2 : ByteArray) : Option Bool := some (match_can.canB a0 a1 a2)
theorem match_can.callsP (a0 : Int) (a1 a2 : ByteArray) (r : Bool) (w : World) (hG : strings_ToValidUTF8.Gd w) (h : match_can.f a0 a1 a2 = some r) :
    Calls Tryd.prog 38 #[.agg #[.int .i64 a0, .string a1, .string a2]] w fun e w' => e = .returned (.bool r) ∧ Below w.heap.size w w' := by
  obtain rfl := Option.some.inj h
  exact match_can.calls w a0 a1 a2 hG

end Go.Proofs.YtgnehcgaplnfkaaDoor.PAll
