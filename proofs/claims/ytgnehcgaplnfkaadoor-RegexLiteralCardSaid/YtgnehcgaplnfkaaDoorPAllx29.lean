-- Written by a program of this seat (wip/tools), out of the translation. Not trusted: Lean checks it.
import Derived.Test.YtgnehcgaplnfkaaDoorPAllx0
import Derived.Test.YtgnehcgaplnfkaaDoorPAllx27
import Derived.Test.YtgnehcgaplnfkaaDoorPAllx28
namespace Go.Proofs.YtgnehcgaplnfkaaDoor.PAll
open Go.RowKit Go.Proofs.YtgnehcgaplnfkaaDoorW.PrintWords Go.Proofs.YtgnehcgaplnfkaaDoorW.PrintLast Go.Proofs.YtgnehcgaplnfkaaDoorW.PrintMore
attribute [local go_sem] max2_int min2_int max_two min_two max_three min_three max_four min_four   -- for this text's walks alone
set_option linter.unusedVariables false
set_option linter.unusedSimpArgs false

/-! ### dryrotref08_parse: function 33 -/
-- uses dryrotref08_runes dryrotref08_one
def dryrotref08_parse.f : Option Int := none
/-- A text that is no pattern because it is too long, or holds U+FFFD. -/
def dryrotref08_parse.early (p : ByteArray) : Bool := decide (60 < p.size) || dryrotref08_one.oneB 65533 (Base.runesOf p)
def dryrotref08_parse.zn : Value := .agg #[.int .i64 0, .slice none 0 0, .bool false, .int .i32 0, .slice none 0 0]
set_option maxHeartbeats 4000000 in
theorem dryrotref08_parse.early_calls (p : ByteArray) (w : World) (hs : p.size ≤ 35184372088830) (h : dryrotref08_parse.early p = true) :
    Calls Tryd.prog 33 #[.string p] w fun e w' => e = .returned (.tuple #[dryrotref08_parse.zn, .bool false]) ∧ Below w.heap.size w w' := by
  have HE := Aside0.mk h
  clear h
  obtain ⟨W0, hW0⟩ : ∃ W0, Aside0 (w.alloc (.cells #[.int .i64 0, .slice none 0 0, .bool false, .int .i32 0, .slice none 0 0] 67) = W0) := ⟨_, ⟨rfl⟩⟩
  have HB0 : Aside0 (Below w.heap.size w W0) := ⟨by rw [← hW0.out]; exact below_alloc (Below.refl _ _) _⟩
  have HX0 : Aside0 (W0.heap[w.heap.size]? = some (.cells #[.int .i64 0, .slice none 0 0, .bool false, .int .i32 0, .slice none 0 0] 67 (0, 0))) := ⟨by rw [← hW0.out]; exact blk_new _ _⟩
  unfold dryrotref08_parse.zn
  by_cases h60 : 60 < p.size
  · have hd : decide ((60 : Int) < (p.size : Int)) = true := decide_eq_true (by omega)
    clear h60
    go_enter Tryd.func33, Tryd.ntmps33
    go_wp2_with (
      (go_at_call 57; rw [hW0.out]; (with_reducible refine (dryrotref08_runes.calls p W0 hs).mono ?_); rintro e W1 ⟨v1, rfl, hR1, hB1⟩
       have HB1 : Aside0 (Below w.heap.size w W1) := ⟨below_then HB0.out HB0.out.size hB1⟩
       have HX1 := Aside0.mk (blk_below HX0.out hB1)
       have c0 := blk_cell HX1.out 0
       have c1 := blk_cell HX1.out 1
       have c2 := blk_cell HX1.out 2
       have c3 := blk_cell HX1.out 3
       have c4 := blk_cell HX1.out 4
       simp only [List.size_toArray, List.length_cons, List.length_nil, List.getElem?_toArray, List.getElem?_cons_zero, List.getElem?_cons_succ] at c0 c1 c2 c3 c4
       have f0 := blk_frozen HX1.out 0
       have f1 := blk_frozen HX1.out 1
       have f2 := blk_frozen HX1.out 2
       have f3 := blk_frozen HX1.out 3
       have f4 := blk_frozen HX1.out 4
       clear hR1 hB1))
    refine bodyPost_ret (v := .tuple #[.agg #[.int .i64 0, .slice none 0 0, .bool false, .int .i32 0, .slice none 0 0], .bool false]) (by simp [results, Tryd.results33, go_sem, c0, c1, c2, c3, c4]) rfl ⟨rfl, ?_⟩
    have h9 := (((((HB1.out.setCell (p := ⟨w.heap.size, 0, none⟩) (Nat.le_refl _) (.int .i64 0)).setCell (p := ⟨w.heap.size, 1, none⟩) (Nat.le_refl _) (.slice none 0 0)).setCell (p := ⟨w.heap.size, 2, none⟩) (Nat.le_refl _) (.bool false)).setCell (p := ⟨w.heap.size, 3, none⟩) (Nat.le_refl _) (.int .i32 0)).setCell (p := ⟨w.heap.size, 4, none⟩) (Nat.le_refl _) (.slice none 0 0))
    exact h9
  · have hd : decide ((60 : Int) < (p.size : Int)) = false := decide_eq_false (by omega)
    have HO : Aside0 (dryrotref08_one.f 65533 p = some true) := ⟨by have h9 := HE.out; unfold dryrotref08_parse.early at h9; rw [decide_eq_false h60] at h9; unfold dryrotref08_one.f; rw [← h9]; rfl⟩
    clear h60
    go_enter Tryd.func33, Tryd.ntmps33
    go_wp2_with (first
      | (go_at_call 57; rw [hW0.out]; (with_reducible refine (dryrotref08_runes.calls p W0 hs).mono ?_); rintro e W1 ⟨v1, rfl, hR1, hB1⟩
         have HB1 : Aside0 (Below w.heap.size w W1) := ⟨below_then HB0.out HB0.out.size hB1⟩
         have HX1 := Aside0.mk (blk_below HX0.out hB1)
         clear hR1 hB1)
      | (go_at_call 58; (with_reducible refine (dryrotref08_one.calls 65533 p true W1 HO.out).mono ?_); rintro e W2 ⟨rfl, hB2⟩
         have HB2 : Aside0 (Below w.heap.size w W2) := ⟨below_then HB1.out HB1.out.size hB2⟩
         have HX2 := Aside0.mk (blk_below HX1.out hB2)
         have c0 := blk_cell HX2.out 0
         have c1 := blk_cell HX2.out 1
         have c2 := blk_cell HX2.out 2
         have c3 := blk_cell HX2.out 3
         have c4 := blk_cell HX2.out 4
         simp only [List.size_toArray, List.length_cons, List.length_nil, List.getElem?_toArray, List.getElem?_cons_zero, List.getElem?_cons_succ] at c0 c1 c2 c3 c4
         have f0 := blk_frozen HX2.out 0
         have f1 := blk_frozen HX2.out 1
         have f2 := blk_frozen HX2.out 2
         have f3 := blk_frozen HX2.out 3
         have f4 := blk_frozen HX2.out 4
         clear hB2))
    refine bodyPost_ret (v := .tuple #[.agg #[.int .i64 0, .slice none 0 0, .bool false, .int .i32 0, .slice none 0 0], .bool false]) (by simp [results, Tryd.results33, go_sem, c0, c1, c2, c3, c4]) rfl ⟨rfl, ?_⟩
    have h9 := (((((HB2.out.setCell (p := ⟨w.heap.size, 0, none⟩) (Nat.le_refl _) (.int .i64 0)).setCell (p := ⟨w.heap.size, 1, none⟩) (Nat.le_refl _) (.slice none 0 0)).setCell (p := ⟨w.heap.size, 2, none⟩) (Nat.le_refl _) (.bool false)).setCell (p := ⟨w.heap.size, 3, none⟩) (Nat.le_refl _) (.int .i32 0)).setCell (p := ⟨w.heap.size, 4, none⟩) (Nat.le_refl _) (.slice none 0 0))
    exact h9

end Go.Proofs.YtgnehcgaplnfkaaDoor.PAll
