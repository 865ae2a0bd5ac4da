-- Written by a program of this seat (wip/tools), out of the translation. Not trusted: Lean checks it.
import Derived.Test.YtgnehcgaplnfkaaDoorPAllx0
import Derived.Test.YtgnehcgaplnfkaaDoorPAllx54
namespace Go.Proofs.YtgnehcgaplnfkaaDoor.PAll
open Go.RowKit Go.Proofs.YtgnehcgaplnfkaaDoorW.PrintWords Go.Proofs.YtgnehcgaplnfkaaDoorW.PrintLast Go.Proofs.YtgnehcgaplnfkaaDoorW.PrintMore
attribute [local go_sem] max2_int min2_int max_two min_two max_three min_three max_four min_four   -- for this text's walks alone
set_option linter.unusedVariables false
set_option linter.unusedSimpArgs false

/-! ### match_begin: function 67 -/
-- uses labels_Unquote
def match_begin.f : Option Int := none
def match_begin.sg (x : Nat) : Bool := decide (x = 33) || decide (x = 61)
theorem match_begin.pred (w : World) : Go.Proofs.PredGrows Tryd.prog 98 #[] match_begin.sg w := by
  intro W x hx _
  show Calls Tryd.prog 98 #[.int .i32 (x : Int)] W _
  by_cases h1 : x = 33
  · subst h1
    go_enter Tryd.func98, Tryd.ntmps98
    go_wp2
    go_ret
    exact ⟨rfl, Below.refl _ _⟩
  · have b1 : ((x : Int) == 33) = false := by simp; omega
    have HS : Aside0 (match_begin.sg x = ((x : Int) == 61)) := ⟨by
      unfold match_begin.sg
      rw [decide_eq_false h1, Bool.false_or]
      by_cases h2 : x = 61
      · subst h2; rfl
      · rw [decide_eq_false h2]
        symm
        simp
        omega⟩
    rw [HS.out]
    clear h1
    go_enter Tryd.func98, Tryd.ntmps98
    go_wp2
    go_ret
    exact ⟨rfl, Below.refl _ _⟩
theorem match_begin.enter (args : Array Value) (w : World) : (callFunc 98 args).run Tryd.prog w = .ok (.enter 98 args) w := enters_of Tryd.func98 (by kernel_rfl) rfl args w
set_option maxHeartbeats 4000000 in
theorem match_begin.signs (w : World) : Calls Tryd.prog 99 #[] w fun e w' => e = .returned (.agg #[.int .i64 2, .string ⟨#[33, 61]⟩, .int .i64 3, .string ⟨#[61, 126]⟩, .int .i64 4, .string ⟨#[33, 126]⟩, .int .i64 1, .string ⟨#[61]⟩]) ∧ Below w.heap.size w w' := by
  go_enter Tryd.func99, Tryd.ntmps99
  go_wp2
  refine bodyPost_ret (by simp [results, Tryd.results99, go_sem]; try rfl) rfl ?_
  exact ⟨rfl, below_alloc (Below.refl _ _) _⟩
def match_begin.arr : Value := .agg #[.int .i64 2, .string ⟨#[33, 61]⟩, .int .i64 3, .string ⟨#[61, 126]⟩, .int .i64 4, .string ⟨#[33, 126]⟩, .int .i64 1, .string ⟨#[61]⟩]
theorem match_begin.ix0 (W : World) : (Instr.index 144 match_begin.arr (.int .i64 0)).run Tryd.prog W = .ok (.agg #[.int .i64 2, .string ⟨#[33, 61]⟩]) W := by kernel_rfl
theorem match_begin.ix1 (W : World) : (Instr.index 144 match_begin.arr (.int .i64 1)).run Tryd.prog W = .ok (.agg #[.int .i64 3, .string ⟨#[61, 126]⟩]) W := by kernel_rfl
theorem match_begin.ix2 (W : World) : (Instr.index 144 match_begin.arr (.int .i64 2)).run Tryd.prog W = .ok (.agg #[.int .i64 4, .string ⟨#[33, 126]⟩]) W := by kernel_rfl
theorem match_begin.ix3 (W : World) : (Instr.index 144 match_begin.arr (.int .i64 3)).run Tryd.prog W = .ok (.agg #[.int .i64 1, .string ⟨#[61]⟩]) W := by kernel_rfl
theorem match_begin.cut (s p : ByteArray) (w : World) (r : ByteArray) (b : Bool) (h : ((⟨(Lib.trimPrefix s.data.toList p.data.toList).toArray⟩ : ByteArray), Lib.hasPrefix s.data.toList p.data.toList) = (r, b)) : Calls Tryd.prog 66 #[.string s, .string p] w fun e w' => e = .returned (.tuple #[.string r, .bool b]) ∧ w' = w := by
  injection h with h1 h2
  have h3 := Tryd.strings_CutPrefix s p w
  rw [h1, h2] at h3
  exact h3
theorem match_begin.named {P : Program} {f : FuncId} {args : Array Value} {W : World} {Q : Ending → World → Prop} (h : ∀ Wc, Wc = W → Calls P f args Wc Q) : Calls P f args W Q := h W rfl
theorem match_begin.three {W : World} {b : Nat} {x0 x1 x2 : Value} {t : TypeId} (h : W.heap[b]? = some (.cells #[x0, x1, x2] t (0, 0))) (y0 y1 y2 : Value) : (((W.setCell ⟨b, 0, none⟩ y0).setCell ⟨b, 1, none⟩ y1).setCell ⟨b, 2, none⟩ y2).drew.heap[b]? = some (.cells #[y0, y1, y2] t (0, 0)) :=
  blk_set (blk_set (blk_set h 0 y0) 1 y1) 2 y2
theorem match_begin.new0 (W : World) (k : Nat) (hk : k = W.heap.size) (a b : Value) (t : TypeId) : (W.alloc (.cells #[a, b] t)).cell? ⟨k, 0, none⟩ = some a := by
  subst hk
  exact blk_cell (blk_new W (.cells #[a, b] t)) 0
theorem match_begin.al {B : Nat} {w W : World} (h : Below B w W) (hs : B ≤ W.heap.size) (o : Obj) : Below B w (W.alloc o) := h.alloc hs o
set_option maxRecDepth 20000 in
set_option maxHeartbeats 8000000 in
theorem match_begin.one (w : World) : Calls Tryd.prog 67 #[.string ⟨#[97, 61, 34, 120, 34, 44, 98, 33, 126, 34, 121, 46, 42, 34, 125]⟩] w fun e w' => e = .returned (.tuple #[.agg #[.int .i64 1, .string ⟨#[97]⟩, .string ⟨#[120]⟩], .string ⟨#[44, 98, 33, 126, 34, 121, 46, 42, 34, 125]⟩, .bool true]) ∧ Below w.heap.size w w' := by
  obtain ⟨Wa, hWa⟩ : ∃ Wa, Aside0 (w.alloc (.cells #[.int .i64 0, .string ⟨#[]⟩, .string ⟨#[]⟩] 35) = Wa) := ⟨_, ⟨rfl⟩⟩
  have HBa : Aside0 (Below w.heap.size w Wa) := ⟨by rw [← hWa.out]; exact below_alloc (Below.refl _ _) _⟩
  have HMa : Aside0 (Wa.heap[w.heap.size]? = some (.cells #[.int .i64 0, .string ⟨#[]⟩, .string ⟨#[]⟩] 35 (0, 0))) := ⟨by rw [← hWa.out]; exact blk_new _ _⟩
  go_enter Tryd.func67, Tryd.ntmps67
  go_wp2_with (first
    | (go_at_call 97; rw [hWa.out]; refine (Tryd.strings_IndexFunc_grows 98 #[] match_begin.enter match_begin.sg _ _ (match_begin.pred _)).mono ?_; rintro e W1 ⟨rfl, hB1⟩; rw [show Lib.idxFunc match_begin.sg true ⟨#[97, 61, 34, 120, 34, 44, 98, 33, 126, 34, 121, 46, 42, 34, 125]⟩ = 1 from by kernel_rfl]; have HB1 : Aside0 (Below w.heap.size w W1) := ⟨below_then HBa.out HBa.out.size hB1⟩; have HM1 := Aside0.mk (blk_below HMa.out hB1); clear hB1)
    | (go_at_call 99; (with_reducible refine (match_begin.signs W1).mono ?_); rintro e W2 ⟨rfl, hB2⟩; have HB2 : Aside0 (Below w.heap.size w W2) := ⟨below_then HB1.out HB1.out.size hB2⟩; have HM2 := Aside0.mk (blk_below HM1.out hB2); clear hB2))
  have x0 : ∀ W, _ = _ := match_begin.ix0
  have x1 : ∀ W, _ = _ := match_begin.ix1
  have x2 : ∀ W, _ = _ := match_begin.ix2
  have x3 : ∀ W, _ = _ := match_begin.ix3
  unfold match_begin.arr at x0 x1 x2 x3
  have hcut : (⟨#[97, 61, 34, 120, 34, 44, 98, 33, 126, 34, 121, 46, 42, 34, 125]⟩ : ByteArray).extract 1 15 = ⟨#[61, 34, 120, 34, 44, 98, 33, 126, 34, 121, 46, 42, 34, 125]⟩ := by kernel_rfl
  have hhead : (⟨#[97, 61, 34, 120, 34, 44, 98, 33, 126, 34, 121, 46, 42, 34, 125]⟩ : ByteArray).extract 0 1 = ⟨#[97]⟩ := by kernel_rfl
  refine wp_loop_rounds 5 ?_
  rw [rounds_succ]
  go_wp2
  go_quiet ((go_at_call 66; exact Calls.quiet_of_same (match_begin.cut ⟨#[61, 34, 120, 34, 44, 98, 33, 126, 34, 121, 46, 42, 34, 125]⟩ ⟨#[33, 61]⟩ _ ⟨#[61, 34, 120, 34, 44, 98, 33, 126, 34, 121, 46, 42, 34, 125]⟩ false (by kernel_rfl))))
  go_wp2
  rw [rounds_succ]
  go_wp2
  go_quiet ((go_at_call 66; exact Calls.quiet_of_same (match_begin.cut ⟨#[61, 34, 120, 34, 44, 98, 33, 126, 34, 121, 46, 42, 34, 125]⟩ ⟨#[61, 126]⟩ _ ⟨#[61, 34, 120, 34, 44, 98, 33, 126, 34, 121, 46, 42, 34, 125]⟩ false (by kernel_rfl))))
  go_wp2
  rw [rounds_succ]
  go_wp2
  go_quiet ((go_at_call 66; exact Calls.quiet_of_same (match_begin.cut ⟨#[61, 34, 120, 34, 44, 98, 33, 126, 34, 121, 46, 42, 34, 125]⟩ ⟨#[33, 126]⟩ _ ⟨#[61, 34, 120, 34, 44, 98, 33, 126, 34, 121, 46, 42, 34, 125]⟩ false (by kernel_rfl))))
  go_wp2
  rw [rounds_succ]
  go_wp2
  go_quiet ((go_at_call 66; exact Calls.quiet_of_same (match_begin.cut ⟨#[61, 34, 120, 34, 44, 98, 33, 126, 34, 121, 46, 42, 34, 125]⟩ ⟨#[61]⟩ _ ⟨#[34, 120, 34, 44, 98, 33, 126, 34, 121, 46, 42, 34, 125]⟩ true (by kernel_rfl))))
  go_wp2_with (first
    | (go_at_call 100; refine match_begin.named (fun Wc hWc => ?_)
       have hm : Wc.heap[w.heap.size]? = some (.cells #[.int .i64 0, .string ⟨#[]⟩, .string ⟨#[]⟩] 35 (0, 0)) := by rw [hWc]; exact (blk_alloc (blk_alloc (blk_alloc (blk_alloc HM2.out _) _) _) _)
       have hbx : Wc.cell? ⟨W2.heap.size + 1 + 1 + 1, 0, none⟩ = some (.int .i64 1) := by rw [hWc]; exact match_begin.new0 _ _ (by simp) _ _ _
       have hbz : W2.heap.size + 1 + 1 + 1 < Wc.heap.size := by rw [hWc]; simp
       have hbc : Below w.heap.size w Wc := by rw [hWc]; repeat (first | exact HB2.out | apply pw_below_drewN | refine match_begin.al ?_ (by have := HB2.out.size; first | exact this | (simp; omega)) _)
       (with_reducible refine (labels_Unquote.calls ⟨#[34, 120, 34, 44, 98, 33, 126, 34, 121, 46, 42, 34, 125]⟩ ⟨#[120]⟩ ⟨#[44, 98, 33, 126, 34, 121, 46, 42, 34, 125]⟩ 0 Wc (by kernel_rfl)).mono ?_)
       rintro e W9 ⟨rfl, hB9⟩
       have hm9 := blk_below hm hB9
       have u0 := blk_cell hm9 0
       have u1 := blk_cell hm9 1
       have u2 := blk_cell hm9 2
       have v0 := blk_frozen hm9 0
       have v1 := blk_frozen hm9 1
       have v2 := blk_frozen hm9 2
       have u7 : W9.cell? ⟨W2.heap.size + 1 + 1 + 1, 0, none⟩ = some (.int .i64 1) := (hB9.cell hbz).trans hbx
       have HB9 : Aside0 (Below w.heap.size w W9) := ⟨below_then hbc hbc.size hB9⟩
       simp only [List.size_toArray, List.length_cons, List.length_nil, List.getElem?_toArray, List.getElem?_cons_zero, List.getElem?_cons_succ] at u0 u1 u2
       have HM9 := Aside0.mk hm9
       clear hB9 hm9 hm hbx hbz hbc hWc))
  go_region
  have HMF := Aside0.mk (match_begin.three HM9.out (.int .i64 1) (.string ⟨#[97]⟩) (.string ⟨#[120]⟩))
  have HBF : Aside0 (Below w.heap.size w (((W9.setCell ⟨w.heap.size, 0, none⟩ (.int .i64 1)).setCell ⟨w.heap.size, 1, none⟩ (.string ⟨#[97]⟩)).setCell ⟨w.heap.size, 2, none⟩ (.string ⟨#[120]⟩)).drew) := ⟨(((HB9.out.setCell (Nat.le_refl _) _).setCell (Nat.le_refl _) _).setCell (Nat.le_refl _) _).drew⟩
  obtain ⟨WF, hWF⟩ : ∃ WF, Aside0 ((((W9.setCell ⟨w.heap.size, 0, none⟩ (.int .i64 1)).setCell ⟨w.heap.size, 1, none⟩ (.string ⟨#[97]⟩)).setCell ⟨w.heap.size, 2, none⟩ (.string ⟨#[120]⟩)).drew = WF) := ⟨_, ⟨rfl⟩⟩
  rw [hWF.out] at HMF HBF ⊢
  have r0 := blk_cell HMF.out 0
  have r1 := blk_cell HMF.out 1
  have r2 := blk_cell HMF.out 2
  simp only [List.size_toArray, List.length_cons, List.length_nil, List.getElem?_toArray, List.getElem?_cons_zero, List.getElem?_cons_succ] at r0 r1 r2
  go_wp2
  refine bodyPost_ret (by simp [results, Tryd.results67, go_sem, r0, r1, r2]; try rfl) rfl ?_
  exact ⟨rfl, HBF.out⟩
set_option maxRecDepth 20000 in
set_option maxHeartbeats 8000000 in
theorem match_begin.two (w : World) : Calls Tryd.prog 67 #[.string ⟨#[98, 33, 126, 34, 121, 46, 42, 34, 125]⟩] w fun e w' => e = .returned (.tuple #[.agg #[.int .i64 4, .string ⟨#[98]⟩, .string ⟨#[121, 46, 42]⟩], .string ⟨#[125]⟩, .bool true]) ∧ Below w.heap.size w w' := by
  obtain ⟨Wa, hWa⟩ : ∃ Wa, Aside0 (w.alloc (.cells #[.int .i64 0, .string ⟨#[]⟩, .string ⟨#[]⟩] 35) = Wa) := ⟨_, ⟨rfl⟩⟩
  have HBa : Aside0 (Below w.heap.size w Wa) := ⟨by rw [← hWa.out]; exact below_alloc (Below.refl _ _) _⟩
  have HMa : Aside0 (Wa.heap[w.heap.size]? = some (.cells #[.int .i64 0, .string ⟨#[]⟩, .string ⟨#[]⟩] 35 (0, 0))) := ⟨by rw [← hWa.out]; exact blk_new _ _⟩
  go_enter Tryd.func67, Tryd.ntmps67
  go_wp2_with (first
    | (go_at_call 97; rw [hWa.out]; refine (Tryd.strings_IndexFunc_grows 98 #[] match_begin.enter match_begin.sg _ _ (match_begin.pred _)).mono ?_; rintro e W1 ⟨rfl, hB1⟩; rw [show Lib.idxFunc match_begin.sg true ⟨#[98, 33, 126, 34, 121, 46, 42, 34, 125]⟩ = 1 from by kernel_rfl]; have HB1 : Aside0 (Below w.heap.size w W1) := ⟨below_then HBa.out HBa.out.size hB1⟩; have HM1 := Aside0.mk (blk_below HMa.out hB1); clear hB1)
    | (go_at_call 99; (with_reducible refine (match_begin.signs W1).mono ?_); rintro e W2 ⟨rfl, hB2⟩; have HB2 : Aside0 (Below w.heap.size w W2) := ⟨below_then HB1.out HB1.out.size hB2⟩; have HM2 := Aside0.mk (blk_below HM1.out hB2); clear hB2))
  have x0 : ∀ W, _ = _ := match_begin.ix0
  have x1 : ∀ W, _ = _ := match_begin.ix1
  have x2 : ∀ W, _ = _ := match_begin.ix2
  have x3 : ∀ W, _ = _ := match_begin.ix3
  unfold match_begin.arr at x0 x1 x2 x3
  have hcut : (⟨#[98, 33, 126, 34, 121, 46, 42, 34, 125]⟩ : ByteArray).extract 1 9 = ⟨#[33, 126, 34, 121, 46, 42, 34, 125]⟩ := by kernel_rfl
  have hhead : (⟨#[98, 33, 126, 34, 121, 46, 42, 34, 125]⟩ : ByteArray).extract 0 1 = ⟨#[98]⟩ := by kernel_rfl
  refine wp_loop_rounds 5 ?_
  rw [rounds_succ]
  go_wp2
  go_quiet ((go_at_call 66; exact Calls.quiet_of_same (match_begin.cut ⟨#[33, 126, 34, 121, 46, 42, 34, 125]⟩ ⟨#[33, 61]⟩ _ ⟨#[33, 126, 34, 121, 46, 42, 34, 125]⟩ false (by kernel_rfl))))
  go_wp2
  rw [rounds_succ]
  go_wp2
  go_quiet ((go_at_call 66; exact Calls.quiet_of_same (match_begin.cut ⟨#[33, 126, 34, 121, 46, 42, 34, 125]⟩ ⟨#[61, 126]⟩ _ ⟨#[33, 126, 34, 121, 46, 42, 34, 125]⟩ false (by kernel_rfl))))
  go_wp2
  rw [rounds_succ]
  go_wp2
  go_quiet ((go_at_call 66; exact Calls.quiet_of_same (match_begin.cut ⟨#[33, 126, 34, 121, 46, 42, 34, 125]⟩ ⟨#[33, 126]⟩ _ ⟨#[34, 121, 46, 42, 34, 125]⟩ true (by kernel_rfl))))
  go_wp2_with (first
    | (go_at_call 100; refine match_begin.named (fun Wc hWc => ?_)
       have hm : Wc.heap[w.heap.size]? = some (.cells #[.int .i64 0, .string ⟨#[]⟩, .string ⟨#[]⟩] 35 (0, 0)) := by rw [hWc]; exact (blk_alloc (blk_alloc (blk_alloc HM2.out _) _) _)
       have hbx : Wc.cell? ⟨W2.heap.size + 1 + 1, 0, none⟩ = some (.int .i64 4) := by rw [hWc]; exact match_begin.new0 _ _ (by simp) _ _ _
       have hbz : W2.heap.size + 1 + 1 < Wc.heap.size := by rw [hWc]; simp
       have hbc : Below w.heap.size w Wc := by rw [hWc]; repeat (first | exact HB2.out | apply pw_below_drewN | refine match_begin.al ?_ (by have := HB2.out.size; first | exact this | (simp; omega)) _)
       (with_reducible refine (labels_Unquote.calls ⟨#[34, 121, 46, 42, 34, 125]⟩ ⟨#[121, 46, 42]⟩ ⟨#[125]⟩ 0 Wc (by kernel_rfl)).mono ?_)
       rintro e W9 ⟨rfl, hB9⟩
       have hm9 := blk_below hm hB9
       have u0 := blk_cell hm9 0
       have u1 := blk_cell hm9 1
       have u2 := blk_cell hm9 2
       have v0 := blk_frozen hm9 0
       have v1 := blk_frozen hm9 1
       have v2 := blk_frozen hm9 2
       have u7 : W9.cell? ⟨W2.heap.size + 1 + 1, 0, none⟩ = some (.int .i64 4) := (hB9.cell hbz).trans hbx
       have HB9 : Aside0 (Below w.heap.size w W9) := ⟨below_then hbc hbc.size hB9⟩
       simp only [List.size_toArray, List.length_cons, List.length_nil, List.getElem?_toArray, List.getElem?_cons_zero, List.getElem?_cons_succ] at u0 u1 u2
       have HM9 := Aside0.mk hm9
       clear hB9 hm9 hm hbx hbz hbc hWc))
  go_region
  have HMF := Aside0.mk (match_begin.three HM9.out (.int .i64 4) (.string ⟨#[98]⟩) (.string ⟨#[121, 46, 42]⟩))
  have HBF : Aside0 (Below w.heap.size w (((W9.setCell ⟨w.heap.size, 0, none⟩ (.int .i64 4)).setCell ⟨w.heap.size, 1, none⟩ (.string ⟨#[98]⟩)).setCell ⟨w.heap.size, 2, none⟩ (.string ⟨#[121, 46, 42]⟩)).drew) := ⟨(((HB9.out.setCell (Nat.le_refl _) _).setCell (Nat.le_refl _) _).setCell (Nat.le_refl _) _).drew⟩
  obtain ⟨WF, hWF⟩ : ∃ WF, Aside0 ((((W9.setCell ⟨w.heap.size, 0, none⟩ (.int .i64 4)).setCell ⟨w.heap.size, 1, none⟩ (.string ⟨#[98]⟩)).setCell ⟨w.heap.size, 2, none⟩ (.string ⟨#[121, 46, 42]⟩)).drew = WF) := ⟨_, ⟨rfl⟩⟩
  rw [hWF.out] at HMF HBF ⊢
  have r0 := blk_cell HMF.out 0
  have r1 := blk_cell HMF.out 1
  have r2 := blk_cell HMF.out 2
  simp only [List.size_toArray, List.length_cons, List.length_nil, List.getElem?_toArray, List.getElem?_cons_zero, List.getElem?_cons_succ] at r0 r1 r2
  go_wp2
  refine bodyPost_ret (by simp [results, Tryd.results67, go_sem, r0, r1, r2]; try rfl) rfl ?_
  exact ⟨rfl, HBF.out⟩

end Go.Proofs.YtgnehcgaplnfkaaDoor.PAll
