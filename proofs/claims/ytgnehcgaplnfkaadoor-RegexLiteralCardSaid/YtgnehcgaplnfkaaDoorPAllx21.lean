-- Written by a program of this seat (wip/tools), out of the translation. Not trusted: Lean checks it.
import Derived.Test.YtgnehcgaplnfkaaDoorPAllx0
namespace Go.Proofs.YtgnehcgaplnfkaaDoor.PAll
open Go.RowKit Go.Proofs.YtgnehcgaplnfkaaDoorW.PrintWords Go.Proofs.YtgnehcgaplnfkaaDoorW.PrintLast Go.Proofs.YtgnehcgaplnfkaaDoorW.PrintMore
attribute [local go_sem] max2_int min2_int max_two min_two max_three min_three max_four min_four   -- for this text's walks alone
set_option linter.unusedVariables false
set_option linter.unusedSimpArgs false

/-! ### regex_inst_fits: function 32 -/
-- uses regex_inst
def regex_inst_fits.f : Option Int := none
/-- A code point between two. -/
def regex_inst_fits.inS (r : Int) (s : S95) : Bool := decide (s.f0 ≤ r) && decide (r ≤ s.f1)
def regex_inst_fits.fitsB (no : Bool) (l : List S95) (r : Int) : Bool := no != l.any (regex_inst_fits.inS r)
set_option maxHeartbeats 400000 in
theorem regex_inst_fits.test (lo hi r : Int) (g : Nat) (w : World) (hg : w.cell? ⟨g, 0, none⟩ = some (.int .i32 r)) :
    Calls Tryd.prog 56 #[.agg #[.int .i32 lo, .int .i32 hi], .pointer (some ⟨g, 0, none⟩)] w fun e w' => e = .returned (.bool (regex_inst_fits.inS r ⟨lo, hi⟩)) ∧ Below w.heap.size w w' := by
  have hlt := World.block_lt_of_cell? w _ hg
  have hne : g ≠ w.heap.size := by simp only at hlt; omega
  have HR : Aside0 (regex_inst_fits.inS r ⟨lo, hi⟩ = (decide (lo ≤ r) && decide (r ≤ hi))) := ⟨rfl⟩
  rw [HR.out]
  go_enter Tryd.func56, Tryd.ntmps56
  go_wp2
  all_goals
    go_ret
    refine ⟨?_, (Below.refl _ w).alloc (Nat.le_refl _) _⟩
    simp_all
  all_goals omega
theorem regex_inst_fits.any_hit (p : S95 → Bool) (l : List S95) (x : Nat) (hx : x < l.length) (h : p (rd_T95 l x) = true) : l.any p = true := by
  refine List.any_eq_true.2 ⟨l[x]'hx, List.getElem_mem hx, ?_⟩
  have h9 : rd_T95 l (x : Int) = l[x]'hx := by simp [rd_T95, hx]
  rwa [h9] at h
theorem regex_inst_fits.any_miss (p : S95 → Bool) (l : List S95) (h : ∀ j : Nat, j < l.length → p (rd_T95 l j) = false) : l.any p = false := by
  refine List.any_eq_false.2 fun y hy => ?_
  obtain ⟨x, hx, rfl⟩ := List.getElem_of_mem hy
  have h9 : rd_T95 l (x : Int) = l[x]'hx := by simp [rd_T95, hx]
  have := h x hx
  rw [h9] at this
  simp [this]
set_option maxHeartbeats 1000000 in
theorem regex_inst_fits.index (A : Option Addr) (c : Nat) (l : List S95) (r : Int) (g : Nat) (w : World) (hr : Kd.C k95 w A l.length l) (hm : l.length ≤ 9223372036854775807) (hg : w.cell? ⟨g, 0, none⟩ = some (.int .i32 r)) :
    Calls Tryd.prog 87 #[.slice A l.length c, .func (.func 56) #[] #[.pointer (some ⟨g, 0, none⟩)]] w fun e w' =>
      (∃ i : Int, e = .returned (.int .i64 i) ∧ decide (0 ≤ i) = l.any (regex_inst_fits.inS r)) ∧ Below w.heap.size w w' := by
  have HR := Aside0.mk hr
  have HG := Aside0.mk hg
  have hgl := World.block_lt_of_cell? w _ hg
  clear hr hg
  go_enter Tryd.func87, Tryd.ntmps87
  go_wp2
  go_loopg [8] (l.length) (fun kq v8 wr => ∃ (x : Nat), x ≤ l.length ∧ v8 = .int .i64 x ∧ Aside0 (∀ j : Nat, j < x → regex_inst_fits.inS r (rd_T95 l j) = false) ∧ l.length ≤ kq + x ∧ Below w.heap.size w wr)
  case atStart => exact ⟨0, by omega, rfl, ⟨fun j hj => absurd hj (by omega)⟩, by omega, Below.refl _ _⟩
  case round =>
    obtain ⟨x, hx, rfl, HN, hk, hB⟩ := hrel
    have HB := Aside0.mk hB
    clear hB
    by_cases hlt : x < l.length
    · obtain ⟨ad, e, hc0, hc1⟩ := at_T95 HR.out (x : Int) (by omega) (by omega)
      subst e
      have hd0 : wr.cell? (ad.add (x * 2)) = some (.int .i32 (rd_T95 l x).f0) := (HB.out.cell (World.block_lt_of_cell? w _ (by simpa using hc0))).trans (by simpa using hc0)
      have hd1 : wr.cell? ⟨(ad.add (x * 2)).block, (ad.add (x * 2)).off + 1, none⟩ = some (.int .i32 (rd_T95 l x).f1) := (HB.out.cell (World.block_lt_of_cell? w _ (by simpa using hc1))).trans (by simpa using hc1)
      clear hc0 hc1
      have hg1 : wr.cell? ⟨g, 0, none⟩ = some (.int .i32 r) := (HB.out.cell (by simpa using hgl)).trans HG.out
      have HT := Aside0.mk (regex_inst_fits.test (rd_T95 l x).f0 (rd_T95 l x).f1 r g wr hg1)
      clear hg1
      have HE : Aside0 (regex_inst_fits.inS r ⟨(rd_T95 l x).f0, (rd_T95 l x).f1⟩ = regex_inst_fits.inS r (rd_T95 l x)) := ⟨rfl⟩
      rw [HE.out] at HT
      cases hb : regex_inst_fits.inS r (rd_T95 l x) with
      | true =>
        rw [hb] at HT
        go_wp2_with (go_at_call 56; refine HT.out.mono ?_; rintro e W1 ⟨rfl, hb1⟩)
        go_ret
        exact ⟨⟨x, rfl, by rw [regex_inst_fits.any_hit _ l x hlt hb]; simp⟩, HB.out.trans (hb1.mono HB.out.size)⟩
      | false =>
        rw [hb] at HT
        obtain ⟨g1, rfl⟩ : ∃ g1, gk = g1 + 1 := ⟨gk - 1, by omega⟩
        go_wp2_with (go_at_call 56; refine HT.out.mono ?_; rintro e W1 ⟨rfl, hb1⟩)
        go_roundg g1
        case rel =>
          refine ⟨x + 1, by omega, by go_num, ⟨fun j hj => ?_⟩, by omega, HB.out.trans (hb1.mono HB.out.size)⟩
          by_cases hjx : j = x
          · subst hjx
            exact hb
          · exact HN.out j (by omega)
        case measure => omega
    · go_wp2
      go_ret
      exact ⟨⟨-1, rfl, by rw [regex_inst_fits.any_miss _ l (fun j hj => HN.out j (by omega))]; rfl⟩, HB.out⟩
theorem regex_inst_fits.contains (A : Option Addr) (c : Nat) (l : List S95) (r : Int) (g : Nat) (w : World) (hr : Kd.C k95 w A l.length l) (hg : w.cell? ⟨g, 0, none⟩ = some (.int .i32 r)) :
    Calls Tryd.prog 55 #[.slice A l.length c, .func (.func 56) #[] #[.pointer (some ⟨g, 0, none⟩)]] w fun e w' => e = .returned (.bool (l.any (regex_inst_fits.inS r))) ∧ Below w.heap.size w w' := by
  have hm := hr.2.1
  go_enter Tryd.func55, Tryd.ntmps55
  go_wp2_with (go_at_call 87; refine (regex_inst_fits.index _ _ _ _ _ _ hr hm hg).mono ?_; rintro e W1 ⟨⟨i, rfl, hi⟩, hb1⟩)
  go_ret
  exact ⟨by rw [← hi]; simp, hb1⟩
set_option maxHeartbeats 2000000 in
theorem regex_inst_fits.calls (A : Option Addr) (c : Nat) (op x y r : Int) (no : Bool) (l : List S95) (w : World) (hr : Kd.C k95 w A l.length l) :
    Calls Tryd.prog 32 #[.agg #[.int .i64 op, .slice A l.length c, .bool no, .int .i64 x, .int .i64 y], .int .i32 r] w fun e w' => e = .returned (.bool (regex_inst_fits.fitsB no l r)) ∧ Below w.heap.size w w' := by
  obtain ⟨Wa, hWa⟩ : ∃ Wa, Aside0 ((w.alloc (.cells #[.int .i64 op, .slice A l.length c, .bool no, .int .i64 x, .int .i64 y] 62)).alloc (.cells #[.int .i32 r] 21) = Wa) := ⟨_, ⟨rfl⟩⟩
  have hC := hr
  have HR := Aside0.mk hr
  clear hr
  go_enter Tryd.func32, Tryd.ntmps32
  go_wp2_with fail
  rw [hWa.out]
  have hbl : Below w.heap.size w Wa := by
    rw [← hWa.out]
    exact ((Below.refl _ w).alloc (Nat.le_refl _) _).alloc (by simp) _
  have hb1 : Wa.heap[w.heap.size]? = some (.cells #[.int .i64 op, .slice A l.length c, .bool no, .int .i64 x, .int .i64 y] 62 (0, 0)) := by
    rw [← hWa.out]
    exact blk_alloc (blk_new _ _) _
  have hb2 : Wa.heap[w.heap.size + 1]? = some (.cells #[.int .i32 r] 21 (0, 0)) := by
    rw [← hWa.out]
    have h9 := blk_new (w.alloc (.cells #[.int .i64 op, .slice A l.length c, .bool no, .int .i64 x, .int .i64 y] 62)) (.cells #[.int .i32 r] 21)
    simpa using h9
  have c1 := blk_cell hb1 1
  have c2 := blk_cell hb1 2
  have c3 := blk_cell hb2 0
  simp only [List.size_toArray, List.length_cons, List.length_nil, List.getElem?_toArray, List.getElem?_cons_zero, List.getElem?_cons_succ] at c1 c2 c3
  have hCa : Aside0 (Kd.C k95 Wa A l.length l) := ⟨Kd.C_below HR.out hbl⟩
  have HBL := Aside0.mk hbl
  have HB1 := Aside0.mk hb1
  have HB2 := Aside0.mk hb2
  clear hbl hb1 hb2 hC
  go_region_held3 (fun w' => Below Wa.heap.size Wa w' ∧ w'.cell? ⟨w.heap.size, 2, none⟩ = some (.bool no) ∧ w'.cell? ⟨w.heap.size, 1, none⟩ = some (.slice A l.length c)) ((refine ⟨?_, ?_, ?_⟩) <;> (first | assumption | exact ⟨rfl, rfl, rfl, Nat.le_refl _, fun _ _ => rfl⟩ | go_keep)) (first | (go_at_call 55; refine (regex_inst_fits.contains A c l r (w.heap.size + 1) _ (Kd.C_below hCa.out ‹Below Wa.heap.size Wa _ ∧ _ ∧ _›.1) ?_).mono ?_; (exact (‹Below Wa.heap.size Wa _ ∧ _ ∧ _›.1.cell (blk_lt HB2.out)).trans c3); rintro e W2 ⟨rfl, hB2⟩; have hk0 : Below Wa.heap.size Wa W2 := below_then ‹Below Wa.heap.size Wa _ ∧ _ ∧ _›.1 (‹Below Wa.heap.size Wa _ ∧ _ ∧ _›.1.size) hB2; have hk1 : W2.cell? ⟨w.heap.size, 1, none⟩ = some (.slice A l.length c) := (hk0.cell (blk_lt HB1.out)).trans c1; have hk2 : W2.cell? ⟨w.heap.size, 2, none⟩ = some (.bool no) := (hk0.cell (blk_lt HB1.out)).trans c2; clear hB2))
  obtain ⟨hk0, _, _⟩ := ‹Below Wa.heap.size Wa _ ∧ _ ∧ _›
  go_wp2
  go_ret
  exact ⟨rfl, below_then HBL.out HBL.out.size hk0⟩

end Go.Proofs.YtgnehcgaplnfkaaDoor.PAll
